/- What functions of the program answer. Proved in this text: its theorems. Conditions: as each theorem states them. -/
import Derived.Test.YtjeoabbnalamcaaGreatDoorCFnExactFailedLinesP
import Derived.Test.YtjeoabbnalamcaaGreatDoorCFnExactFailedLinesF3
import Derived.Test.YtjeoabbnalamcaaGreatDoorCFnExactFailedLinesF2
import Derived.Test.YtjeoabbnalamcaaGreatDoorCFnExactFailedLinesF0
namespace Go.Proofs.YtjeoabbnalamcaaGreatDoor.P
open Go.RowKit Go.Proofs.YtjeoabbnalamcaaGreatDoorW.qa0 Go.Proofs.YtjeoabbnalamcaaGreatDoorW.PrintLast Go.Proofs.YtjeoabbnalamcaaGreatDoorW.PrintMore
set_option linter.unusedVariables false
set_option linter.unusedSimpArgs false
set_option maxHeartbeats 8000000
set_option maxRecDepth 100000
section
attribute [local go_sem] qg2 qg4 qij qik qgg qgh qg3 qg5
def qc3.f (k : Nat) (l0 : List (qac)) (a1 : Int) : Option (Int × Bool) := (qaV.f k l0).bind fun qat => (if qat = 0 then (some (0, false)) else ((qdZ.f a1).bind fun qaR => (if qaR = true then ((qbq.f k l0 qat).bind fun qce => (if (qce.length : Int) = 0 then (none) else (if 0 ≤ (Int.tmod a1 (qce.length : Int)) then (if (Int.tmod a1 (qce.length : Int)) < (qce.length : Int) then (some (wrap64 ((wrap64 ((wrap64 (Int.tdiv a1 (qce.length : Int))) * qat)) + (rd qce (Int.tmod a1 (qce.length : Int)))), true)) else (none)) else (none)))) else (some (0, false)))))
theorem qc3.calls (k : Nat) (A0 : Option Addr) (c0 : Nat) (l0 : List (qac)) (a1 : Int) (r1 : Int) (r2 : Bool) (w : World) (hr0 : Kd.C qaL w A0 l0.length l0) (hc0 : l0.length ≤ c0) (h : qc3.f k l0 a1 = some (r1, r2)) :
  Calls Tryz.prog 111 #[.slice A0 l0.length c0, .int .i64 a1] w fun e w' => e = .returned (.tuple #[.int .i64 r1, .bool r2]) ∧ Below w.heap.size w w' := by
 have HR0 := ak_ hr0; have HC0 := ak_ hc0; clear hr0 hc0; have HB := br_ w; have H : ((qaV.f k l0).bind fun qat => (if qat = 0 then (some (0, false)) else ((qdZ.f a1).bind fun qaR => (if qaR = true then ((qbq.f k l0 qat).bind fun qce => (if (qce.length : Int) = 0 then (none) else (if 0 ≤ (Int.tmod a1 (qce.length : Int)) then (if (Int.tmod a1 (qce.length : Int)) < (qce.length : Int) then (some (wrap64 ((wrap64 ((wrap64 (Int.tdiv a1 (qce.length : Int))) * qat)) + (rd qce (Int.tmod a1 (qce.length : Int)))), true)) else (none)) else (none)))) else (some (0, false)))))) = some (r1, r2) := h; clear h; obtain ⟨qat, A3, H⟩ := qay H; (try dsimp only at H); by_cases c4 : qat = 0
 ·rw [if_pos c4] at H; have qfx : (qat == 0) = true := beq_iff_eq.mpr c4; have qmK : (qat != 0) = false := bne_eq_false_iff_eq.mpr c4; clear c4; obtain ⟨rfl, rfl⟩ := qdF H; go_enter Tryz.func111, Tryz.ntmps111
  go_wp2_with (first | (go_at_call 162; (with_reducible refine (qaV.calls k _ _ l0 qat _ ?qaA ?qaB A3.out).mono ?_); (case qaA => exact qfN); (case qaB => exact qb5); rintro e w5 ⟨rfl, hb⟩; replace HB := HB.mw hb; (try clear hb)))
  repeat (go_quiet (first | (go_at_call 162; (with_reducible refine (qaV.calls k _ _ l0 qat _ ?qaA ?qaB A3.out).mono ?_); (case qaA => exact qfN); (case qaB => exact qb5); rintro e w5 ⟨rfl, hb⟩; replace HB := HB.mw hb; (try clear hb))); try go_wp2_with (first | (go_at_call 162; (with_reducible refine (qaV.calls k _ _ l0 qat _ ?qaA ?qaB A3.out).mono ?_); (case qaA => exact qfN); (case qaB => exact qb5); rintro e w5 ⟨rfl, hb⟩; replace HB := HB.mw hb; (try clear hb))))
  go_ret2
  exact ⟨qcf, qan⟩
 rw [if_neg c4] at H; have qfx : (qat == 0) = false := beq_eq_false_iff_ne.mpr c4; have qmK : (qat != 0) = true := bne_iff_ne.mpr c4; obtain ⟨qaR, A6, H⟩ := qay H; (try dsimp only at H); by_cases c7 : qaR = true; rotate_left
 ·replace c7 := Bool.eq_false_iff.mpr c7; subst c7; rw [if_neg ff_] at H; obtain ⟨rfl, rfl⟩ := qdF H; go_enter Tryz.func111, Tryz.ntmps111
  go_wp2_with (first | (go_at_call 162; (with_reducible refine (qaV.calls k _ _ l0 qat _ ?qaA ?qaB A3.out).mono ?_); (case qaA => exact qfN); (case qaB => exact qb5); rintro e w16 ⟨rfl, hb⟩; replace HB := HB.mw hb; (try clear hb)) | (go_at_call 165; (with_reducible refine (qdZ.calls a1 false _ A6.out).mono ?_); rintro e w' ⟨rfl, ⟨nd, rfl⟩⟩; (try first | exact ⟨rfl, _, World.drewN_drewN _ _ _⟩ | exact ⟨rfl, _, Eq.trans (World.drewN_drewN _ _ _) (congrArg (World.drewN _) (Nat.add_assoc _ _ _))⟩)))
  repeat (go_quiet (first | (go_at_call 162; (with_reducible refine (qaV.calls k _ _ l0 qat _ ?qaA ?qaB A3.out).mono ?_); (case qaA => exact qfN); (case qaB => exact qb5); rintro e w16 ⟨rfl, hb⟩; replace HB := HB.mw hb; (try clear hb)) | (go_at_call 165; (with_reducible refine (qdZ.calls a1 false _ A6.out).mono ?_); rintro e w' ⟨rfl, ⟨nd, rfl⟩⟩; (try first | exact ⟨rfl, _, World.drewN_drewN _ _ _⟩ | exact ⟨rfl, _, Eq.trans (World.drewN_drewN _ _ _) (congrArg (World.drewN _) (Nat.add_assoc _ _ _))⟩))); try go_wp2_with (first | (go_at_call 162; (with_reducible refine (qaV.calls k _ _ l0 qat _ ?qaA ?qaB A3.out).mono ?_); (case qaA => exact qfN); (case qaB => exact qb5); rintro e w16 ⟨rfl, hb⟩; replace HB := HB.mw hb; (try clear hb)) | (go_at_call 165; (with_reducible refine (qdZ.calls a1 false _ A6.out).mono ?_); rintro e w' ⟨rfl, ⟨nd, rfl⟩⟩; (try first | exact ⟨rfl, _, World.drewN_drewN _ _ _⟩ | exact ⟨rfl, _, Eq.trans (World.drewN_drewN _ _ _) (congrArg (World.drewN _) (Nat.add_assoc _ _ _))⟩))))
  go_ret2
  exact ⟨qcf, qan⟩
 subst c7; rw [if_pos rfl] at H; obtain ⟨qce, A8, H⟩ := qay H; (try dsimp only at H); by_cases c9 : (qce.length : Int) = 0
 ·rw [if_pos c9] at H; exact absurd H (by simp)
 rw [if_neg c9] at H; have qln : ((qce.length : Int) == 0) = false := beq_eq_false_iff_ne.mpr c9; have c9b1 : ((qce.length : Int) != 0) = true := bne_iff_ne.mpr c9
 have c9b2 : ¬ (qce = []) := fun h_ => c9 (by rw [h_]; rfl)
 obtain ⟨qjE, qjD⟩ : ∃ j_ : Int, (Int.tmod a1 (qce.length : Int)) = j_ := ⟨_, rfl⟩
 replace H : (if 0 ≤ (qjE) then (if (qjE) < (qce.length : Int) then (some (wrap64 ((wrap64 ((wrap64 (Int.tdiv a1 (qce.length : Int))) * qat)) + (rd qce (qjE))), true)) else (none)) else (none)) = some (r1, r2) := by first | (rw [qjD] at H; exact H) | (simp only [qjD] at H ⊢; exact H)
 (try rw [qjD] at A3); (try rw [qjD] at A6); (try rw [qjD] at A8); obtain ⟨c11, H⟩ := qck H; have qfQ := decide_eq_true c11; clear c11; obtain ⟨c12, H⟩ := qck H; have qhg := decide_eq_true c12; clear c12; obtain ⟨rfl, rfl⟩ := qdF H; go_enter Tryz.func111, Tryz.ntmps111
 go_wp2_with (first | (go_at_call 162; (with_reducible refine (qaV.calls k _ _ l0 qat _ ?qaA ?qaB A3.out).mono ?_); (case qaA => exact qfN); (case qaB => exact qb5); rintro e w13 ⟨rfl, hb⟩; replace HB := HB.mw hb; (try clear hb)) | (go_at_call 165; (with_reducible refine (qdZ.calls a1 true _ A6.out).mono ?_); rintro e w' ⟨rfl, ⟨nd, rfl⟩⟩; (try first | exact ⟨rfl, _, World.drewN_drewN _ _ _⟩ | exact ⟨rfl, _, Eq.trans (World.drewN_drewN _ _ _) (congrArg (World.drewN _) (Nat.add_assoc _ _ _))⟩)) | (go_at_call 163; (with_reducible refine (qbq.calls k _ _ l0 qat qce _ ?qaA ?qaB A8.out).mono ?_); (case qaA => exact k26_); (case qaB => exact qb5); rintro e w14 ⟨qtn, rfl, ho0, hb⟩; have qeI := ak_ (Kd.qax ho0 (qab qan)); replace HB := HB.mw hb; (try clear hb ho0); obtain ⟨Ao15, co15, eo15⟩ := Kd.qaI qeI.out; subst eo15; have qfI : 0 ≤ ((qjE) : Int) := of_decide_eq_true qaO; have qfK : (qjE) < (qce.length : Int) := of_decide_eq_true qaO; obtain ⟨qgS, qjC, qcr⟩ := Kd.qdO (Kd.qao qeI.out).2.2 (qjE) qfI qfK; cases qjC; replace qfI := eq_true qfI; replace qfK := eq_true qfK))
 repeat (go_quiet (first | (go_at_call 162; (with_reducible refine (qaV.calls k _ _ l0 qat _ ?qaA ?qaB A3.out).mono ?_); (case qaA => exact qfN); (case qaB => exact qb5); rintro e w13 ⟨rfl, hb⟩; replace HB := HB.mw hb; (try clear hb)) | (go_at_call 165; (with_reducible refine (qdZ.calls a1 true _ A6.out).mono ?_); rintro e w' ⟨rfl, ⟨nd, rfl⟩⟩; (try first | exact ⟨rfl, _, World.drewN_drewN _ _ _⟩ | exact ⟨rfl, _, Eq.trans (World.drewN_drewN _ _ _) (congrArg (World.drewN _) (Nat.add_assoc _ _ _))⟩)) | (go_at_call 163; (with_reducible refine (qbq.calls k _ _ l0 qat qce _ ?qaA ?qaB A8.out).mono ?_); (case qaA => exact k26_); (case qaB => exact qb5); rintro e w14 ⟨qtn, rfl, ho0, hb⟩; have qeI := ak_ (Kd.qax ho0 (qab qan)); replace HB := HB.mw hb; (try clear hb ho0); obtain ⟨Ao15, co15, eo15⟩ := Kd.qaI qeI.out; subst eo15; have qfI : 0 ≤ ((qjE) : Int) := of_decide_eq_true qaO; have qfK : (qjE) < (qce.length : Int) := of_decide_eq_true qaO; obtain ⟨qgS, qjC, qcr⟩ := Kd.qdO (Kd.qao qeI.out).2.2 (qjE) qfI qfK; cases qjC; replace qfI := eq_true qfI; replace qfK := eq_true qfK)); try go_wp2_with (first | (go_at_call 162; (with_reducible refine (qaV.calls k _ _ l0 qat _ ?qaA ?qaB A3.out).mono ?_); (case qaA => exact qfN); (case qaB => exact qb5); rintro e w13 ⟨rfl, hb⟩; replace HB := HB.mw hb; (try clear hb)) | (go_at_call 165; (with_reducible refine (qdZ.calls a1 true _ A6.out).mono ?_); rintro e w' ⟨rfl, ⟨nd, rfl⟩⟩; (try first | exact ⟨rfl, _, World.drewN_drewN _ _ _⟩ | exact ⟨rfl, _, Eq.trans (World.drewN_drewN _ _ _) (congrArg (World.drewN _) (Nat.add_assoc _ _ _))⟩)) | (go_at_call 163; (with_reducible refine (qbq.calls k _ _ l0 qat qce _ ?qaA ?qaB A8.out).mono ?_); (case qaA => exact k26_); (case qaB => exact qb5); rintro e w14 ⟨qtn, rfl, ho0, hb⟩; have qeI := ak_ (Kd.qax ho0 (qab qan)); replace HB := HB.mw hb; (try clear hb ho0); obtain ⟨Ao15, co15, eo15⟩ := Kd.qaI qeI.out; subst eo15; have qfI : 0 ≤ ((qjE) : Int) := of_decide_eq_true qaO; have qfK : (qjE) < (qce.length : Int) := of_decide_eq_true qaO; obtain ⟨qgS, qjC, qcr⟩ := Kd.qdO (Kd.qao qeI.out).2.2 (qjE) qfI qfK; cases qjC; replace qfI := eq_true qfI; replace qfK := eq_true qfK)))
 go_ret2
 exact ⟨by first | rfl | (simp [qd0, qd1] <;> rfl) | (simp only [← qjD]; first | rfl | (simp [qd0, qd1] <;> rfl)) | (simp [*, qd0, qd1] <;> rfl), qan⟩
def qcm.l0 : Nat → ByteArray → List (List Int) → Int → Int → Option (ByteArray)
 | 0, _, _, _, _ => none
 | k + 1, x5, x10, x11, x12 => if x12 < x11 then (if 0 ≤ x12 then (if x12 < (x10.length : Int) then (if x12 > 0 then (if x5.size + 1 ≤ 9223372036854775807 then ((qbT.f k (qbg x10 x12)).bind fun qaR => (if (x5 ++ (⟨#[47]⟩ : ByteArray)).size + qaR.size ≤ 9223372036854775807 then (qcm.l0 k ((x5 ++ (⟨#[47]⟩ : ByteArray)) ++ qaR) x10 x11 (wrap64 (x12 + 1))) else (none))) else (none)) else ((qbT.f k (qbg x10 x12)).bind fun qce => (if x5.size + qce.size ≤ 9223372036854775807 then (qcm.l0 k (x5 ++ qce) x10 x11 (wrap64 (x12 + 1))) else (none)))) else (none)) else (none)) else (if x5.toList = ([] : List UInt8) then (some (⟨#[45]⟩ : ByteArray)) else (some x5))
def qcm.f (k : Nat) (l0 : List (List Int)) (a1 : Bool) : Option (ByteArray) := if a1 = true then (qcm.l0 k (⟨#[]⟩ : ByteArray) l0 (l0.length : Int) 0) else (some (⟨#[110, 111]⟩ : ByteArray))
theorem qcm.calls (k : Nat) (A0 : Option Addr) (c0 : Nat) (l0 : List (List Int)) (a1 : Bool) (r : ByteArray) (w : World) (hr0 : Kd.C (Kd.slice 3 (Kd.int .i64)) w A0 l0.length l0) (hc0 : l0.length ≤ c0) (h : qcm.f k l0 a1 = some r) :
  Calls Tryz.prog 112 #[.slice A0 l0.length c0, .bool a1] w fun e w' => e = .returned (.string r) ∧ Below w.heap.size w w' := by
 have HR0 := ak_ hr0; have HC0 := ak_ hc0; clear hr0 hc0; have HB := br_ w; have H : (if a1 = true then (qcm.l0 k (⟨#[]⟩ : ByteArray) l0 (l0.length : Int) 0) else (some (⟨#[110, 111]⟩ : ByteArray))) = some r := h; clear h; by_cases c3 : a1 = true; rotate_left
 ·replace c3 := Bool.eq_false_iff.mpr c3; subst c3; rw [if_neg ff_] at H; obtain rfl := sj_ H; go_enter Tryz.func112, Tryz.ntmps112; go_wp2
  go_ret
  exact ⟨qcf, qan⟩
 subst c3; rw [if_pos rfl] at H; have H' := ak_ H; clear H; go_enter Tryz.func112, Tryz.ntmps112; go_wp2
 go_loopg [5, 12] k (fun kq v5 v12 w' => ∃ (qcn : ByteArray) (qdo : Int), v5 = .string qcn ∧ v12 = .int .i64 qdo ∧ qag (qcm.l0 kq qcn l0 (l0.length : Int) qdo = some r) ∧ qag (kq ≤ k) ∧ qag (Below w.heap.size w w'))
 case atStart => exact ⟨((⟨#[]⟩ : ByteArray)), (0), qav, qav, H', ⟨Nat.le_refl _⟩, ⟨qan⟩⟩
 case round =>
  clear H'; (try clear c3); obtain ⟨qcn, qdo, rfl, rfl, HA, HK1, HB⟩ := hrel
  cases gk with
  | zero => exact absurd HA.out (by simp [qcm.l0])
  | succ k1 =>
   have H := HA.out; clear HA; simp only [qcm.l0] at H; by_cases c4 : qdo < (l0.length : Int); rotate_left
   ·rw [if_neg c4] at H; have qfx := decide_eq_false c4; clear c4; by_cases c15 : qcn.toList = ([] : List UInt8)
    ·rw [if_pos c15] at H; have qm2 : (qcn.toList == ([] : List UInt8)) = true := beq_iff_eq.mpr c15; have qop : (qcn.toList != ([] : List UInt8)) = false := bne_eq_false_iff_eq.mpr c15; clear c15; obtain rfl := sj_ H; go_wp2
     go_ret
     exact ⟨qcf, qan⟩
    rw [if_neg c15] at H; have qm2 : (qcn.toList == ([] : List UInt8)) = false := beq_eq_false_iff_ne.mpr c15; have qop : (qcn.toList != ([] : List UInt8)) = true := bne_iff_ne.mpr c15; obtain rfl := sj_ H; go_wp2
    go_ret
    exact ⟨qcf, qan⟩
   rw [if_pos c4] at H; have qfx := decide_eq_true c4; clear c4; obtain ⟨c5, H⟩ := qck H; have qgJ := decide_eq_true c5; clear c5; obtain ⟨c6, H⟩ := qck H; have qgk := decide_eq_true c6; clear c6; by_cases c7 : qdo > 0; rotate_left
   ·rw [if_neg c7] at H; have qgU : decide (0 < qdo) = false := decide_eq_false c7; clear c7; obtain ⟨qce, A12, H⟩ := qay H; (try dsimp only at H); obtain ⟨c13, H⟩ := qck H; have qk6 := eq_true c13; have c13b1 := decide_eq_true c13
    try have c13b2 : (9223372036854775807 < qcn.size + qce.size) = False := eq_false (Nat.not_lt.2 c13)
    have H' := ak_ H; clear H; have qeE : 0 ≤ (qdo : Int) := of_decide_eq_true qaO; have qeN : qdo < (l0.length : Int) := of_decide_eq_true qaO; obtain ⟨qhf, qre, qrB, qhh, qbw, qkt, qkq⟩ := qiX HR0.out qdo qeE qeN
    cases qhh
    replace qbw := (HB.out.cell (World.block_lt_of_cell? w _ qbw)).trans qbw; have qn9 := ak_ qkq; have qn5 := ak_ qkt; clear qkq qkt; replace qeE := eq_true qeE; replace qeN := eq_true qeN
    go_wp2_with (first | (refine gl_ 23 Tryz.func158 #[.slice qre (qbg l0 qdo).length qrB] rfl qbK ?_; (with_reducible refine (qbT.calls k1 _ _ (qbg l0 qdo) qce _ ?qaA ?qaB A12.out).mono ?_); (case qaA => repeat (first | exact (Kd.qeg qn9.out HB.out) | (with_reducible refine Kd.C_alloc ?_ _) | (with_reducible refine Kd.C_drewN ?_ _) | (with_reducible refine Kd.C_drew ?_))); (case qaB => exact qn5.out); rintro e w14 ⟨rfl, hb⟩; refine ⟨_, rfl, ?_⟩; replace HB := HB.mw hb; (try clear hb)))
    go_roundg k1
    case measure => have := HK1.out; omega
    case rel => exact ⟨(qcn ++ qce), (wrap64 (qdo + 1)), qav, qav, H', ⟨qcW⟩, ⟨qan⟩⟩
   rw [if_pos c7] at H; have qgU : decide (0 < qdo) = true := decide_eq_true c7; clear c7; obtain ⟨c8, H⟩ := qck H; have qm4 := eq_true c8; have c8b1 := decide_eq_true c8
   try have c8b2 : (9223372036854775807 < qcn.size + 1) = False := eq_false (Nat.not_lt.2 c8)
   obtain ⟨qaR, A9, H⟩ := qay H; (try dsimp only at H); obtain ⟨c10, H⟩ := qck H; have qgt := eq_true c10; have c10b1 := decide_eq_true c10
   try have c10b2 : (9223372036854775807 < (qcn ++ (⟨#[47]⟩ : ByteArray)).size + qaR.size) = False := eq_false (Nat.not_lt.2 c10)
   have c10b3 := c10b2; simp only [ByteArray.size_append, show (⟨#[44]⟩ : ByteArray).size = 1 from rfl, show (⟨#[47]⟩ : ByteArray).size = 1 from rfl, show (⟨#[58]⟩ : ByteArray).size = 1 from rfl] at c10b3; have H' := ak_ H; clear H; have qeE : 0 ≤ (qdo : Int) := of_decide_eq_true qaO; have qeN : qdo < (l0.length : Int) := of_decide_eq_true qaO; obtain ⟨qhf, qre, qrB, qhh, qbw, qkt, qkq⟩ := qiX HR0.out qdo qeE qeN
   cases qhh
   replace qbw := (HB.out.cell (World.block_lt_of_cell? w _ qbw)).trans qbw; have qn9 := ak_ qkq; have qn5 := ak_ qkt; clear qkq qkt; replace qeE := eq_true qeE; replace qeN := eq_true qeN
   go_wp2_with (first | (refine gl_ 23 Tryz.func158 #[.slice qre (qbg l0 qdo).length qrB] rfl qbK ?_; (with_reducible refine (qbT.calls k1 _ _ (qbg l0 qdo) qaR _ ?qaA ?qaB A9.out).mono ?_); (case qaA => repeat (first | exact (Kd.qeg qn9.out HB.out) | (with_reducible refine Kd.C_alloc ?_ _) | (with_reducible refine Kd.C_drewN ?_ _) | (with_reducible refine Kd.C_drew ?_))); (case qaB => exact qn5.out); rintro e w11 ⟨rfl, hb⟩; refine ⟨_, rfl, ?_⟩; replace HB := HB.mw hb; (try clear hb)))
   go_roundg k1
   case measure => have := HK1.out; omega
   case rel => exact ⟨((qcn ++ (⟨#[47]⟩ : ByteArray)) ++ qaR), (wrap64 (qdo + 1)), qav, qav, H', ⟨qcW⟩, ⟨qan⟩⟩
def qdA.f (a0 : Int) : Option (Bool) := (qbi.f a0 1 1000000000).bind fun qat => (some qat)
theorem qdA.calls (a0 : Int) (r : Bool) (w : World) (h : qdA.f a0 = some r) :
  Calls Tryz.prog 166 #[.int .i64 a0] w fun e w' => e = .returned (.bool r) ∧ qcN w w' := by
 have H : ((qbi.f a0 1 1000000000).bind fun qat => (some qat)) = some r := h; clear h; obtain ⟨qat, A2, H⟩ := qay H; (try dsimp only at H); obtain rfl := sj_ H; go_enter Tryz.func166, Tryz.ntmps166
 go_wp2_with (first | (refine gl_ 4 Tryz.func93 #[.int .i64 a0, .int .i64 1, .int .i64 1000000000] rfl qbK ?_; (with_reducible refine (qbi.calls a0 1 1000000000 qat _ A2.out).mono ?_); rintro e w' ⟨rfl, ⟨nd, rfl⟩⟩; refine ⟨_, rfl, ?_⟩))
 go_ret
 exact ⟨qav, qcO⟩
mutual
def qa6.l0 : Nat → Int → List (List Int) → Option ((List (List Int)))
 | 0, _, _ => none
 | k + 1, x0, x3 => if x0 > 1 then ((qcp.f k x0).bind fun qat => (qa6.l1 k x0 x3 qat 0)) else (some x3)
def qa6.l1 : Nat → Int → List (List Int) → Int → Int → Option ((List (List Int)))
 | 0, _, _, _, _ => none
 | k + 1, x0, x3, x4, x5 => if x4 = 0 then (none) else (if (Int.tmod x0 x4) = 0 then (qa6.l1 k (wrap64 (Int.tdiv x0 x4)) x3 x4 (wrap64 (x5 + 1))) else (if x3.length < 5864062014805 then (qa6.l0 k x0 (x3 ++ [(([x4, x5] : List Int))])) else (none)))
end
def qa6.f (k : Nat) (a0 : Int) : Option ((List (List Int))) := qa6.l0 k a0 ([] : List (List Int))
theorem qa6.calls (k : Nat) (a0 : Int) (r : List (List Int)) (w : World) (h : qa6.f k a0 = some r) :
  Calls Tryz.prog 167 #[.int .i64 a0] w fun e w' => ∃ v0_ : Value, e = .returned (v0_) ∧ Kd.S (Kd.slice 3 (Kd.int .i64)) 48 w' w.heap.size (fun _ => True) v0_ r ∧ Below w.heap.size w w' := by
 have HB := br_ w; have H : (qa6.l0 k a0 ([] : List (List Int))) = some r := h; clear h; have H' := ak_ H; clear H; go_enter Tryz.func167, Tryz.ntmps167; go_wp2
 go_loopg [0, 3] k (fun kq v0 v3 w' => ∃ (qgD : Int) (qbx : List (List Int)), v0 = .int .i64 qgD ∧ qag (qa6.l0 kq qgD qbx = some r) ∧ qag (kq ≤ k) ∧ qag (Kd.S (Kd.slice 3 (Kd.int .i64)) 48 w' w.heap.size (fun _ => True) v3 qbx) ∧ qag (Below w.heap.size w w'))
 case atStart => exact ⟨(a0), (([] : List (List Int))), qav, H', ⟨Nat.le_refl _⟩, ⟨k55_⟩, ⟨qan⟩⟩
 case round =>
  clear H'; obtain ⟨qgD, qbx, rfl, HA, HK1, qdq, HB⟩ := hrel
  cases gk with
  | zero => exact absurd HA.out (by simp [qa6.l0])
  | succ k1 =>
   have H := HA.out; clear HA; simp only [qa6.l0] at H; by_cases c2 : qgD > 1; rotate_left
   ·rw [if_neg c2] at H; have qfr : decide (1 < qgD) = false := decide_eq_false c2; clear c2; obtain rfl := sj_ H; go_wp2
    go_ret
    exact ⟨_, qcf, by (with_reducible repeat (first | apply Kd.qdi | apply Kd.qdj | apply Kd.qeb)); exact qdq.out, qan⟩
   rw [if_pos c2] at H; have qfr : decide (1 < qgD) = true := decide_eq_true c2; clear c2; obtain ⟨qat, A3, H⟩ := qay H; (try dsimp only at H); have H' := ak_ H; clear H
   go_wp2_with (first | (refine gl_ 9 Tryz.func209 #[.int .i64 qgD] rfl qbK ?_; (with_reducible refine (qcp.calls k1 qgD qat _ A3.out).mono ?_); rintro e w' ⟨rfl, ⟨nd, rfl⟩⟩; refine ⟨_, rfl, ?_⟩))
   go_loopg [0, 5] k1 (fun kq v0 v5 w' => ∃ (qjF : Int) (qfS : Int), v0 = .int .i64 qjF ∧ v5 = .int .i64 qfS ∧ qag (qa6.l1 kq qjF qbx qat qfS = some r) ∧ qag (kq ≤ k1) ∧ qag (Kd.S (Kd.slice 3 (Kd.int .i64)) 48 w' w.heap.size (fun _ => True) u3 qbx) ∧ qag (Below w.heap.size w w'))
   case atStart => exact ⟨(qgD), (0), qav, qav, H', ⟨Nat.le_refl _⟩, ⟨by apply_rules only [qdq.out, Kd.qdi, Kd.qdj, Kd.qeb]⟩, ⟨qan⟩⟩
   case round =>
    clear H'
    skip
    obtain ⟨qjF, qfS, rfl, rfl, HA, HK2, qdq, HB⟩ := hrel
    cases gk with
    | zero => exact absurd HA.out (by simp [qa6.l1])
    | succ k2 =>
     have H := HA.out; clear HA; simp only [qa6.l1] at H; by_cases c4 : qat = 0
     ·rw [if_pos c4] at H; exact absurd H (by simp)
     rw [if_neg c4] at H; have qfx : (qat == 0) = false := beq_eq_false_iff_ne.mpr c4; have qmK : (qat != 0) = true := bne_iff_ne.mpr c4; by_cases c5 : (Int.tmod qjF qat) = 0
     ·rw [if_pos c5] at H; have qgJ : ((Int.tmod qjF qat) == 0) = true := beq_iff_eq.mpr c5; have qrG : ((Int.tmod qjF qat) != 0) = false := bne_eq_false_iff_eq.mpr c5; clear c5; have H' := ak_ H; clear H; go_wp2
      go_roundg k2
      case measure => have := HK1.out; have := HK2.out; omega
      case rel => exact ⟨(wrap64 (Int.tdiv qjF qat)), (wrap64 (qfS + 1)), qav, qav, H', ⟨qmn⟩, ⟨by apply_rules only [qdq.out, Kd.qdi, Kd.qdj, Kd.qeb]⟩, ⟨qan⟩⟩
     rw [if_neg c5] at H; have qgJ : ((Int.tmod qjF qat) == 0) = false := beq_eq_false_iff_ne.mpr c5; have qrG : ((Int.tmod qjF qat) != 0) = true := bne_iff_ne.mpr c5
     obtain ⟨qiR, hy_⟩ : ∃ y_ : List Int, y_ = (([qat, qfS] : List Int)) := ⟨_, rfl⟩
     replace H : (if qbx.length < 5864062014805 then (qa6.l0 k2 qjF (qbx ++ [qiR])) else (none)) = some r := qe1; have qgP := ak_ hy_; clear hy_; obtain ⟨c6, H⟩ := qck H; have LMc6 := ak_ c6; clear c6
     obtain ⟨qhY, hy_⟩ : ∃ y_ : List (List Int), y_ = (qbx ++ [qiR]) := ⟨_, rfl⟩
     replace H : (qa6.l0 k2 qjF qhY) = some r := qe1; have qhp := ak_ hy_; clear hy_; have H' := ak_ H; clear H
     go_wp2_with (first | ((with_reducible refine qal (N := 22) rfl ?_); refine Kd.qhq (Kd.int .i64) _ 3 ?hg (N := 22) ?hd (xs := ([qat, qfS] : List Int)) (inner := [.int .i64 qat, .int .i64 qfS]) (ok := fun _ => True) (okp := fun _ => True) ?hr ?hp (fun _ hk => hk) trivial (Below.refl _ _) (Nat.le_refl _) (by simp) ?_; (case hd => rfl); (case hg => rfl); (case hr => exact qbe); (case hp => exact (qef.one (show Kd.M (Kd.int .i64) _ _ _ qat [.int .i64 qat] from rfl) (qef.one (show Kd.M (Kd.int .i64) _ _ _ qfS [.int .i64 qfS] from rfl) (qef.none _ _)))); intro qhm w7 ho8 hb hg_ hnew_; clear hg_ hnew_; (first | rw [← qgP.out] at ho8 | (simp only [Int.reduceToNat] at ho8; rw [← qgP.out] at ho8)); replace qdq := ak_ (Kd.qpz (by apply_rules only [qdq.out, Kd.qdi, Kd.qdj, Kd.qeb]) (Kd.qfj ho8) hb); have qb1 := ak_ (Kd.qax ho8 (qab qan)); replace HB := HB.mw hb; clear hb ho8; obtain ⟨Ao10, co10, eo10⟩ := Kd.qaI qb1.out; subst eo10) | ((with_reducible refine qa2 (b := .append) (xs := #[.tmp 19, .tmp 23]) rfl ?_); at_builtin; refine Kd.qjJ (Kd.slice 3 (Kd.int .i64)) (w0 := w) w.heap.size rfl (.tmp 19) (.tmp 23) 129 48 (.slice none 0 0) 24 rfl Tryz.underlying129 info48 rfl (by decide) (by omega) u3 qbx qiR [.slice Ao10 qiR.length co10] (fun _ => True) (fun k_ => some k_ = (.slice Ao10 qiR.length co10 : Value).ownBlock) rfl rfl ?aP (fun k_ hk_ => ((Kd.qa9 (ok' := fun k_ => ((fun _ => True)) k_ ∧ some k_ ≠ (u3 : Value).ownBlock) (Kd.qjH (qb1.out) (Kd.qj3 qdq.out) (by decide)) (fun k_ hk => ⟨trivial, hk.2⟩))).1 k_ hk_.symm) ?aF ?aO ?aB ?aS ?aL ?_; (case aP => exact Kd.M_row (Kd.qa9 (Kd.qh8 rfl (Kd.qa9 (ok' := fun k_ => ((fun _ => True)) k_ ∧ some k_ ≠ (u3 : Value).ownBlock) (Kd.qjH (qb1.out) (Kd.qj3 qdq.out) (by decide)) (fun k_ hk => ⟨trivial, hk.2⟩))) (fun _ h_ => h_))); (case aB => exact qan); (case aF => exact (fun _ _ => trivial)); (case aO => exact (by (with_reducible repeat (first | apply Kd.qdi | apply Kd.qdj | apply Kd.qeb)); exact Kd.qgo qdq.out (fun k_ hk => ⟨trivial, fun e_ => hk.2 e_⟩))); (case aS => exact (qab qan)); (case aL => have := LMc6.out; omega); intro qq6 w9 ho hb hg hat; rw [← qhp.out] at ho; replace HB := ak_ (hb); have qe2 := ak_ (ho); clear qdq qb1; clear ho hb hg hat))
     go_roundg k2
     case measure => have := HK1.out; have := HK2.out; omega
     case rel => exact ⟨(qjF), (qhY), qav, H', ⟨qmn⟩, ⟨by apply_rules only [qe2.out, Kd.qdi, Kd.qdj, Kd.qeb]⟩, ⟨qan⟩⟩
def qcL.f (k : Nat) (a0 : Int) : Option ((List (List Int)) × Bool) := (qdA.f a0).bind fun qat => (if qat = true then ((qa6.f k a0).bind fun qaR => (some (qaR, true))) else (some (([] : List (List Int)), false)))
theorem qcL.calls (k : Nat) (a0 : Int) (r1 : List (List Int)) (r2 : Bool) (w : World) (h : qcL.f k a0 = some (r1, r2)) :
  Calls Tryz.prog 113 #[.int .i64 a0] w fun e w' => ∃ v0_ : Value, e = .returned (.tuple #[v0_, .bool r2]) ∧ Kd.S (Kd.slice 3 (Kd.int .i64)) 48 w' w.heap.size (fun _ => True) v0_ r1 ∧ Below w.heap.size w w' := by
 have HB := br_ w; have H : ((qdA.f a0).bind fun qat => (if qat = true then ((qa6.f k a0).bind fun qaR => (some (qaR, true))) else (some (([] : List (List Int)), false)))) = some (r1, r2) := h; clear h; obtain ⟨qat, A2, H⟩ := qay H; (try dsimp only at H); by_cases c3 : qat = true
 ·subst c3; rw [if_pos rfl] at H; obtain ⟨qaR, A4, H⟩ := qay H; (try dsimp only at H); obtain ⟨rfl, rfl⟩ := qdF H; go_enter Tryz.func113, Tryz.ntmps113
  go_wp2_with (first | (refine gl_ 5 Tryz.func166 #[.int .i64 a0] rfl qbK ?_; (with_reducible refine (qdA.calls a0 true _ A2.out).mono ?_); rintro e w' ⟨rfl, ⟨nd, rfl⟩⟩; refine ⟨_, rfl, ?_⟩) | (refine gl_ 8 Tryz.func167 #[.int .i64 a0] rfl qbK ?_; (with_reducible refine (qa6.calls k a0 qaR _ A4.out).mono ?_); rintro e w5 ⟨qhm, rfl, ho0, hb⟩; refine ⟨_, rfl, ?_⟩; have qb1 := ak_ (Kd.qdV ho0 (qab qan)); replace HB := HB.mw hb; (try clear hb ho0)))
  go_ret2
  exact ⟨_, qcf, by (with_reducible repeat (first | apply Kd.qdi | apply Kd.qdj | apply Kd.qeb)); exact qb1.out, qan⟩
 replace c3 := Bool.eq_false_iff.mpr c3; subst c3; rw [if_neg ff_] at H; obtain ⟨rfl, rfl⟩ := qdF H; go_enter Tryz.func113, Tryz.ntmps113
 go_wp2_with (first | (refine gl_ 5 Tryz.func166 #[.int .i64 a0] rfl qbK ?_; (with_reducible refine (qdA.calls a0 false _ A2.out).mono ?_); rintro e w' ⟨rfl, ⟨nd, rfl⟩⟩; refine ⟨_, rfl, ?_⟩))
 go_ret2
 exact ⟨_, qcf, k55_, qan⟩
def qdQ.f (a0 : Int) : Option (Bool) := (qbi.f a0 0 10000).bind fun qat => (some qat)
theorem qdQ.calls (a0 : Int) (r : Bool) (w : World) (h : qdQ.f a0 = some r) :
  Calls Tryz.prog 168 #[.int .i64 a0] w fun e w' => e = .returned (.bool r) ∧ qcN w w' := by
 have H : ((qbi.f a0 0 10000).bind fun qat => (some qat)) = some r := h; clear h; obtain ⟨qat, A2, H⟩ := qay H; (try dsimp only at H); obtain rfl := sj_ H; go_enter Tryz.func168, Tryz.ntmps168
 go_wp2_with (first | (refine gl_ 4 Tryz.func93 #[.int .i64 a0, .int .i64 0, .int .i64 10000] rfl qbK ?_; (with_reducible refine (qbi.calls a0 0 10000 qat _ A2.out).mono ?_); rintro e w' ⟨rfl, ⟨nd, rfl⟩⟩; refine ⟨_, rfl, ?_⟩))
 go_ret
 exact ⟨qav, qcO⟩
def qbW.l0 : Nat → Int → List Int → Int → Option (List Int)
 | 0, _, _, _ => none
 | k + 1, x1, x5, x6 => if x6 ≤ x1 then ((qe5.f k x6).bind fun qat => (if qat = true then (if x5.length < 17592186044416 then (qbW.l0 k x1 (x5 ++ [x6]) (wrap64 (x6 + 1))) else (none)) else (qbW.l0 k x1 x5 (wrap64 (x6 + 1))))) else (some x5)
def qbW.f (k : Nat) (a0 : Int) (a1 : Int) : Option (List Int) := qbW.l0 k a1 ([] : List Int) a0
theorem qbW.calls (k : Nat) (a0 : Int) (a1 : Int) (r : List Int) (w : World) (h : qbW.f k a0 a1 = some r) :
  Calls Tryz.prog 169 #[.int .i64 a0, .int .i64 a1] w fun e w' => ∃ v0_ : Value, e = .returned (v0_) ∧ Kd.R (Kd.int .i64) 3 w' w.heap.size (fun _ => True) v0_ r ∧ Below w.heap.size w w' := by
 have HB := br_ w; have H : (qbW.l0 k a1 ([] : List Int) a0) = some r := h; clear h; have H' := ak_ H; clear H; go_enter Tryz.func169, Tryz.ntmps169; go_wp2
 go_loopg [5, 6] k (fun kq v5 v6 w' => ∃ (qcn : List Int) (qdl : Int), v6 = .int .i64 qdl ∧ qag (qbW.l0 kq a1 qcn qdl = some r) ∧ qag (kq ≤ k) ∧ qag (Kd.R (Kd.int .i64) 3 w' w.heap.size (fun _ => True) v5 qcn) ∧ qag (Below w.heap.size w w'))
 case atStart => exact ⟨(([] : List Int)), (a0), qav, H', ⟨Nat.le_refl _⟩, ⟨qgN⟩, ⟨qan⟩⟩
 case round =>
  clear H'; obtain ⟨qcn, qdl, rfl, HA, HK1, qgC, HB⟩ := hrel
  cases gk with
  | zero => exact absurd HA.out (by simp [qbW.l0])
  | succ k1 =>
   have H := HA.out; clear HA; simp only [qbW.l0] at H; by_cases c3 : qdl ≤ a1; rotate_left
   ·rw [if_neg c3] at H; have qfk := decide_eq_false c3; clear c3; obtain rfl := sj_ H; go_wp2
    go_ret
    exact ⟨_, qcf, k65_, qan⟩
   rw [if_pos c3] at H; have qfk := decide_eq_true c3; clear c3; obtain ⟨qat, A4, H⟩ := qay H; (try dsimp only at H); by_cases c5 : qat = true; rotate_left
   ·replace c5 := Bool.eq_false_iff.mpr c5; subst c5; rw [if_neg ff_] at H; have H' := ak_ H; clear H
    go_wp2_with (first | (refine gl_ 14 Tryz.func210 #[.int .i64 qdl] rfl qbK ?_; (with_reducible refine (qe5.calls k1 qdl false _ A4.out).mono ?_); rintro e w' ⟨rfl, ⟨nd, rfl⟩⟩; refine ⟨_, rfl, ?_⟩))
    go_roundg k1
    case measure => have := HK1.out; omega
    case rel => exact ⟨(qcn), (wrap64 (qdl + 1)), qav, H', ⟨qcW⟩, ⟨qn1⟩, ⟨qan⟩⟩
   subst c5; rw [if_pos rfl] at H; obtain ⟨c6, H⟩ := qck H; have LMc6 := ak_ c6; clear c6
   obtain ⟨qiR, hy_⟩ : ∃ y_ : List Int, y_ = (qcn ++ [qdl]) := ⟨_, rfl⟩
   replace H : (qbW.l0 k1 a1 qiR (wrap64 (qdl + 1))) = some r := qe1; have qgP := ak_ hy_; clear hy_; have H' := ak_ H; clear H
   go_wp2_with (first | (refine gl_ 14 Tryz.func210 #[.int .i64 qdl] rfl qbK ?_; (with_reducible refine (qe5.calls k1 qdl true _ A4.out).mono ?_); rintro e w' ⟨rfl, ⟨nd, rfl⟩⟩; refine ⟨_, rfl, ?_⟩) | ((with_reducible refine qa2 (b := .append) (xs := #[.tmp 15, .tmp 17]) rfl ?_); at_builtin; refine Kd.qcH (Kd.int .i64) (w0 := w) w.heap.size rfl (.tmp 15) (.tmp 17) 48 3 (.int .i64 0) 8 rfl Tryz.underlying48 info3 rfl (by decide) (by omega) u5 qcn qdl [.int .i64 qdl] (fun _ => True) (fun _ => False) rfl rfl ?aP (fun _ hk => hk.elim) ?aF ?aO ?aB ?aS ?aL ?_; (case aP => exact rfl); (case aB => exact qan); (case aF => exact (fun _ _ => trivial)); (case aO => exact qn1); (case aS => exact (qab qan)); (case aL => have := LMc6.out; omega); intro qhm w7 ho hb hg hat; rw [← qgP.out] at ho; replace HB := ak_ (hb); have qb1 := ak_ (ho); clear qgC; clear ho hb hg hat))
   go_roundg k1
   case measure => have := HK1.out; omega
   case rel => exact ⟨(qiR), (wrap64 (qdl + 1)), qav, H', ⟨qcW⟩, ⟨qra⟩, ⟨qan⟩⟩
def qc2.f (k : Nat) (a0 : Int) : Option (Int × Bool) := (qdQ.f a0).bind fun qat => (if qat = true then ((qbW.f k 0 a0).bind fun qaR => (some ((qaR.length : Int), true))) else (some (0, false)))
theorem qc2.calls (k : Nat) (a0 : Int) (r1 : Int) (r2 : Bool) (w : World) (h : qc2.f k a0 = some (r1, r2)) :
  Calls Tryz.prog 114 #[.int .i64 a0] w fun e w' => e = .returned (.tuple #[.int .i64 r1, .bool r2]) ∧ Below w.heap.size w w' := by
 have HB := br_ w; have H : ((qdQ.f a0).bind fun qat => (if qat = true then ((qbW.f k 0 a0).bind fun qaR => (some ((qaR.length : Int), true))) else (some (0, false)))) = some (r1, r2) := h; clear h; obtain ⟨qat, A2, H⟩ := qay H; (try dsimp only at H); by_cases c3 : qat = true
 ·subst c3; rw [if_pos rfl] at H; obtain ⟨qaR, A4, H⟩ := qay H; (try dsimp only at H); obtain ⟨rfl, rfl⟩ := qdF H; go_enter Tryz.func114, Tryz.ntmps114
  go_wp2_with (first | (refine gl_ 5 Tryz.func168 #[.int .i64 a0] rfl qbK ?_; (with_reducible refine (qdQ.calls a0 true _ A2.out).mono ?_); rintro e w' ⟨rfl, ⟨nd, rfl⟩⟩; refine ⟨_, rfl, ?_⟩) | (refine gl_ 8 Tryz.func169 #[.int .i64 0, .int .i64 a0] rfl qbK ?_; (with_reducible refine (qbW.calls k 0 a0 qaR _ A4.out).mono ?_); rintro e w5 ⟨qhm, rfl, ho0, hb⟩; refine ⟨_, rfl, ?_⟩; have qb1 := ak_ (Kd.qax ho0 (qab qan)); replace HB := HB.mw hb; (try clear hb ho0); obtain ⟨Ao6, co6, eo6⟩ := Kd.qaI qb1.out; subst eo6))
  go_ret2
  exact ⟨qcf, qan⟩
 replace c3 := Bool.eq_false_iff.mpr c3; subst c3; rw [if_neg ff_] at H; obtain ⟨rfl, rfl⟩ := qdF H; go_enter Tryz.func114, Tryz.ntmps114
 go_wp2_with (first | (refine gl_ 5 Tryz.func168 #[.int .i64 a0] rfl qbK ?_; (with_reducible refine (qdQ.calls a0 false _ A2.out).mono ?_); rintro e w' ⟨rfl, ⟨nd, rfl⟩⟩; refine ⟨_, rfl, ?_⟩))
 go_ret2
 exact ⟨qcf, qan⟩
def qdc.f (a0 : Int) : Option (Bool) := (qbi.f a0 1 1000000).bind fun qat => (some qat)
theorem qdc.calls (a0 : Int) (r : Bool) (w : World) (h : qdc.f a0 = some r) :
  Calls Tryz.prog 170 #[.int .i64 a0] w fun e w' => e = .returned (.bool r) ∧ qcN w w' := by
 have H : ((qbi.f a0 1 1000000).bind fun qat => (some qat)) = some r := h; clear h; obtain ⟨qat, A2, H⟩ := qay H; (try dsimp only at H); obtain rfl := sj_ H; go_enter Tryz.func170, Tryz.ntmps170
 go_wp2_with (first | (refine gl_ 4 Tryz.func93 #[.int .i64 a0, .int .i64 1, .int .i64 1000000] rfl qbK ?_; (with_reducible refine (qbi.calls a0 1 1000000 qat _ A2.out).mono ?_); rintro e w' ⟨rfl, ⟨nd, rfl⟩⟩; refine ⟨_, rfl, ?_⟩))
 go_ret
 exact ⟨qav, qcO⟩
def qb0.l0 : Nat → Int → List Int → List Int → Int → Option (List Int)
 | 0, _, _, _, _ => none
 | k + 1, x0, x3, x4, x5 => if (wrap64 (x5 * x5)) ≤ x0 then (if x5 = 0 then (none) else (if (Int.tmod x0 x5) = 0 then (if x3.length < 17592186044416 then ((some (x3 ++ [x5] : List Int)).bind fun qgF => (if (wrap64 (x5 * x5)) < x0 then ((some (([wrap64 (Int.tdiv x0 x5)] : List Int) : List Int)).bind fun qfM => (if qfM.length + x4.length < 17592186044416 then (qb0.l0 k x0 qgF (qfM ++ x4) (wrap64 (x5 + 1))) else (none))) else (qb0.l0 k x0 qgF x4 (wrap64 (x5 + 1))))) else (none)) else (qb0.l0 k x0 x3 x4 (wrap64 (x5 + 1))))) else (if x3.length + x4.length < 17592186044416 then (some (x3 ++ x4)) else (none))
def qb0.f (k : Nat) (a0 : Int) : Option (List Int) := qb0.l0 k a0 ([] : List Int) ([] : List Int) 1
theorem qb0.calls (k : Nat) (a0 : Int) (r : List Int) (w : World) (h : qb0.f k a0 = some r) :
  Calls Tryz.prog 171 #[.int .i64 a0] w fun e w' => ∃ v0_ : Value, e = .returned (v0_) ∧ Kd.R (Kd.int .i64) 3 w' w.heap.size (fun _ => True) v0_ r ∧ Below w.heap.size w w' := by
 have HB := br_ w; have H : (qb0.l0 k a0 ([] : List Int) ([] : List Int) 1) = some r := h; clear h; have H' := ak_ H; clear H; go_enter Tryz.func171, Tryz.ntmps171; go_wp2
 go_loopg [3, 4, 5] k (fun kq v3 v4 v5 w' => ∃ (qbx : List Int) (qcM : List Int) (qcn : Int), v5 = .int .i64 qcn ∧ qag (qb0.l0 kq a0 qbx qcM qcn = some r) ∧ qag (kq ≤ k) ∧ qag (Kd.R (Kd.int .i64) 3 w' w.heap.size (fun k_ => some k_ ≠ (v4 : Value).ownBlock) v3 qbx) ∧ qag (Kd.R (Kd.int .i64) 3 w' w.heap.size (fun k_ => some k_ ≠ (v3 : Value).ownBlock) v4 qcM) ∧ qag (Below w.heap.size w w'))
 case atStart => exact ⟨(([] : List Int)), (([] : List Int)), (1), qav, H', ⟨Nat.le_refl _⟩, ⟨qgN⟩, ⟨qgN⟩, ⟨qan⟩⟩
 case round =>
  clear H'; obtain ⟨qbx, qcM, qcn, rfl, HA, HK1, qdq, qdk, HB⟩ := hrel
  cases gk with
  | zero => exact absurd HA.out (by simp [qb0.l0])
  | succ k1 =>
   have H := HA.out; clear HA; simp only [qb0.l0] at H; by_cases c2 : (wrap64 (qcn * qcn)) ≤ a0; rotate_left
   ·rw [if_neg c2] at H; have qfr := decide_eq_false c2; clear c2; obtain ⟨c14, H⟩ := qck H; have qob := ak_ c14; clear c14
    obtain ⟨qff, hy_⟩ : ∃ y_ : List Int, y_ = (qbx ++ qcM) := ⟨_, rfl⟩
    replace H : (some qff) = some r := qe1; have qei := ak_ hy_; clear hy_; obtain rfl := sj_ H; obtain ⟨Ao16, co16, eo16⟩ := Kd.qaI qdk.out; subst eo16
    go_wp2_with (first | ((with_reducible refine qa2 (b := .append) (xs := #[.tmp 32, .tmp 33]) rfl ?_); at_builtin; refine Kd.qdK (Kd.int .i64) (w0 := w) w.heap.size rfl (.tmp 32) (.tmp 33) 48 3 (.int .i64 0) 8 rfl Tryz.underlying48 info3 rfl (by decide) (by omega) u3 qbx qcM _ _ _ (fun k_ => some k_ ≠ (.slice Ao16 qcM.length co16 : Value).ownBlock) (fun _ => False) rfl rfl ?aO ?aR (fun _ _ h => h) (fun _ h => h.elim) ?aF ?aB ?aS ?aL ?_; (case aR => repeat (first | exact (Kd.qao qdk.out).2.2 | (with_reducible refine Kd.C_alloc ?_ _) | (with_reducible refine Kd.C_drewN ?_ _) | (with_reducible refine Kd.C_drew ?_))); (case aB => exact qan); (case aF => exact (fun k_ hk => Kd.qiC (Kd.qjI qjQ) k_ hk)); (case aO => exact qhX); (case aS => exact (qab qan)); (case aL => have := qob.out; omega); intro qit w15 ho hb hg hat; rw [← qei.out] at ho; replace qdk := ak_ (Kd.qf7 (ok := (fun _ => True)) (by (with_reducible repeat (first | apply Kd.qap | apply Kd.qaq | apply Kd.qaw)); exact Kd.qa9 qdk.out (fun _ hk => ⟨trivial, hk⟩)) hg hat); replace HB := ak_ (hb); have qc6 := ak_ (ho); clear qdq; clear ho hb hg hat))
    go_ret
    exact ⟨_, qcf, by (with_reducible repeat (first | apply Kd.qap | apply Kd.qaq | apply Kd.qaw)); exact Kd.qa9 qc6.out (fun _ hk => trivial), qan⟩
   rw [if_pos c2] at H; have qfr := decide_eq_true c2; clear c2; by_cases c3 : qcn = 0
   ·rw [if_pos c3] at H; exact absurd H (by simp)
   rw [if_neg c3] at H; have qfk : (qcn == 0) = false := beq_eq_false_iff_ne.mpr c3; have qmb : (qcn != 0) = true := bne_iff_ne.mpr c3; by_cases c4 : (Int.tmod a0 qcn) = 0; rotate_left
   ·rw [if_neg c4] at H; have qfx : ((Int.tmod a0 qcn) == 0) = false := beq_eq_false_iff_ne.mpr c4; have qmK : ((Int.tmod a0 qcn) != 0) = true := bne_iff_ne.mpr c4; have H' := ak_ H; clear H; go_wp2
    go_roundg k1
    case measure => have := HK1.out; omega
    case rel => exact ⟨(qbx), (qcM), (wrap64 (qcn + 1)), qav, H', ⟨qcW⟩, ⟨qhX⟩, ⟨qjQ⟩, ⟨qan⟩⟩
   rw [if_pos c4] at H; have qfx : ((Int.tmod a0 qcn) == 0) = true := beq_iff_eq.mpr c4; have qmK : ((Int.tmod a0 qcn) != 0) = false := bne_eq_false_iff_eq.mpr c4; clear c4; obtain ⟨c5, H⟩ := qck H; have LMc5 := ak_ c5; clear c5
   obtain ⟨qgF, hy_⟩ : ∃ y_ : List Int, y_ = (qbx ++ [qcn]) := ⟨_, rfl⟩
   replace H : (if (wrap64 (qcn * qcn)) < a0 then ((some (([wrap64 (Int.tdiv a0 qcn)] : List Int) : List Int)).bind fun qfM => (if qfM.length + qcM.length < 17592186044416 then (qb0.l0 k1 a0 qgF (qfM ++ qcM) (wrap64 (qcn + 1))) else (none))) else (qb0.l0 k1 a0 qgF qcM (wrap64 (qcn + 1)))) = some r := qe1; have qiu := ak_ hy_; clear hy_; by_cases c6 : (wrap64 (qcn * qcn)) < a0; rotate_left
   ·rw [if_neg c6] at H; have qgk := decide_eq_false c6; clear c6; have H' := ak_ H; clear H
    go_wp2_with (first | ((with_reducible refine qa2 (b := .append) (xs := #[.tmp 17, .tmp 19]) rfl ?_); at_builtin; refine Kd.qcH (Kd.int .i64) (w0 := w) w.heap.size rfl (.tmp 17) (.tmp 19) 48 3 (.int .i64 0) 8 rfl Tryz.underlying48 info3 rfl (by decide) (by omega) u3 qbx qcn [.int .i64 qcn] (fun k_ => some k_ ≠ (u4 : Value).ownBlock) (fun _ => False) rfl rfl ?aP (fun _ hk => hk.elim) ?aF ?aO ?aB ?aS ?aL ?_; (case aP => exact rfl); (case aB => exact qan); (case aF => exact (fun k_ hk => Kd.qiC (Kd.qjI qjQ) k_ hk)); (case aO => exact qhX); (case aS => exact (qab qan)); (case aL => have := LMc5.out; omega); intro v105 w13 ho hb hg hat; rw [← qiu.out] at ho; replace qdk := ak_ (Kd.qf7 (ok := (fun _ => True)) (by (with_reducible repeat (first | apply Kd.qap | apply Kd.qaq | apply Kd.qaw)); exact Kd.qa9 qdk.out (fun _ hk => ⟨trivial, hk⟩)) hg hat); replace HB := ak_ (hb); have qeh := ak_ (ho); clear qdq; clear ho hb hg hat))
    go_roundg k1
    case measure => have := HK1.out; omega
    case rel => exact ⟨(qgF), (qcM), (wrap64 (qcn + 1)), qav, H', ⟨qcW⟩, ⟨qsL⟩, ⟨by (with_reducible repeat (first | apply Kd.qap | apply Kd.qaq | apply Kd.qaw)); exact Kd.qa9 qdk.out (fun _ hk => hk.2)⟩, ⟨qan⟩⟩
   rw [if_pos c6] at H; have qgk := decide_eq_true c6; clear c6
   obtain ⟨qfM, hy_⟩ : ∃ y_ : List Int, y_ = (([wrap64 (Int.tdiv a0 qcn)] : List Int)) := ⟨_, rfl⟩
   replace H : (if qfM.length + qcM.length < 17592186044416 then (qb0.l0 k1 a0 qgF (qfM ++ qcM) (wrap64 (qcn + 1))) else (none)) = some r := qe1; have qjA := ak_ hy_; clear hy_; obtain ⟨c7, H⟩ := qck H; have LMc7 := ak_ c7; clear c7
   obtain ⟨qiP, hy_⟩ : ∃ y_ : List Int, y_ = (qfM ++ qcM) := ⟨_, rfl⟩
   replace H : (qb0.l0 k1 a0 qgF qiP (wrap64 (qcn + 1))) = some r := qe1; have qk4 := ak_ hy_; clear hy_; have H' := ak_ H; clear H
   go_wp2_with (first | ((with_reducible refine qa2 (b := .append) (xs := #[.tmp 17, .tmp 19]) rfl ?_); at_builtin; refine Kd.qcH (Kd.int .i64) (w0 := w) w.heap.size rfl (.tmp 17) (.tmp 19) 48 3 (.int .i64 0) 8 rfl Tryz.underlying48 info3 rfl (by decide) (by omega) u3 qbx qcn [.int .i64 qcn] (fun k_ => some k_ ≠ (u4 : Value).ownBlock) (fun _ => False) rfl rfl ?aP (fun _ hk => hk.elim) ?aF ?aO ?aB ?aS ?aL ?_; (case aP => exact rfl); (case aB => exact qan); (case aF => exact (fun k_ hk => Kd.qiC (Kd.qjI qjQ) k_ hk)); (case aO => exact qhX); (case aS => exact (qab qan)); (case aL => have := LMc5.out; omega); intro v105 w8 ho hb hg hat; rw [← qiu.out] at ho; replace qdk := ak_ (Kd.qf7 (ok := (fun _ => True)) (by (with_reducible repeat (first | apply Kd.qap | apply Kd.qaq | apply Kd.qaw)); exact Kd.qa9 qdk.out (fun _ hk => ⟨trivial, hk⟩)) hg hat); replace HB := ak_ (hb); have qeh := ak_ (ho); clear qdq; clear ho hb hg hat) | ((with_reducible refine qal (N := 29) rfl ?_); refine Kd.qhq (Kd.int .i64) _ 3 ?hg (N := 29) ?hd (xs := ([wrap64 (Int.tdiv a0 qcn)] : List Int)) (inner := [.int .i64 (wrap64 (Int.tdiv a0 qcn))]) (ok := fun _ => True) (okp := fun _ => True) ?hr ?hp (fun _ hk => hk) trivial (Below.refl _ _) (Nat.le_refl _) (by simp) ?_; (case hd => rfl); (case hg => rfl); (case hr => exact qbe); (case hp => exact (qef.one (show Kd.M (Kd.int .i64) _ _ _ (wrap64 (Int.tdiv a0 qcn)) [.int .i64 (wrap64 (Int.tdiv a0 qcn))] from rfl) (qef.none _ _))); intro v108 w9 qly hb hg_ hnew_; clear hg_ hnew_; (first | rw [← qjA.out] at qly | (simp only [Int.reduceToNat] at qly; rw [← qjA.out] at qly)); have qiT := ak_ (Kd.qax (Kd.qh1 (Kd.qh1 qly (Kd.qjI qjQ)) (Kd.qjI qsL)) (qab qan)); replace qdk := ak_ (Kd.qfB qjQ (Kd.qfj qly) hb); replace qeh := ak_ (Kd.qfB qsL (Kd.qfj qly) hb); replace HB := HB.mw hb; clear hb qly; obtain ⟨qkZ, qk7, qq8⟩ := Kd.qaI qdk.out; subst qq8) | ((with_reducible refine qa2 (b := .append) (xs := #[.tmp 29, .tmp 30]) rfl ?_); at_builtin; refine Kd.qdK (Kd.int .i64) (w0 := w) w.heap.size rfl (.tmp 29) (.tmp 30) 48 3 (.int .i64 0) 8 rfl Tryz.underlying48 info3 rfl (by decide) (by omega) v108 qfM qcM _ _ _ (fun k_ => some k_ ≠ (.slice qkZ qcM.length qk7 : Value).ownBlock ∧ some k_ ≠ (v105 : Value).ownBlock) (fun _ => False) rfl rfl ?aO ?aR (fun _ _ h => h) (fun _ h => h.elim) ?aF ?aB ?aS ?aL ?_; (case aR => repeat (first | exact (Kd.qao qdk.out).2.2 | (with_reducible refine Kd.C_alloc ?_ _) | (with_reducible refine Kd.C_drewN ?_ _) | (with_reducible refine Kd.C_drew ?_))); (case aB => exact qan); (case aF => exact (fun k_ hk => ⟨Kd.qiC (Kd.qjI qjQ) k_ hk, Kd.qiC (Kd.qjI qsL) k_ hk⟩)); (case aO => exact (by (with_reducible repeat (first | apply Kd.qap | apply Kd.qaq | apply Kd.qaw)); exact Kd.qa9 qiT.out (fun _ hk => ⟨hk.1.2, hk.2⟩))); (case aS => exact (qab qan)); (case aL => have := LMc7.out; omega); intro v111 w11 ho hb hg hat; rw [← qk4.out] at ho; replace qdk := ak_ (Kd.qf7 (ok := (fun k_ => some k_ ≠ (v105 : Value).ownBlock)) (by (with_reducible repeat (first | apply Kd.qap | apply Kd.qaq | apply Kd.qaw)); exact Kd.qa9 qdk.out (fun _ hk => ⟨hk.1.2, hk.2⟩)) hg hat); replace qeh := ak_ (Kd.qf7 (ok := (fun k_ => some k_ ≠ (.slice qkZ qcM.length qk7 : Value).ownBlock)) qsL hg hat); replace HB := ak_ (hb); have qqn := ak_ (ho); clear qiT; clear ho hb hg hat))
   go_roundg k1
   case measure => have := HK1.out; omega
   case rel => exact ⟨(qgF), (qiP), (wrap64 (qcn + 1)), qav, H', ⟨qcW⟩, ⟨by (with_reducible repeat (first | apply Kd.qap | apply Kd.qaq | apply Kd.qaw)); exact Kd.qa9 qeh.out (fun _ hk => hk.2)⟩, ⟨by (with_reducible repeat (first | apply Kd.qap | apply Kd.qaq | apply Kd.qaw)); exact Kd.qa9 qqn.out (fun _ hk => hk.2)⟩, ⟨qan⟩⟩
def qdb.f (k : Nat) (a0 : Int) : Option (List Int × Bool) := (qdc.f a0).bind fun qat => (if qat = true then ((qb0.f k a0).bind fun qaR => (some (qaR, true))) else (some (([] : List Int), false)))
theorem qdb.calls (k : Nat) (a0 : Int) (r1 : List Int) (r2 : Bool) (w : World) (h : qdb.f k a0 = some (r1, r2)) :
  Calls Tryz.prog 115 #[.int .i64 a0] w fun e w' => ∃ v0_ : Value, e = .returned (.tuple #[v0_, .bool r2]) ∧ Kd.R (Kd.int .i64) 3 w' w.heap.size (fun _ => True) v0_ r1 ∧ Below w.heap.size w w' := by
 have HB := br_ w; have H : ((qdc.f a0).bind fun qat => (if qat = true then ((qb0.f k a0).bind fun qaR => (some (qaR, true))) else (some (([] : List Int), false)))) = some (r1, r2) := h; clear h; obtain ⟨qat, A2, H⟩ := qay H; (try dsimp only at H); by_cases c3 : qat = true
 ·subst c3; rw [if_pos rfl] at H; obtain ⟨qaR, A4, H⟩ := qay H; (try dsimp only at H); obtain ⟨rfl, rfl⟩ := qdF H; go_enter Tryz.func115, Tryz.ntmps115
  go_wp2_with (first | (refine gl_ 5 Tryz.func170 #[.int .i64 a0] rfl qbK ?_; (with_reducible refine (qdc.calls a0 true _ A2.out).mono ?_); rintro e w' ⟨rfl, ⟨nd, rfl⟩⟩; refine ⟨_, rfl, ?_⟩) | (refine gl_ 8 Tryz.func171 #[.int .i64 a0] rfl qbK ?_; (with_reducible refine (qb0.calls k a0 qaR _ A4.out).mono ?_); rintro e w5 ⟨qhm, rfl, ho0, hb⟩; refine ⟨_, rfl, ?_⟩; have qb1 := ak_ (Kd.qax ho0 (qab qan)); replace HB := HB.mw hb; (try clear hb ho0)))
  go_ret2
  exact ⟨_, qcf, k63_, qan⟩
 replace c3 := Bool.eq_false_iff.mpr c3; subst c3; rw [if_neg ff_] at H; obtain ⟨rfl, rfl⟩ := qdF H; go_enter Tryz.func115, Tryz.ntmps115
 go_wp2_with (first | (refine gl_ 5 Tryz.func170 #[.int .i64 a0] rfl qbK ?_; (with_reducible refine (qdc.calls a0 false _ A2.out).mono ?_); rintro e w' ⟨rfl, ⟨nd, rfl⟩⟩; refine ⟨_, rfl, ?_⟩))
 go_ret2
 exact ⟨_, qcf, qgN, qan⟩
def qcc.l0 : Nat → Int → List (List Int) → Int → Int → Option (Int)
 | 0, _, _, _, _ => none
 | k + 1, x0, x6, x7, x8 => if x8 < x7 then (if 0 ≤ x8 then (if x8 < (x6.length : Int) then (if 0 < ((qbg x6 x8).length : Int) then (if (rd (qbg x6 x8) 0) = 0 then (none) else (qcc.l0 k (wrap64 ((wrap64 (Int.tdiv x0 (rd (qbg x6 x8) 0))) * (wrap64 ((rd (qbg x6 x8) 0) - 1)))) x6 x7 (wrap64 (x8 + 1)))) else (none)) else (none)) else (none)) else (some x0)
def qcc.f (k : Nat) (a0 : Int) : Option (Int) := (qa6.f k a0).bind fun qat => (qcc.l0 k a0 qat (qat.length : Int) 0)
theorem qcc.calls (k : Nat) (a0 : Int) (r : Int) (w : World) (h : qcc.f k a0 = some r) :
  Calls Tryz.prog 172 #[.int .i64 a0] w fun e w' => e = .returned (.int .i64 r) ∧ Below w.heap.size w w' := by
 have HB := br_ w; have H : ((qa6.f k a0).bind fun qat => (qcc.l0 k a0 qat (qat.length : Int) 0)) = some r := h; clear h; obtain ⟨qat, A2, H⟩ := qay H; (try dsimp only at H); have H' := ak_ H; clear H; go_enter Tryz.func172, Tryz.ntmps172
 go_wp2_with (first | (go_at_call 167; (with_reducible refine (qa6.calls k a0 qat _ A2.out).mono ?_); rintro e w3 ⟨qit, rfl, ho0, hb⟩; have qc6 := ak_ (Kd.qdV ho0 (qab qan)); replace HB := HB.mw hb; (try clear hb ho0); obtain ⟨Ao4, co4, eo4⟩ := Kd.qdL qc6.out; subst eo4))
 repeat (go_quiet (first | (go_at_call 167; (with_reducible refine (qa6.calls k a0 qat _ A2.out).mono ?_); rintro e w3 ⟨qit, rfl, ho0, hb⟩; have qc6 := ak_ (Kd.qdV ho0 (qab qan)); replace HB := HB.mw hb; (try clear hb ho0); obtain ⟨Ao4, co4, eo4⟩ := Kd.qdL qc6.out; subst eo4)); try go_wp2_with (first | (go_at_call 167; (with_reducible refine (qa6.calls k a0 qat _ A2.out).mono ?_); rintro e w3 ⟨qit, rfl, ho0, hb⟩; have qc6 := ak_ (Kd.qdV ho0 (qab qan)); replace HB := HB.mw hb; (try clear hb ho0); obtain ⟨Ao4, co4, eo4⟩ := Kd.qdL qc6.out; subst eo4)))
 go_loopg [0, 8] k (fun kq v0 v8 w' => ∃ (qgD : Int) (qdh : Int), v0 = .int .i64 qgD ∧ v8 = .int .i64 qdh ∧ qag (qcc.l0 kq qgD qat (qat.length : Int) qdh = some r) ∧ qag (kq ≤ k) ∧ qag (Kd.S (Kd.slice 3 (Kd.int .i64)) 48 w' w.heap.size (fun _ => True) (.slice Ao4 qat.length co4) qat) ∧ qag (Below w.heap.size w w'))
 case atStart => exact ⟨(a0), (0), qav, qav, H', ⟨Nat.le_refl _⟩, ⟨by apply_rules only [qc6.out, Kd.qdi, Kd.qdj, Kd.qeb]⟩, ⟨qan⟩⟩
 case round =>
  clear H'; obtain ⟨qgD, qdh, rfl, rfl, HA, HK1, qfv, HB⟩ := hrel
  cases gk with
  | zero => exact absurd HA.out (by simp [qcc.l0])
  | succ k1 =>
   have H := HA.out; clear HA; simp only [qcc.l0] at H; by_cases c5 : qdh < (qat.length : Int); rotate_left
   ·rw [if_neg c5] at H; have qgJ := decide_eq_false c5; clear c5; obtain rfl := sj_ H; go_wp2
    repeat (go_quiet (fail); try go_wp2)
    go_ret
    exact ⟨qcf, qan⟩
   rw [if_pos c5] at H; have qgJ := decide_eq_true c5; clear c5; obtain ⟨c6, H⟩ := qck H; have qgk := decide_eq_true c6; clear c6; obtain ⟨c7, H⟩ := qck H; have qgU := decide_eq_true c7; clear c7; obtain ⟨c8, H⟩ := qck H; have qm4 := decide_eq_true c8; have c8b1 : decide (0 < (qbg qat qdh).length) = true := decide_eq_true (by omega); clear c8; by_cases c9 : (rd (qbg qat qdh) 0) = 0
   ·rw [if_pos c9] at H; exact absurd H (by simp)
   rw [if_neg c9] at H; have qln : ((rd (qbg qat qdh) 0) == 0) = false := beq_eq_false_iff_ne.mpr c9; have c9b1 : ((rd (qbg qat qdh) 0) != 0) = true := bne_iff_ne.mpr c9; have H' := ak_ H; clear H; have qhj : 0 ≤ (qdh : Int) := of_decide_eq_true qaO; have qhk : qdh < (qat.length : Int) := of_decide_eq_true qaO; obtain ⟨qhW, qrf, qrC, qne, qdX, qhC, qhB⟩ := qiX (Kd.qeG qfv.out).2.2 qdh qhj qhk
   cases qne
   obtain ⟨ce104, qr7, qr5, qnm⟩ := Kd.qrq qfv.out [] qdh qhj (by first | exact qhk | exact of_decide_eq_true qaO | (have e_ := (Kd.qeG qfv.out).1; omega)); obtain ⟨ve104_0, rfl, qic⟩ := qr5; have qgc := qnm 0 _ rfl; rw [Nat.add_zero, show ((Kd.slice 3 (Kd.int .i64))).sz = 1 from rfl, Nat.mul_one] at qgc; replace qgc := Option.some.inj (qgc.symm.trans qdX); rw [qgc] at qic; have HL104_0 := ak_ (show Kd.R (Kd.int .i64) 3 _ _ _ _ (qbg qat qdh) from qic); clear qgc qic; clear qnm qr7; have qjX := ak_ qhB; have qn6 := ak_ qhC; clear qhB qhC; replace qhj := eq_true qhj; replace qhk := eq_true qhk
   have qhD : 0 ≤ (0 : Int) := (by omega)
   have qhE : 0 < ((qbg qat qdh).length : Int) := of_decide_eq_true qaO; obtain ⟨qec, qnf, qcS⟩ := Kd.qdO k32_ 0 qhD qhE
   cases qnf
   have qs2 : (0 < (qbg qat qdh).length) = True := eq_true (by omega); (try rw [show ((0 : Int)).toNat = 0 from rfl] at qcS); (try rw [Addr.add_zero'] at qcS); replace qhD := eq_true qhD; replace qhE := eq_true qhE
   have qfI : 0 ≤ (0 : Int) := (by omega)
   have qfK : 0 < ((qbg qat qdh).length : Int) := of_decide_eq_true qaO; obtain ⟨qgS, qjC, qcr⟩ := Kd.qdO k32_ 0 qfI qfK
   obtain rfl : qec = qgS := (by injection qjC)
   have qs3 : (0 < (qbg qat qdh).length) = True := eq_true (by omega); (try rw [show ((0 : Int)).toNat = 0 from rfl] at qcr); (try rw [Addr.add_zero'] at qcr); replace qfI := eq_true qfI; replace qfK := eq_true qfK; go_wp2
   repeat (go_quiet (fail); try go_wp2)
   go_roundg k1
   case measure => have := HK1.out; omega
   case rel => exact ⟨(wrap64 ((wrap64 (Int.tdiv qgD (rd (qbg qat qdh) 0))) * (wrap64 ((rd (qbg qat qdh) 0) - 1)))), (wrap64 (qdh + 1)), qav, qav, H', ⟨qcW⟩, ⟨by apply_rules only [qfv.out, Kd.qdi, Kd.qdj, Kd.qeb]⟩, ⟨qan⟩⟩
def qdw.f (k : Nat) (a0 : Int) : Option (Int × Bool) := (qdc.f a0).bind fun qat => (if qat = true then ((qcc.f k a0).bind fun qaR => (some (qaR, true))) else (some (0, false)))
theorem qdw.calls (k : Nat) (a0 : Int) (r1 : Int) (r2 : Bool) (w : World) (h : qdw.f k a0 = some (r1, r2)) :
  Calls Tryz.prog 116 #[.int .i64 a0] w fun e w' => e = .returned (.tuple #[.int .i64 r1, .bool r2]) ∧ Below w.heap.size w w' := by
 have HB := br_ w; have H : ((qdc.f a0).bind fun qat => (if qat = true then ((qcc.f k a0).bind fun qaR => (some (qaR, true))) else (some (0, false)))) = some (r1, r2) := h; clear h; obtain ⟨qat, A2, H⟩ := qay H; (try dsimp only at H); by_cases c3 : qat = true
 ·subst c3; rw [if_pos rfl] at H; obtain ⟨qaR, A4, H⟩ := qay H; (try dsimp only at H); obtain ⟨rfl, rfl⟩ := qdF H; go_enter Tryz.func116, Tryz.ntmps116
  go_wp2_with (first | (refine gl_ 5 Tryz.func170 #[.int .i64 a0] rfl qbK ?_; (with_reducible refine (qdc.calls a0 true _ A2.out).mono ?_); rintro e w' ⟨rfl, ⟨nd, rfl⟩⟩; refine ⟨_, rfl, ?_⟩) | (refine gl_ 8 Tryz.func172 #[.int .i64 a0] rfl qbK ?_; (with_reducible refine (qcc.calls k a0 qaR _ A4.out).mono ?_); rintro e w5 ⟨rfl, hb⟩; refine ⟨_, rfl, ?_⟩; replace HB := HB.mw hb; (try clear hb)))
  go_ret2
  exact ⟨qcf, qan⟩
 replace c3 := Bool.eq_false_iff.mpr c3; subst c3; rw [if_neg ff_] at H; obtain ⟨rfl, rfl⟩ := qdF H; go_enter Tryz.func116, Tryz.ntmps116
 go_wp2_with (first | (refine gl_ 5 Tryz.func170 #[.int .i64 a0] rfl qbK ?_; (with_reducible refine (qdc.calls a0 false _ A2.out).mono ?_); rintro e w' ⟨rfl, ⟨nd, rfl⟩⟩; refine ⟨_, rfl, ?_⟩))
 go_ret2
 exact ⟨qcf, qan⟩
mutual
def qa1.j0 : Nat → List (qac) → Int → Bool → Option (ByteArray × Bool)
 | 0, _, _, _ => none
 | k + 1, x0, x1, x15 => if x15 = true then (some ((⟨#[]⟩ : ByteArray), false)) else (qa1.l0 k x0 x1 (⟨#[]⟩ : ByteArray) 1)
def qa1.l0 : Nat → List (qac) → Int → ByteArray → Int → Option (ByteArray × Bool)
 | 0, _, _, _, _ => none
 | k + 1, x0, x1, x6, x7 => if x7 ≤ x1 then ((qcd.f k x0 x7).bind fun qce => (if qce = true then (if x6.size + 1 ≤ 9223372036854775807 then (qa1.l0 k x0 x1 (x6 ++ (⟨#[111]⟩ : ByteArray)) (wrap64 (x7 + 1))) else (none)) else (if x6.size + 1 ≤ 9223372036854775807 then (qa1.l0 k x0 x1 (x6 ++ (⟨#[120]⟩ : ByteArray)) (wrap64 (x7 + 1))) else (none)))) else (some (x6, true))
end
def qa1.f (k : Nat) (l0 : List (qac)) (a1 : Int) : Option (ByteArray × Bool) := (qaP.f k l0).bind fun qat => (if qat = true then ((qbi.f a1 1 48).bind fun qaR => (qa1.j0 k l0 a1 (!qaR))) else (qa1.j0 k l0 a1 true))
theorem qa1.calls (k : Nat) (A0 : Option Addr) (c0 : Nat) (l0 : List (qac)) (a1 : Int) (r1 : ByteArray) (r2 : Bool) (w : World) (hr0 : Kd.C qaL w A0 l0.length l0) (hc0 : l0.length ≤ c0) (h : qa1.f k l0 a1 = some (r1, r2)) :
  Calls Tryz.prog 117 #[.slice A0 l0.length c0, .int .i64 a1] w fun e w' => e = .returned (.tuple #[.string r1, .bool r2]) ∧ Below w.heap.size w w' := by
 have HR0 := ak_ hr0; have HC0 := ak_ hc0; clear hr0 hc0; have HB := br_ w; have H : ((qaP.f k l0).bind fun qat => (if qat = true then ((qbi.f a1 1 48).bind fun qaR => (qa1.j0 k l0 a1 (!qaR))) else (qa1.j0 k l0 a1 true))) = some (r1, r2) := h; clear h; have HC3 := ak_ H; clear H; go_enter Tryz.func117, Tryz.ntmps117
 go_upto_region 1 with (fail)
 go_cut [15] (fun v15 wc => ∃ (kq : Nat) (qmH : Bool), v15 = .bool qmH ∧ qag (qa1.j0 kq l0 a1 qmH = some (r1, r2)) ∧ qag (kq ≤ k) ∧ qag (Below w.heap.size w wc))
 case first =>
  have H := HC3.out; clear HC3; obtain ⟨qat, A4, H⟩ := qay H; (try dsimp only at H); by_cases c5 : qat = true
  ·subst c5; rw [if_pos rfl] at H; obtain ⟨qaR, A6, H⟩ := qay H; (try dsimp only at H); have H' := ak_ H; clear H
   go_wp2_with (first | (refine gl_ 9 Tryz.func60 #[.slice A0 l0.length c0] rfl qbK ?_; (with_reducible refine (qaP.calls k _ _ l0 true _ ?qaA ?qaB A4.out).mono ?_); (case qaA => exact qha); (case qaB => exact qb5); rintro e w7 ⟨rfl, hb⟩; refine ⟨_, rfl, ?_⟩; replace HB := HB.mw hb; (try clear hb)) | (go_at_call 93; (with_reducible refine (qbi.calls a1 1 48 qaR _ A6.out).mono ?_); rintro e w' ⟨rfl, ⟨nd, rfl⟩⟩))
   go_meet
   case rel => exact ⟨_, (!qaR), qav, H', ⟨qih⟩, ⟨qan⟩⟩
  replace c5 := Bool.eq_false_iff.mpr c5; subst c5; rw [if_neg ff_] at H; have H' := ak_ H; clear H
  go_wp2_with (first | (refine gl_ 9 Tryz.func60 #[.slice A0 l0.length c0] rfl qbK ?_; (with_reducible refine (qaP.calls k _ _ l0 false _ ?qaA ?qaB A4.out).mono ?_); (case qaA => exact qha); (case qaB => exact qb5); rintro e w8 ⟨rfl, hb⟩; refine ⟨_, rfl, ?_⟩; replace HB := HB.mw hb; (try clear hb)))
  go_meet
  case rel => exact ⟨_, (true), qav, H', ⟨qih⟩, ⟨qan⟩⟩
 case rest =>
  clear HC3; obtain ⟨kq, qmH, rfl, HA, HJ2, HB⟩ := hcut
  cases kq with
  | zero => exact absurd HA.out (by simp [qa1.j0])
  | succ kj2 =>
   have H := HA.out; clear HA; simp only [qa1.j0] at H; by_cases c9 : qmH = true
   ·subst c9; rw [if_pos rfl] at H; obtain ⟨rfl, rfl⟩ := qdF H; go_wp2
    go_ret2
    exact ⟨qcf, qan⟩
   replace c9 := Bool.eq_false_iff.mpr c9; subst c9; rw [if_neg ff_] at H; have H' := ak_ H; clear H; go_wp2
   go_loopg [6, 7] kj2 (fun kq v6 v7 w' => ∃ (qhn : ByteArray) (qlZ : Int), v6 = .string qhn ∧ v7 = .int .i64 qlZ ∧ qag (qa1.l0 kq l0 a1 qhn qlZ = some (r1, r2)) ∧ qag (kq ≤ kj2) ∧ qag (Below w.heap.size w w'))
   case atStart => exact ⟨((⟨#[]⟩ : ByteArray)), (1), qav, qav, H', ⟨Nat.le_refl _⟩, ⟨qan⟩⟩
   case round =>
    clear H'; (try clear c9); obtain ⟨qhn, qlZ, rfl, rfl, HA, HK2, HB⟩ := hrel
    cases gk with
    | zero => exact absurd HA.out (by simp [qa1.l0])
    | succ k2 =>
     have H := HA.out; clear HA; simp only [qa1.l0] at H; by_cases c10 : qlZ ≤ a1; rotate_left
     ·rw [if_neg c10] at H; have qgt := decide_eq_false c10; clear c10; obtain ⟨rfl, rfl⟩ := qdF H; go_wp2
      go_ret2
      exact ⟨qcf, qan⟩
     rw [if_pos c10] at H; have qgt := decide_eq_true c10; clear c10; obtain ⟨qce, A11, H⟩ := qay H; (try dsimp only at H); by_cases c12 : qce = true
     ·subst c12; rw [if_pos rfl] at H; obtain ⟨c13, H⟩ := qck H; have qk6 := eq_true c13; have c13b1 := decide_eq_true c13
      try have c13b2 : (9223372036854775807 < qhn.size + 1) = False := eq_false (Nat.not_lt.2 c13)
      have H' := ak_ H; clear H
      go_wp2_with (first | (refine gl_ 23 Tryz.func173 #[.slice A0 l0.length c0, .int .i64 qlZ] rfl qbK ?_; (with_reducible refine (qcd.calls k2 _ _ l0 qlZ true _ ?qaA ?qaB A11.out).mono ?_); (case qaA => exact qha); (case qaB => exact qb5); rintro e w14 ⟨rfl, hb⟩; refine ⟨_, rfl, ?_⟩; replace HB := HB.mw hb; (try clear hb)))
      go_roundg k2
      case measure => have := HJ2.out; have := HK2.out; omega
      case rel => exact ⟨(qhn ++ (⟨#[111]⟩ : ByteArray)), (wrap64 (qlZ + 1)), qav, qav, H', ⟨by have := HJ2.out; have := HK2.out; omega⟩, ⟨qan⟩⟩
     replace c12 := Bool.eq_false_iff.mpr c12; subst c12; rw [if_neg ff_] at H; obtain ⟨c15, H⟩ := qck H; have qm2 := eq_true c15; have qop := decide_eq_true c15
     try have c15b2 : (9223372036854775807 < qhn.size + 1) = False := eq_false (Nat.not_lt.2 c15)
     have H' := ak_ H; clear H
     go_wp2_with (first | (refine gl_ 23 Tryz.func173 #[.slice A0 l0.length c0, .int .i64 qlZ] rfl qbK ?_; (with_reducible refine (qcd.calls k2 _ _ l0 qlZ false _ ?qaA ?qaB A11.out).mono ?_); (case qaA => exact qha); (case qaB => exact qb5); rintro e w16 ⟨rfl, hb⟩; refine ⟨_, rfl, ?_⟩; replace HB := HB.mw hb; (try clear hb)))
     go_roundg k2
     case measure => have := HJ2.out; have := HK2.out; omega
     case rel => exact ⟨(qhn ++ (⟨#[120]⟩ : ByteArray)), (wrap64 (qlZ + 1)), qav, qav, H', ⟨by have := HJ2.out; have := HK2.out; omega⟩, ⟨qan⟩⟩
def qbz.l0 : Nat → ByteArray → Int → Option (Bool)
 | 0, _, _ => none
 | k + 1, x0, x3 => if x3 < (x0.size : Int) then (if 0 ≤ x3 then (if (bt x0 x3) = 111 then (qbz.l0 k x0 (wrap64 (x3 + 1))) else (if (bt x0 x3) = 120 then (qbz.l0 k x0 (wrap64 (x3 + 1))) else (if (bt x0 x3) = 63 then (qbz.l0 k x0 (wrap64 (x3 + 1))) else (some false)))) else (none)) else (some true)
def qbz.f (k : Nat) (a0 : ByteArray) : Option (Bool) := (qbi.f (a0.size : Int) 1 48).bind fun qat => (if qat = true then (qbz.l0 k a0 0) else (some false))
theorem qbz.calls (k : Nat) (a0 : ByteArray) (r : Bool) (w : World) (h : qbz.f k a0 = some r) :
  Calls Tryz.prog 212 #[.string a0] w fun e w' => e = .returned (.bool r) ∧ qcN w w' := by
 have H : ((qbi.f (a0.size : Int) 1 48).bind fun qat => (if qat = true then (qbz.l0 k a0 0) else (some false))) = some r := h; clear h; obtain ⟨qat, A2, H⟩ := qay H; (try dsimp only at H); by_cases c3 : qat = true; rotate_left
 ·replace c3 := Bool.eq_false_iff.mpr c3; subst c3; rw [if_neg ff_] at H; obtain rfl := sj_ H; go_enter Tryz.func212, Tryz.ntmps212
  go_wp2_with (first | (refine gl_ 6 Tryz.func93 #[.int .i64 (a0.size : Int), .int .i64 1, .int .i64 48] rfl qbK ?_; (with_reducible refine (qbi.calls (a0.size : Int) 1 48 false _ A2.out).mono ?_); rintro e w' ⟨rfl, ⟨nd, rfl⟩⟩; refine ⟨_, rfl, ?_⟩))
  go_ret
  exact ⟨qav, qcO⟩
 subst c3; rw [if_pos rfl] at H; have H' := ak_ H; clear H; go_enter Tryz.func212, Tryz.ntmps212
 go_wp2_with (first | (refine gl_ 6 Tryz.func93 #[.int .i64 (a0.size : Int), .int .i64 1, .int .i64 48] rfl qbK ?_; (with_reducible refine (qbi.calls (a0.size : Int) 1 48 true _ A2.out).mono ?_); rintro e w' ⟨rfl, ⟨nd, rfl⟩⟩; refine ⟨_, rfl, ?_⟩))
 go_loopg [3] k (fun kq v3 w' => ∃ (qbx : Int), v3 = .int .i64 qbx ∧ qag (qbz.l0 kq a0 qbx = some r) ∧ qag (kq ≤ k) ∧ qcN w w')
 case atStart => exact ⟨(0), qav, H', ⟨Nat.le_refl _⟩, qcO⟩
 case round =>
  clear H'; (try clear c3); obtain ⟨qbx, rfl, HA, HK1, ⟨m1, rfl⟩⟩ := hrel
  cases gk with
  | zero => exact absurd HA.out (by simp [qbz.l0])
  | succ k1 =>
   have H := HA.out; clear HA; simp only [qbz.l0] at H; by_cases c4 : qbx < (a0.size : Int); rotate_left
   ·rw [if_neg c4] at H; have qfx := decide_eq_false c4; clear c4; obtain rfl := sj_ H; go_wp2
    go_ret
    exact ⟨qav, qcO⟩
   rw [if_pos c4] at H; have qfx := decide_eq_true c4; clear c4; obtain ⟨c5, H⟩ := qck H; have qgJ := decide_eq_true c5; clear c5; by_cases c7 : (bt a0 qbx) = 111
   ·rw [if_pos c7] at H; have qgU : ((bt a0 qbx) == 111) = true := beq_iff_eq.mpr c7; have qmL : ((bt a0 qbx) != 111) = false := bne_eq_false_iff_eq.mpr c7; clear c7; have H' := ak_ H; clear H; have p6 : 0 ≤ (qbx : Int) := of_decide_eq_true qaO; have q6 : qbx < (a0.size : Int) := of_decide_eq_true qaO; have hx6 := qel a0 qbx; replace p6 := eq_true p6; replace q6 := eq_true q6; go_wp2
    go_roundg k1
    case measure => have := HK1.out; omega
    case rel => exact ⟨(wrap64 (qbx + 1)), qav, H', ⟨qcW⟩, qcO⟩
   rw [if_neg c7] at H; have qgU : ((bt a0 qbx) == 111) = false := beq_eq_false_iff_ne.mpr c7; have qmL : ((bt a0 qbx) != 111) = true := bne_iff_ne.mpr c7; by_cases c9 : (bt a0 qbx) = 120
   ·rw [if_pos c9] at H; have qln : ((bt a0 qbx) == 120) = true := beq_iff_eq.mpr c9; have c9b1 : ((bt a0 qbx) != 120) = false := bne_eq_false_iff_eq.mpr c9; clear c9; have H' := ak_ H; clear H; have p6 : 0 ≤ (qbx : Int) := of_decide_eq_true qaO; have q6 : qbx < (a0.size : Int) := of_decide_eq_true qaO; have hx6 := qel a0 qbx; replace p6 := eq_true p6; replace q6 := eq_true q6; have p8 : 0 ≤ (qbx : Int) := of_decide_eq_true qaO; have q8 : qbx < (a0.size : Int) := of_decide_eq_true qaO; have hx8 := qel a0 qbx; replace p8 := eq_true p8; replace q8 := eq_true q8; go_wp2
    go_roundg k1
    case measure => have := HK1.out; omega
    case rel => exact ⟨(wrap64 (qbx + 1)), qav, H', ⟨qcW⟩, qcO⟩
   rw [if_neg c9] at H; have qln : ((bt a0 qbx) == 120) = false := beq_eq_false_iff_ne.mpr c9; have c9b1 : ((bt a0 qbx) != 120) = true := bne_iff_ne.mpr c9; by_cases c11 : (bt a0 qbx) = 63; rotate_left
   ·rw [if_neg c11] at H; have qfQ : ((bt a0 qbx) == 63) = false := beq_eq_false_iff_ne.mpr c11; have qgT : ((bt a0 qbx) != 63) = true := bne_iff_ne.mpr c11; obtain rfl := sj_ H; have p6 : 0 ≤ (qbx : Int) := of_decide_eq_true qaO; have q6 : qbx < (a0.size : Int) := of_decide_eq_true qaO; have hx6 := qel a0 qbx; replace p6 := eq_true p6; replace q6 := eq_true q6; have p8 : 0 ≤ (qbx : Int) := of_decide_eq_true qaO; have q8 : qbx < (a0.size : Int) := of_decide_eq_true qaO; have hx8 := qel a0 qbx; replace p8 := eq_true p8; replace q8 := eq_true q8; have p10 : 0 ≤ (qbx : Int) := of_decide_eq_true qaO; have q10 : qbx < (a0.size : Int) := of_decide_eq_true qaO; have hx10 := qel a0 qbx; replace p10 := eq_true p10; replace q10 := eq_true q10; go_wp2
    go_ret
    exact ⟨qav, qcO⟩
   rw [if_pos c11] at H; have qfQ : ((bt a0 qbx) == 63) = true := beq_iff_eq.mpr c11; have qgT : ((bt a0 qbx) != 63) = false := bne_eq_false_iff_eq.mpr c11; clear c11; have H' := ak_ H; clear H; have p6 : 0 ≤ (qbx : Int) := of_decide_eq_true qaO; have q6 : qbx < (a0.size : Int) := of_decide_eq_true qaO; have hx6 := qel a0 qbx; replace p6 := eq_true p6; replace q6 := eq_true q6; have p8 : 0 ≤ (qbx : Int) := of_decide_eq_true qaO; have q8 : qbx < (a0.size : Int) := of_decide_eq_true qaO; have hx8 := qel a0 qbx; replace p8 := eq_true p8; replace q8 := eq_true q8; have p10 : 0 ≤ (qbx : Int) := of_decide_eq_true qaO; have q10 : qbx < (a0.size : Int) := of_decide_eq_true qaO; have hx10 := qel a0 qbx; replace p10 := eq_true p10; replace q10 := eq_true q10; go_wp2
   go_roundg k1
   case measure => have := HK1.out; omega
   case rel => exact ⟨(wrap64 (qbx + 1)), qav, H', ⟨qcW⟩, qcO⟩
def qdt.f (k : Nat) (qbP : ByteArray) (qcz : Int) : Option (Bool) := (qbz.f k qbP).bind fun qaR => (if qaR = true then ((qbi.f qcz 0 3).bind fun qce => (some qce)) else (some false))
theorem qdt.calls (k : Nat) (qbP : ByteArray) (qcz : Int) (r : Bool) (w : World) (h : qdt.f k qbP qcz = some r) :
  Calls Tryz.prog 174 #[.agg #[.string qbP, .int .i64 qcz]] w fun e w' => e = .returned (.bool r) ∧ Below w.heap.size w w' := by
 have hu99 := Tryz.underlying99; have HB := br_ w; have H : ((qbz.f k qbP).bind fun qaR => (if qaR = true then ((qbi.f qcz 0 3).bind fun qce => (some qce)) else (some false))) = some r := h; clear h; obtain ⟨qaR, A2, H⟩ := qay H; (try dsimp only at H); by_cases c3 : qaR = true
 ·subst c3; rw [if_pos rfl] at H; obtain ⟨qce, A4, H⟩ := qay H; (try dsimp only at H); obtain rfl := sj_ H; go_enter Tryz.func174, Tryz.ntmps174
  go_wp2_with (first | ((with_reducible refine qal (N := 1) rfl ?_); refine bx_ 1 rfl (cs := #[.string qbP, .int .i64 qcz]) (t := 99) qbe ?_; intro qb6 hg w5 hbox hb; have qaG := ak_ (hbox); have qeO := ak_ (HB.ge hg); have qem := ak_ (HB.ge hg); replace HB := HB.mw hb; clear hb hbox hg; obtain ⟨qkg, qkh, qkm, qkn⟩ := qbG qaG.out) | (refine gl_ 5 Tryz.func212 #[.string qbP] rfl qbK ?_; (with_reducible refine (qbz.calls k qbP true _ A2.out).mono ?_); rintro e w' ⟨rfl, ⟨nd, rfl⟩⟩; refine ⟨_, rfl, ?_⟩) | (go_at_call 93; (with_reducible refine (qbi.calls qcz 0 3 qce _ A4.out).mono ?_); rintro e w' ⟨rfl, ⟨nd, rfl⟩⟩))
  go_ret
  exact ⟨qcf, qds⟩
 replace c3 := Bool.eq_false_iff.mpr c3; subst c3; rw [if_neg ff_] at H; obtain rfl := sj_ H; go_enter Tryz.func174, Tryz.ntmps174
 go_wp2_with (first | ((with_reducible refine qal (N := 1) rfl ?_); refine bx_ 1 rfl (cs := #[.string qbP, .int .i64 qcz]) (t := 99) qbe ?_; intro qb6 hg w7 hbox hb; have qaG := ak_ (hbox); have qeO := ak_ (HB.ge hg); have qem := ak_ (HB.ge hg); replace HB := HB.mw hb; clear hb hbox hg; obtain ⟨qno, qnp, qnq, qnr⟩ := qbG qaG.out) | (refine gl_ 5 Tryz.func212 #[.string qbP] rfl qbK ?_; (with_reducible refine (qbz.calls k qbP false _ A2.out).mono ?_); rintro e w' ⟨rfl, ⟨nd, rfl⟩⟩; refine ⟨_, rfl, ?_⟩))
 go_ret
 exact ⟨qcf, qds⟩
def qaD.j0 : Nat → List ByteArray → Bool → Option (ByteArray × Int × Bool)
 | 0, _, _ => none
 | k + 1, x4, x15 => if x15 = true then (some ((⟨#[]⟩ : ByteArray), 0, false)) else (if 0 < (x4.length : Int) then (if 1 < (x4.length : Int) then ((qaX.f k (qeJ ByteArray.empty x4 1)).bind fun t107 => ((qdt.f k (qeJ ByteArray.empty x4 0) t107).bind fun t109 => (if t109 = true then (some (qeJ ByteArray.empty x4 0, t107, true)) else (some ((⟨#[]⟩ : ByteArray), 0, false))))) else (none)) else (none))
def qaD.f (k : Nat) (a0 : ByteArray) : Option (ByteArray × Int × Bool) := (qbk.f k a0 58).bind fun qaR => (if (a0.size : Int) > 50 then (qaD.j0 k qaR true) else (qaD.j0 k qaR ((qaR.length : Int) != 2)))
def qaD.T4 : Bool × List (List Nat × List Nat) := (true, [([], []), ([0], [0]), ([1], [1]), ([], []), ([3], [3]), ([4], [4]), ([5], [5]), ([2, 6], [2, 6]), ([], []), ([8, 7, 6, 0, 1, 2, 3, 4, 5, 6, 7, 8], [7, 8])])
def qaD.B4 : List Nat := [0, 1, 3, 0, 8, 24, 56, 127, 0, 511]
theorem qaD.tab4 : qhS .any (opsOf Tryz.f118 4) = qaD.T4 := by kernel_rfl
theorem qaD.qqv : qeU qaD.T4.2 qaD.B4 = true := by kernel_rfl
theorem qaD.calls (k : Nat) (a0 : ByteArray) (r1 : ByteArray) (r2 : Int) (r3 : Bool) (w : World) (h : qaD.f k a0 = some (r1, r2, r3)) :
  Calls Tryz.prog 118 #[.string a0] w fun e w' => e = .returned (.tuple #[.agg #[.string r1, .int .i64 r2], .bool r3]) ∧ Below w.heap.size w w' := by
 have hu99 := Tryz.underlying99; have HB := br_ w; have H : ((qbk.f k a0 58).bind fun qaR => (if (a0.size : Int) > 50 then (qaD.j0 k qaR true) else (qaD.j0 k qaR ((qaR.length : Int) != 2)))) = some (r1, r2, r3) := h; clear h; obtain ⟨qaR, A2, H⟩ := qay H; (try dsimp only at H); have HC3 := ak_ H; clear H; go_enter Tryz.func118, Tryz.ntmps118
 go_upto_region 2 with (first | ((with_reducible refine qal (N := 2) rfl ?_); refine bx_ 2 rfl (cs := #[.string (⟨#[]⟩ : ByteArray), .int .i64 0]) (t := 99) qbe ?_; intro qb6 hg w4 hbox hb; have qaG := ak_ (hbox); have qeO := ak_ (HB.ge hg); have qem := ak_ (HB.ge hg); replace HB := HB.mw hb; clear hb hbox hg) | (refine gl_ 7 Tryz.func39 #[.string a0, .int .u8 58] rfl qbK ?_; (with_reducible refine (qbk.calls k a0 58 qaR _ A2.out).mono ?_); rintro e w5 ⟨qhm, rfl, ho0, hb⟩; refine ⟨_, rfl, ?_⟩; have qb1 := ak_ (Kd.qax ho0 (qab qds)); replace qaG := ak_ (qar qmO hb); replace HB := ak_ (qaa qds hb); (try clear hb ho0)))
 (try simp only [Act.put, List.setIfInBounds_toArray, List.set_cons_zero, List.set_cons_succ])
 go_cut [15] (fun v15 wc => ∃ (kq : Nat) (qmH : Bool), v15 = .bool qmH ∧ qag (qaD.j0 kq qaR qmH = some (r1, r2, r3)) ∧ qag (kq ≤ k) ∧ qag (Kd.R Kd.string 9 wc w.heap.size (fun _ => True) qhm qaR) ∧ qag (wc.heap[qb6]? = some (.cells #[.string (⟨#[]⟩ : ByteArray), .int .i64 0] 99 (0, 0))) ∧ qag (Below w.heap.size w wc))
 case first =>
  have H := HC3.out; clear HC3; by_cases c6 : (a0.size : Int) > 50
  ·rw [if_pos c6] at H; have qgk : decide (50 < (a0.size : Int)) = true := decide_eq_true c6; have qoq : decide (50 < a0.size) = true := decide_eq_true (by omega); clear c6; (first | rw [qgk] | rw [qoq] | (simp only [qd7, qew]; rw [qgk]) | skip); have H' := ak_ H; clear H; go_wp2; go_meet
   case rel => exact ⟨_, (true), qav, H', ⟨qih⟩, ⟨qra⟩, ⟨qmO⟩, ⟨qds⟩⟩
  rw [if_neg c6] at H; have qgk : decide (50 < (a0.size : Int)) = false := decide_eq_false c6; have qoq : decide (50 < a0.size) = false := decide_eq_false (by omega); clear c6; (first | rw [qgk] | rw [qoq] | (simp only [qd7, qew]; rw [qgk]) | skip); have H' := ak_ H; clear H; obtain ⟨Ao7, co7, eo7⟩ := Kd.qaI qb1.out; subst eo7; go_wp2; go_meet
  case rel => exact ⟨_, (((qaR.length : Int) != 2)), qav, H', ⟨qih⟩, ⟨qra⟩, ⟨qmO⟩, ⟨qds⟩⟩
 case rest =>
  clear HC3; obtain ⟨kq, qmH, rfl, HA, HJ2, qdk, qaG, HB⟩ := hcut
  cases kq with
  | zero => exact absurd HA.out (by simp [qaD.j0])
  | succ kj2 =>
   have H := HA.out; clear HA; simp only [qaD.j0] at H; by_cases c8 : qmH = true
   ·subst c8; rw [if_pos rfl] at H; obtain ⟨rfl, rfl, rfl⟩ := qfJ H; obtain ⟨qhx, qhy, qhz, qhA⟩ := qbG qaG.out; go_wp2; refine bodyPost_ret (qf2 rfl _ _ qb6 99 #[.string (⟨#[]⟩ : ByteArray), .int .i64 0] (0, 0) _ rfl k1_ Tryz.underlying99 rfl (by kernel_rfl)) rfl ?_; exact ⟨qcf, qds⟩
   replace c8 := Bool.eq_false_iff.mpr c8; subst c8; rw [if_neg ff_] at H; obtain ⟨c10, H⟩ := qck H; have qgt := decide_eq_true c10; have c10b1 : decide (0 < qaR.length) = true := decide_eq_true (by omega); clear c10; obtain ⟨c11, H⟩ := qck H; have qfQ := decide_eq_true c11; have qgT : decide (1 < qaR.length) = true := decide_eq_true (by omega); clear c11; obtain ⟨t107, A12, H⟩ := qay H; (try dsimp only at H); obtain ⟨t109, A13, H⟩ := qay H; (try dsimp only at H); by_cases c14 : t109 = true
   ·subst c14; rw [if_pos rfl] at H; obtain ⟨rfl, rfl, rfl⟩ := qfJ H
    try go_wp2
    replace qdk := ak_ (Kd.qaw qdk.out); replace qaG := ak_ (qam qaG.out); replace HB := ak_ (qah HB.out); obtain ⟨Ao16, co16, eo16⟩ := Kd.qaI qdk.out; (first | subst eo16 | (injection eo16 with f1_ f2_ f3_; have f4_ := f1_.symm; have f5_ := f3_.symm; clear f1_ f2_ f3_; subst f4_; subst f5_))
    have qhD : 0 ≤ (0 : Int) := (by omega)
    have qhE : 0 < (qaR.length : Int) := of_decide_eq_true qaO; obtain ⟨qec, qnf, qcS⟩ := Kd.qeu (Kd.qao qdk.out).2.2 0 qhD qhE
    cases qnf
    have qs2 : (0 < qaR.length) = True := eq_true (by omega); (try rw [show ((0 : Int)).toNat = 0 from rfl] at qcS); (try rw [Addr.add_zero'] at qcS); replace qhD := eq_true qhD; replace qhE := eq_true qhE
    have qfI : 0 ≤ (1 : Int) := (by omega)
    have qfK : 1 < (qaR.length : Int) := of_decide_eq_true qaO; obtain ⟨qgS, qjC, qcr⟩ := Kd.qeu (Kd.qao qdk.out).2.2 1 qfI qfK
    obtain rfl : qec = qgS := (by injection qjC)
    (try simp only [show (1 : Int).toNat = 1 from rfl, Nat.reduceMul, Nat.reduceEqDiff, Go.Addr.add, ↓reduceIte] at qcr); have qs3 : (1 < qaR.length) = True := eq_true (by omega); (try rw [show ((1 : Int)).toNat = 1 from rfl] at qcr); replace qfI := eq_true qfI; replace qfK := eq_true qfK; refine qe6 (n := 10) (S := fun w' => w'.cell? qec = some (.string (qeJ ByteArray.empty qaR 0)) ∧ w'.cell? ⟨qec.block, qec.off + 1, none⟩ = some (.string (qeJ ByteArray.empty qaR 1))) (ds := []) (rA_ [0, 10]) (by kernel_rfl) rfl rfl ⟨qcS, qcr⟩ (fun hHeld => ?_); refine qdn qaD.tab4 qaD.qqv (fun HT_ HW_ => ?_)
    generalize wc.drew = w15 at qdk qaG HB qcS qcr hHeld ⊢
    refine pu_ 0 17 [1, 9] ?_; refine pu_ 1 18 [2, 8] ?_; refine pu_ 3 20 [2, 1, 1, 6] ?_; refine pu_ 4 21 [2, 1, 2, 5] ?_; refine qis 2 19 [5, 5] ?_; refine qis 5 22 [6, 4] ?_; refine qsJ (σ := Nat) 1 (rA_ [9, 1]) (fun s_ => [(23, .int .i64 t107), (5, .pointer (some ⟨s_, 0, none⟩)), (24, .agg #[.string (qeJ ByteArray.empty qaR 0), .int .i64 t107])]) (fun s_ w' => (w'.cell? qec = some (.string (qeJ ByteArray.empty qaR 0)) ∧ w'.cell? ⟨qec.block, qec.off + 1, none⟩ = some (.string (qeJ ByteArray.empty qaR 1))) ∧ (Kd.R Kd.string 9 w' w.heap.size (fun _ => True) (.slice (some qec) qaR.length co16) qaR) ∧ (w'.heap[qb6]? = some (.cells #[.string (⟨#[]⟩ : ByteArray), .int .i64 0] 99 (0, 0))) ∧ (w'.heap[s_]? = some (.cells #[.string (⟨#[]⟩ : ByteArray), .int .i64 0] 99 (0, 0))) ∧ (w.heap.size ≤ s_) ∧ (w.heap.size ≤ s_) ∧ (qb6 ≠ s_) ∧ (s_ ≠ qb6) ∧ (Below w.heap.size w w')) ?_ ?_; rotate_left
    ·intro hCont; refine two_ (i := 6) (j := 8) (Ni := some 23) (Nj := some 5) (rA_ [7, 3]) (rA_ [6, 2, 1, 1]) rfl rfl rfl rfl (qqk HT_.out (by kernel_rfl)) (by decide) (by decide) (fun K hK => ?_) (fun K hK => ?_)
     ·skip
      refine qfR Tryz.func95 (by kernel_rfl) rfl #[.string (qeJ ByteArray.empty qaR 1)] (by rfl) rfl rfl qbK ?_
      with_reducible refine (qaX.calls kj2 (qeJ ByteArray.empty qaR 1) t107 _ A12.out).mono ?_
      rintro e w' ⟨rfl, ⟨nd, rfl⟩⟩; refine ⟨_, rfl, ?_⟩; refine hK.out _ _ ⟨hHeld.1, hHeld.2⟩ (fun hHeld => ?_); clear hK K; refine nm_ 23 ?_; refine pu_ 7 24 [8, 2] ?_; refine qfH (i := 8) (N := some 5) (rA_ [9, 1]) rfl rfl (qc4 HT_.out (by kernel_rfl)) (by decide) (fun K hK => ?_); refine qjK ?hg (N := 5) ?hd (cs := #[.string (⟨#[]⟩ : ByteArray), .int .i64 0]) (t := 99) ?hr ?_; (case hd => rfl); (case hg => rfl); (case hr => exact qbe); intro qen hg w17 hbox hb; have HS0_ := (hb.cell (World.block_lt_of_cell? _ _ (hHeld.1))).trans (hHeld.1); have HS1_ := (hb.cell (World.block_lt_of_cell? _ _ (hHeld.2))).trans (hHeld.2); replace qdk := qdk.mw hb; have qfC := ak_ (hbox); have ql1 := ak_ ((by rw [hg]; exact (qab qds) : w.heap.size ≤ qen)); have qk0 := ak_ ((by rw [hg]; exact (qab qds) : w.heap.size ≤ qen)); replace HB := ak_ (qaa qds hb); have qdx := ak_ (qaG.ne hg); have qdT := ak_ (qaG.ne hg).symm; replace qaG := ak_ (qar qmO hb); clear hb hbox hg; refine hK.out _ _ ⟨HS0_, HS1_⟩ (fun hHeld => ?_); clear hK K; refine nm_ 5 ?_; exact qep qqN (hCont (qen) _ ⟨hHeld, qjQ, qmO, (by apply_rules only [qfC.out, qak, qam, qaj]), ql1.out, qk0.out, qdx.out, qdT.out, k67_⟩)
     skip
     refine qjK ?hg (N := 5) ?hd (cs := #[.string (⟨#[]⟩ : ByteArray), .int .i64 0]) (t := 99) ?hr ?_; (case hd => rfl); (case hg => rfl); (case hr => exact qbe); intro qen hg w17 hbox hb; have HS0_ := (hb.cell (World.block_lt_of_cell? _ _ (hHeld.1))).trans (hHeld.1); have HS1_ := (hb.cell (World.block_lt_of_cell? _ _ (hHeld.2))).trans (hHeld.2); replace qdk := qdk.mw hb; have qfC := ak_ (hbox); have ql1 := ak_ ((by rw [hg]; exact (qab qds) : w.heap.size ≤ qen)); have qk0 := ak_ ((by rw [hg]; exact (qab qds) : w.heap.size ≤ qen)); replace HB := ak_ (qaa qds hb); have qdx := ak_ (qaG.ne hg); have qdT := ak_ (qaG.ne hg).symm; replace qaG := ak_ (qar qmO hb); clear hb hbox hg; refine hK.out _ _ ⟨HS0_, HS1_⟩ (fun hHeld => ?_); clear hK K; refine nm_ 5 ?_; refine qfH (i := 6) (N := some 23) (rA_ [7, 1, 1, 1]) rfl rfl (qc4 HT_.out (by kernel_rfl)) (by decide) (fun K hK => ?_); refine qfR Tryz.func95 (by kernel_rfl) rfl #[.string (qeJ ByteArray.empty qaR 1)] (by rfl) rfl rfl qbK ?_
     with_reducible refine (qaX.calls kj2 (qeJ ByteArray.empty qaR 1) t107 _ A12.out).mono ?_
     rintro e w' ⟨rfl, ⟨nd, rfl⟩⟩; refine ⟨_, rfl, ?_⟩; refine hK.out _ _ ⟨hHeld.1, hHeld.2⟩ (fun hHeld => ?_); clear hK K; refine nm_ 23 ?_; refine pu_ 7 24 [9, 1] ?_; exact qep qqN (hCont (qen) _ ⟨hHeld, qjQ, qmO, (by apply_rules only [qfC.out, qak, qam, qaj]), ql1.out, qk0.out, qdx.out, qdT.out, k67_⟩)
    rintro qen w18 ⟨hS_, h0_, h1_, h2_, h3_, h4_, h5_, h6_, h7_⟩
    have n0_ : qag (Kd.R Kd.string 9 w18 w.heap.size (fun _ => True) (.slice (some qec) qaR.length co16) qaR) := ⟨h0_⟩
    have n1_ : qag (w18.heap[qb6]? = some (.cells #[.string (⟨#[]⟩ : ByteArray), .int .i64 0] 99 (0, 0))) := ⟨h1_⟩
    have n2_ : qag (w18.heap[qen]? = some (.cells #[.string (⟨#[]⟩ : ByteArray), .int .i64 0] 99 (0, 0))) := ⟨h2_⟩
    have n3_ : qag (w.heap.size ≤ qen) := ⟨h3_⟩
    have n4_ : qag (w.heap.size ≤ qen) := ⟨h4_⟩
    have n5_ : qag (qb6 ≠ qen) := ⟨h5_⟩
    have n6_ : qag (qen ≠ qb6) := ⟨h6_⟩
    have n7_ : qag (Below w.heap.size w w18) := ⟨h7_⟩
    clear qdk; clear qaG; clear HB; clear h0_ h1_ h2_ h3_ h4_ h5_ h6_ h7_; have qdk := n0_; have qaG := n1_; have qfC := n2_; have ql1 := n3_; have qk0 := n4_; have qdx := n5_; have qdT := n6_; have HB := n7_; clear n0_ n1_ n2_ n3_ n4_ n5_ n6_ n7_; have hHeld : w18.cell? qec = some (.string (qeJ ByteArray.empty qaR 0)) ∧ w18.cell? ⟨qec.block, qec.off + 1, none⟩ = some (.string (qeJ ByteArray.empty qaR 1)) := hS_; refine qep (a' := ?_) ?_ ?_; rotate_left
    ·simp only [qiH, Act.put, List.setIfInBounds_toArray, List.set_cons_zero, List.set_cons_succ]; rfl
    refine qfH (i := 9) (N := none) (rA_ [10]) rfl rfl (qc4 HT_.out (by kernel_rfl)) (by decide) (fun K hK => ?_); obtain ⟨hs19, hfs19⟩ := qcx qfC.out; have hns19_0 := qdx.out; have hms19_0 := qdT.out; have hs20 := qbC qfC.out; have hfs20 := qad qfC.out 1; have hns20_0 := qdx.out; have hms20_0 := qdT.out; refine skip_ (w1 := ?_) (by rfl) rfl ?_ ?_; rotate_left
    ·go_simp; rfl
    refine hK.out _ _ ⟨((cell_far (p := ⟨qen, _, none⟩) k17_ _).trans (((cell_far (p := ⟨qen, _, none⟩) k17_ _).trans (hHeld.1)))), ((cell_far (p := ⟨qen, _, none⟩) k17_ _).trans (((cell_far (p := ⟨qen, _, none⟩) k17_ _).trans (hHeld.2))))⟩ (fun hHeld => ?_); clear hK K; refine qgu (qeC HT_.out (by kernel_rfl)) ?_; have hnb21 := qdT.out; have hnc21 := qdx.out; obtain ⟨hcz22_0, hcz22_1, hfz22_0, hfz22_1⟩ := qbG qfC.out
    try go_wp2_with (first | (refine gl_ 26 Tryz.func174 #[.agg #[.string (qeJ ByteArray.empty qaR 0), .int .i64 t107]] rfl qbK ?_; (with_reducible refine (qdt.calls kj2 (qeJ ByteArray.empty qaR 0) t107 true _ A13.out).mono ?_); rintro e w23 ⟨rfl, hb⟩; refine ⟨_, rfl, ?_⟩; replace qdk := ak_ (Kd.qbv k9_ hb); replace qaG := ak_ (qar (g := qb6) (o := .cells #[.string (⟨#[]⟩ : ByteArray), .int .i64 0] 99 (0, 0)) k10_ hb); replace qfC := ak_ (qar (g := qen) (o := .cells #[.string (qeJ ByteArray.empty qaR 0), .int .i64 t107] 99 (0, 0)) k0_ hb); replace HB := ak_ (qaa k67_ hb); (try clear hb); obtain ⟨hcz24_0, hcz24_1, hfz24_0, hfz24_1⟩ := qbG qfC.out; obtain ⟨hcz25_0, hcz25_1, hfz25_0, hfz25_1⟩ := qbG qaG.out))
    refine bodyPost_ret (qf2 rfl _ _ qb6 99 #[.string (qeJ ByteArray.empty qaR 0), .int .i64 t107] (0, 0) _ rfl (by (with_reducible repeat (first | refine qak ?_ _ | refine qam ?_ | refine qaj ?_ _)); refine qbl (cs := #[.string (qeJ ByteArray.empty qaR 0), .int .i64 0]) ?_ 1 _ rfl; (with_reducible repeat (first | refine qak ?_ _ | refine qam ?_ | refine qaj ?_ _)); refine qbl (cs := #[.string (⟨#[]⟩ : ByteArray), .int .i64 0]) ?_ 0 _ rfl; apply_rules only [qaG.out, qak, qam, qaj]) Tryz.underlying99 rfl (by kernel_rfl)) rfl ?_; exact ⟨qcf, k67_⟩
   replace c14 := Bool.eq_false_iff.mpr c14; subst c14; rw [if_neg ff_] at H; obtain ⟨rfl, rfl, rfl⟩ := qfJ H
   try go_wp2
   replace qdk := ak_ (Kd.qaw qdk.out); replace qaG := ak_ (qam qaG.out); replace HB := ak_ (qah HB.out); obtain ⟨Ao27, co27, eo27⟩ := Kd.qaI qdk.out; (first | subst eo27 | (injection eo27 with f1_ f2_ f3_; have f4_ := f1_.symm; have f5_ := f3_.symm; clear f1_ f2_ f3_; subst f4_; subst f5_))
   have qhD : 0 ≤ (0 : Int) := (by omega)
   have qhE : 0 < (qaR.length : Int) := of_decide_eq_true qaO; obtain ⟨qec, qnf, qcS⟩ := Kd.qeu (Kd.qao qdk.out).2.2 0 qhD qhE
   cases qnf
   have qs2 : (0 < qaR.length) = True := eq_true (by omega); (try rw [show ((0 : Int)).toNat = 0 from rfl] at qcS); (try rw [Addr.add_zero'] at qcS); replace qhD := eq_true qhD; replace qhE := eq_true qhE
   have qfI : 0 ≤ (1 : Int) := (by omega)
   have qfK : 1 < (qaR.length : Int) := of_decide_eq_true qaO; obtain ⟨qgS, qjC, qcr⟩ := Kd.qeu (Kd.qao qdk.out).2.2 1 qfI qfK
   obtain rfl : qec = qgS := (by injection qjC)
   (try simp only [show (1 : Int).toNat = 1 from rfl, Nat.reduceMul, Nat.reduceEqDiff, Go.Addr.add, ↓reduceIte] at qcr); have qs3 : (1 < qaR.length) = True := eq_true (by omega); (try rw [show ((1 : Int)).toNat = 1 from rfl] at qcr); replace qfI := eq_true qfI; replace qfK := eq_true qfK; refine qe6 (n := 10) (S := fun w' => w'.cell? qec = some (.string (qeJ ByteArray.empty qaR 0)) ∧ w'.cell? ⟨qec.block, qec.off + 1, none⟩ = some (.string (qeJ ByteArray.empty qaR 1))) (ds := []) (rA_ [0, 10]) (by kernel_rfl) rfl rfl ⟨qcS, qcr⟩ (fun hHeld => ?_); refine qdn qaD.tab4 qaD.qqv (fun HT_ HW_ => ?_)
   generalize wc.drew = w26 at qdk qaG HB qcS qcr hHeld ⊢
   refine pu_ 0 17 [1, 9] ?_; refine pu_ 1 18 [2, 8] ?_; refine pu_ 3 20 [2, 1, 1, 6] ?_; refine pu_ 4 21 [2, 1, 2, 5] ?_; refine qis 2 19 [5, 5] ?_; refine qis 5 22 [6, 4] ?_; refine qsJ (σ := Nat) 1 (rA_ [9, 1]) (fun s_ => [(23, .int .i64 t107), (5, .pointer (some ⟨s_, 0, none⟩)), (24, .agg #[.string (qeJ ByteArray.empty qaR 0), .int .i64 t107])]) (fun s_ w' => (w'.cell? qec = some (.string (qeJ ByteArray.empty qaR 0)) ∧ w'.cell? ⟨qec.block, qec.off + 1, none⟩ = some (.string (qeJ ByteArray.empty qaR 1))) ∧ (Kd.R Kd.string 9 w' w.heap.size (fun _ => True) (.slice (some qec) qaR.length co27) qaR) ∧ (w'.heap[qb6]? = some (.cells #[.string (⟨#[]⟩ : ByteArray), .int .i64 0] 99 (0, 0))) ∧ (w'.heap[s_]? = some (.cells #[.string (⟨#[]⟩ : ByteArray), .int .i64 0] 99 (0, 0))) ∧ (w.heap.size ≤ s_) ∧ (w.heap.size ≤ s_) ∧ (qb6 ≠ s_) ∧ (s_ ≠ qb6) ∧ (Below w.heap.size w w')) ?_ ?_; rotate_left
   ·intro hCont; refine two_ (i := 6) (j := 8) (Ni := some 23) (Nj := some 5) (rA_ [7, 3]) (rA_ [6, 2, 1, 1]) rfl rfl rfl rfl (qqk HT_.out (by kernel_rfl)) (by decide) (by decide) (fun K hK => ?_) (fun K hK => ?_)
    ·skip
     refine qfR Tryz.func95 (by kernel_rfl) rfl #[.string (qeJ ByteArray.empty qaR 1)] (by rfl) rfl rfl qbK ?_
     with_reducible refine (qaX.calls kj2 (qeJ ByteArray.empty qaR 1) t107 _ A12.out).mono ?_
     rintro e w' ⟨rfl, ⟨nd, rfl⟩⟩; refine ⟨_, rfl, ?_⟩; refine hK.out _ _ ⟨hHeld.1, hHeld.2⟩ (fun hHeld => ?_); clear hK K; refine nm_ 23 ?_; refine pu_ 7 24 [8, 2] ?_; refine qfH (i := 8) (N := some 5) (rA_ [9, 1]) rfl rfl (qc4 HT_.out (by kernel_rfl)) (by decide) (fun K hK => ?_); refine qjK ?hg (N := 5) ?hd (cs := #[.string (⟨#[]⟩ : ByteArray), .int .i64 0]) (t := 99) ?hr ?_; (case hd => rfl); (case hg => rfl); (case hr => exact qbe); intro qen hg w28 hbox hb; have HS0_ := (hb.cell (World.block_lt_of_cell? _ _ (hHeld.1))).trans (hHeld.1); have HS1_ := (hb.cell (World.block_lt_of_cell? _ _ (hHeld.2))).trans (hHeld.2); replace qdk := qdk.mw hb; have qfC := ak_ (hbox); have ql1 := ak_ ((by rw [hg]; exact (qab qds) : w.heap.size ≤ qen)); have qk0 := ak_ ((by rw [hg]; exact (qab qds) : w.heap.size ≤ qen)); replace HB := ak_ (qaa qds hb); have qdx := ak_ (qaG.ne hg); have qdT := ak_ (qaG.ne hg).symm; replace qaG := ak_ (qar qmO hb); clear hb hbox hg; refine hK.out _ _ ⟨HS0_, HS1_⟩ (fun hHeld => ?_); clear hK K; refine nm_ 5 ?_; exact qep qqN (hCont (qen) _ ⟨hHeld, qjQ, qmO, (by apply_rules only [qfC.out, qak, qam, qaj]), ql1.out, qk0.out, qdx.out, qdT.out, k67_⟩)
    skip
    refine qjK ?hg (N := 5) ?hd (cs := #[.string (⟨#[]⟩ : ByteArray), .int .i64 0]) (t := 99) ?hr ?_; (case hd => rfl); (case hg => rfl); (case hr => exact qbe); intro qen hg w28 hbox hb; have HS0_ := (hb.cell (World.block_lt_of_cell? _ _ (hHeld.1))).trans (hHeld.1); have HS1_ := (hb.cell (World.block_lt_of_cell? _ _ (hHeld.2))).trans (hHeld.2); replace qdk := qdk.mw hb; have qfC := ak_ (hbox); have ql1 := ak_ ((by rw [hg]; exact (qab qds) : w.heap.size ≤ qen)); have qk0 := ak_ ((by rw [hg]; exact (qab qds) : w.heap.size ≤ qen)); replace HB := ak_ (qaa qds hb); have qdx := ak_ (qaG.ne hg); have qdT := ak_ (qaG.ne hg).symm; replace qaG := ak_ (qar qmO hb); clear hb hbox hg; refine hK.out _ _ ⟨HS0_, HS1_⟩ (fun hHeld => ?_); clear hK K; refine nm_ 5 ?_; refine qfH (i := 6) (N := some 23) (rA_ [7, 1, 1, 1]) rfl rfl (qc4 HT_.out (by kernel_rfl)) (by decide) (fun K hK => ?_); refine qfR Tryz.func95 (by kernel_rfl) rfl #[.string (qeJ ByteArray.empty qaR 1)] (by rfl) rfl rfl qbK ?_
    with_reducible refine (qaX.calls kj2 (qeJ ByteArray.empty qaR 1) t107 _ A12.out).mono ?_
    rintro e w' ⟨rfl, ⟨nd, rfl⟩⟩; refine ⟨_, rfl, ?_⟩; refine hK.out _ _ ⟨hHeld.1, hHeld.2⟩ (fun hHeld => ?_); clear hK K; refine nm_ 23 ?_; refine pu_ 7 24 [9, 1] ?_; exact qep qqN (hCont (qen) _ ⟨hHeld, qjQ, qmO, (by apply_rules only [qfC.out, qak, qam, qaj]), ql1.out, qk0.out, qdx.out, qdT.out, k67_⟩)
   rintro qen w29 ⟨hS_, h0_, h1_, h2_, h3_, h4_, h5_, h6_, h7_⟩
   have n0_ : qag (Kd.R Kd.string 9 w29 w.heap.size (fun _ => True) (.slice (some qec) qaR.length co27) qaR) := ⟨h0_⟩
   have n1_ : qag (w29.heap[qb6]? = some (.cells #[.string (⟨#[]⟩ : ByteArray), .int .i64 0] 99 (0, 0))) := ⟨h1_⟩
   have n2_ : qag (w29.heap[qen]? = some (.cells #[.string (⟨#[]⟩ : ByteArray), .int .i64 0] 99 (0, 0))) := ⟨h2_⟩
   have n3_ : qag (w.heap.size ≤ qen) := ⟨h3_⟩
   have n4_ : qag (w.heap.size ≤ qen) := ⟨h4_⟩
   have n5_ : qag (qb6 ≠ qen) := ⟨h5_⟩
   have n6_ : qag (qen ≠ qb6) := ⟨h6_⟩
   have n7_ : qag (Below w.heap.size w w29) := ⟨h7_⟩
   clear qdk; clear qaG; clear HB; clear h0_ h1_ h2_ h3_ h4_ h5_ h6_ h7_; have qdk := n0_; have qaG := n1_; have qfC := n2_; have ql1 := n3_; have qk0 := n4_; have qdx := n5_; have qdT := n6_; have HB := n7_; clear n0_ n1_ n2_ n3_ n4_ n5_ n6_ n7_; have hHeld : w29.cell? qec = some (.string (qeJ ByteArray.empty qaR 0)) ∧ w29.cell? ⟨qec.block, qec.off + 1, none⟩ = some (.string (qeJ ByteArray.empty qaR 1)) := hS_; refine qep (a' := ?_) ?_ ?_; rotate_left
   ·simp only [qiH, Act.put, List.setIfInBounds_toArray, List.set_cons_zero, List.set_cons_succ]; rfl
   refine qfH (i := 9) (N := none) (rA_ [10]) rfl rfl (qc4 HT_.out (by kernel_rfl)) (by decide) (fun K hK => ?_); obtain ⟨hs30, hfs30⟩ := qcx qfC.out; have hns30_0 := qdx.out; have hms30_0 := qdT.out; have hs31 := qbC qfC.out; have hfs31 := qad qfC.out 1; have hns31_0 := qdx.out; have hms31_0 := qdT.out; refine skip_ (w1 := ?_) (by rfl) rfl ?_ ?_; rotate_left
   ·go_simp; rfl
   refine hK.out _ _ ⟨((cell_far (p := ⟨qen, _, none⟩) k17_ _).trans (((cell_far (p := ⟨qen, _, none⟩) k17_ _).trans (hHeld.1)))), ((cell_far (p := ⟨qen, _, none⟩) k17_ _).trans (((cell_far (p := ⟨qen, _, none⟩) k17_ _).trans (hHeld.2))))⟩ (fun hHeld => ?_); clear hK K; refine qgu (qeC HT_.out (by kernel_rfl)) ?_; have hnb32 := qdT.out; have hnc32 := qdx.out; obtain ⟨hcz33_0, hcz33_1, hfz33_0, hfz33_1⟩ := qbG qfC.out
   try go_wp2_with (first | (refine gl_ 26 Tryz.func174 #[.agg #[.string (qeJ ByteArray.empty qaR 0), .int .i64 t107]] rfl qbK ?_; (with_reducible refine (qdt.calls kj2 (qeJ ByteArray.empty qaR 0) t107 false _ A13.out).mono ?_); rintro e w34 ⟨rfl, hb⟩; refine ⟨_, rfl, ?_⟩; replace qdk := ak_ (Kd.qbv k9_ hb); replace qaG := ak_ (qar (g := qb6) (o := .cells #[.string (⟨#[]⟩ : ByteArray), .int .i64 0] 99 (0, 0)) k10_ hb); replace qfC := ak_ (qar (g := qen) (o := .cells #[.string (qeJ ByteArray.empty qaR 0), .int .i64 t107] 99 (0, 0)) k0_ hb); replace HB := ak_ (qaa k67_ hb); (try clear hb); obtain ⟨hcz35_0, hcz35_1, hfz35_0, hfz35_1⟩ := qbG qaG.out))
   refine bodyPost_ret (qf2 rfl _ _ qb6 99 #[.string (⟨#[]⟩ : ByteArray), .int .i64 0] (0, 0) _ rfl k1_ Tryz.underlying99 rfl (by kernel_rfl)) rfl ?_; exact ⟨qcf, k67_⟩
def qcI.l0 : Nat → ByteArray → Int → Int → Nat → Option Bool
  | 0, _, _, _, _ => none
  | k + 1, s, e, t, pos => if pos < s.size then (if bt s pos < 128 then (if bt s pos = 111 then ((qcy.f (wrap64 ((pos : Int) + 1)) e).bind fun q => (if q = t then some false else qcI.l0 k s e t (pos + 1))) else qcI.l0 k s e t (pos + 1)) else none) else some true
def qcI.f (k : Nat) (a0 : ByteArray) (qrs : Int) (qqs : Int) : Option (Bool) := qcI.l0 k a0 qrs qqs 0
theorem qpE (s : ByteArray) (pos : Nat) (h : pos < s.size) : ((s[pos]'h).toNat : Int) = bt s pos := by
  exact qel s (pos : Int) h
theorem qcI.calls (k : Nat) (a0 : ByteArray) (qrs : Int) (qqs : Int) (r : Bool) (w : World) (h : qcI.f k a0 qrs qqs = some r) :
    Calls Tryz.prog 247 #[.string a0, .agg #[.int .i64 qrs, .int .i64 qqs]] w fun e w' => e = .returned (.bool r) ∧ Below w.heap.size w w' := by
  have hu := Tryz.underlying85; have H : qcI.l0 k a0 qrs qqs 0 = some r := h; clear h; have H' := ak_ H; clear H; go_enter Tryz.func247, Tryz.ntmps247; go_wp2
  go_loopg [] k (fun kq wx => ∃ pos : Nat, wx.heap[w.heap.size + 1]? = some (.stringIter a0 pos) ∧ qag (Below w.heap.size w wx) ∧ wx.cell? ⟨w.heap.size, 0, none⟩ = some (.int .i64 qrs) ∧ wx.cell? ⟨w.heap.size, 1, none⟩ = some (.int .i64 qqs) ∧ qag (qcI.l0 kq a0 qrs qqs pos = some r) ∧ qag (kq ≤ k))
  case atStart =>
    have hb_ : Below (w.heap.size + 1) (w.alloc (Obj.cells #[Value.int IntKind.i64 qrs, Value.int IntKind.i64 qqs] 85)) ((w.alloc (Obj.cells #[Value.int IntKind.i64 qrs, Value.int IntKind.i64 qqs] 85)).iter a0 0) := (Below.refl _ _).alloc (by simp) _; exact ⟨0, by have h_ := World.iter_heap (w.alloc (Obj.cells #[Value.int IntKind.i64 qrs, Value.int IntKind.i64 qqs] 85)) a0 0; simpa using h_, ⟨((Below.refl _ w).alloc (Nat.le_refl _) _).alloc (by simp) _⟩, (hb_.cell (p := ⟨w.heap.size, 0, none⟩) (by simp)).trans (by simp), (hb_.cell (p := ⟨w.heap.size, 1, none⟩) (by simp)).trans (by simp), H', ⟨Nat.le_refl _⟩⟩
  case round =>
    clear H'; obtain ⟨pos, hit, HB, hc0, hc1, HA, HK⟩ := hrel
    cases gk with
    | zero => exact absurd HA.out (by simp [qcI.l0])
    | succ k1 =>
      have H := HA.out; clear HA; simp only [qcI.l0] at H; by_cases hps : pos < a0.size; rotate_left
      ·rw [if_neg hps] at H
       have hnx : ∀ ty, (Instr.next (.pointer (some ⟨w.heap.size + 1, 0, none⟩)) true ty).run Tryz.prog wr = _ := fun ty => Lib.run_next_end_at wr (w.heap.size + 1) a0 pos ty hit hps
       obtain rfl := sj_ H; go_wp2
       go_ret
       exact ⟨rfl, HB.out⟩
      rw [if_pos hps] at H; by_cases ha : bt a0 pos < 128; rotate_left
      ·rw [if_neg ha] at H; exact absurd H (by simp)
      rw [if_pos ha] at H
      have hnx : ∀ ty, (Instr.next (.pointer (some ⟨w.heap.size + 1, 0, none⟩)) true ty).run Tryz.prog wr = _ := fun ty => Lib.run_next_ascii_at wr (w.heap.size + 1) a0 pos ty hit hps (by have := qpE a0 pos hps; omega)
      have hit2 := Lib.iterAt_heap wr (w.heap.size + 1) a0 pos (pos + 1) hit; have hbw2 := Lib.below_iterAt HB.out (k := w.heap.size + 1) (by omega) a0 (pos + 1); have hb3 := Lib.below_iterAt (Below.refl (w.heap.size + 1) wr) (k := w.heap.size + 1) (by omega) a0 (pos + 1); have hd0 := (hb3.cell (p := ⟨w.heap.size, 0, none⟩) (by simp)).trans hc0; have hd1 := (hb3.cell (p := ⟨w.heap.size, 1, none⟩) (by simp)).trans hc1
      obtain ⟨W, hWd⟩ : ∃ W, wr.iterAt (w.heap.size + 1) a0 (pos + 1) = W := ⟨_, rfl⟩
      rw [hWd] at hnx hit2 hbw2 hd0 hd1; clear hb3 hc0 hc1 hit hWd HB ha; have HB := ak_ hbw2; have HI := ak_ hit2; clear hbw2 hit2; have hx6 := qpE a0 pos; have p6 := eq_true (show 0 ≤ ((pos : Nat) : Int) by omega); have q6 := eq_true (show ((pos : Nat) : Int) < (a0.size : Int) by omega)
      try clear c4
      by_cases c11 : (bt a0 pos) = 111; rotate_left
      ·rw [if_neg c11] at H; have qfQ : ((bt a0 pos) == 111) = false := beq_eq_false_iff_ne.mpr c11; have qgT : ((bt a0 pos) != 111) = true := bne_iff_ne.mpr c11; have H' := ak_ H; clear H; go_wp2
       go_quiet (fail)
       go_wp2
       go_roundg k1
       case measure => have := HK.out; omega
       case rel => exact ⟨pos + 1, by simpa using HI.out, ⟨qaf HB.out _⟩, by simpa using hd0, by simpa using hd1, H', ⟨by have := HK.out; omega⟩⟩
      rw [if_pos c11] at H; have qfQ : ((bt a0 pos) == 111) = true := beq_iff_eq.mpr c11; have qgT : ((bt a0 pos) != 111) = false := bne_eq_false_iff_eq.mpr c11; clear c11; replace H := Option.bind_eq_some_iff.mp H; obtain ⟨q, A20, H⟩ := H; have HM := ak_ (fun W => qcy.calls (wrap64 ((pos : Int) + 1)) qrs q W A20); clear A20; by_cases c12 : q = qqs
      ·rw [if_pos c12] at H; have qhg : (q == qqs) = true := beq_iff_eq.mpr c12; obtain rfl := sj_ H; clear H c12; go_wp2
       go_quiet ((go_at_call 154; exact Calls.quiet_of ((HM.out _).mono (fun e w' h => ⟨h.1, h.2.out⟩))))
       go_wp2
       go_ret
       exact ⟨rfl, qaf HB.out _⟩
      rw [if_neg c12] at H; have qhg : (q == qqs) = false := beq_eq_false_iff_ne.mpr c12; have H' := ak_ H; clear H c12; go_wp2
      go_quiet ((go_at_call 154; exact Calls.quiet_of ((HM.out _).mono (fun e w' h => ⟨h.1, h.2.out⟩))))
      go_wp2
      go_roundg k1
      case measure => have := HK.out; omega
      case rel => exact ⟨pos + 1, by simpa using HI.out, ⟨qaf HB.out _⟩, by simpa using hd0, by simpa using hd1, H', ⟨by have := HK.out; omega⟩⟩
def qcb.l0 : Nat → ByteArray → List qac → Nat → Option Bool
  | 0, _, _, _ => none
  | k + 1, s, l, pos => if pos < s.size then (if bt s pos < 128 then (if bt s pos = 120 then ((qcd.f k l (wrap64 ((pos : Int) + 1))).bind fun q => (if q = true then some false else qcb.l0 k s l (pos + 1))) else qcb.l0 k s l (pos + 1)) else none) else some true
def qcb.f (k : Nat) (a0 : ByteArray) (l1 : List (qac)) : Option (Bool) := qcb.l0 k a0 l1 0
theorem qcb.calls (k : Nat) (a0 : ByteArray) (A1 : Option Addr) (c1 : Nat) (l1 : List (qac)) (r : Bool) (w : World) (hr1 : Kd.C qaL w A1 l1.length l1) (hc1 : l1.length ≤ c1) (h : qcb.f k a0 l1 = some r) :
    Calls Tryz.prog 246 #[.string a0, .slice A1 l1.length c1] w fun e w' => e = .returned (.bool r) ∧ Below w.heap.size w w' := by
  have HR := ak_ hr1; have HC := ak_ hc1; clear hr1 hc1; have H : qcb.l0 k a0 l1 0 = some r := h; clear h; have H' := ak_ H; clear H; go_enter Tryz.func246, Tryz.ntmps246; go_wp2
  go_loopg [] k (fun kq wx => ∃ pos : Nat, wx.heap[w.heap.size]? = some (.stringIter a0 pos) ∧ qag (Below w.heap.size w wx) ∧ qag (qcb.l0 kq a0 l1 pos = some r) ∧ qag (kq ≤ k))
  case atStart => exact ⟨0, World.iter_heap w a0 0, ⟨(Below.refl _ w).alloc (Nat.le_refl _) _⟩, H', ⟨Nat.le_refl _⟩⟩
  case round =>
    clear H'; obtain ⟨pos, hit, HB, HA, HK⟩ := hrel
    cases gk with
    | zero => exact absurd HA.out (by simp [qcb.l0])
    | succ k1 =>
      have H := HA.out; clear HA; simp only [qcb.l0] at H; by_cases hps : pos < a0.size; rotate_left
      ·rw [if_neg hps] at H
       have hnx : ∀ ty, (Instr.next (.pointer (some ⟨w.heap.size, 0, none⟩)) true ty).run Tryz.prog wr = _ := fun ty => Lib.run_next_end_at wr w.heap.size a0 pos ty hit hps
       obtain rfl := sj_ H; go_wp2
       go_ret
       exact ⟨rfl, HB.out⟩
      rw [if_pos hps] at H; by_cases ha : bt a0 pos < 128; rotate_left
      ·rw [if_neg ha] at H; exact absurd H (by simp)
      rw [if_pos ha] at H
      have hnx : ∀ ty, (Instr.next (.pointer (some ⟨w.heap.size, 0, none⟩)) true ty).run Tryz.prog wr = _ := fun ty => Lib.run_next_ascii_at wr w.heap.size a0 pos ty hit hps (by have := qpE a0 pos hps; omega)
      have hit2 := Lib.iterAt_heap wr w.heap.size a0 pos (pos + 1) hit; have hbw2 := Lib.below_iterAt HB.out (k := w.heap.size) (Nat.le_refl _) a0 (pos + 1)
      obtain ⟨W, hWd⟩ : ∃ W, wr.iterAt w.heap.size a0 (pos + 1) = W := ⟨_, rfl⟩
      rw [hWd] at hnx hit2 hbw2; have hltW : w.heap.size < W.heap.size := (Array.getElem?_eq_some_iff.1 hit2).1; clear hit hWd HB ha; have HB := ak_ hbw2; have HI := ak_ hit2; clear hbw2 hit2; have hx6 := qpE a0 pos; have p6 := eq_true (show 0 ≤ ((pos : Nat) : Int) by omega); have q6 := eq_true (show ((pos : Nat) : Int) < (a0.size : Int) by omega); by_cases c11 : (bt a0 pos) = 120; rotate_left
      ·rw [if_neg c11] at H; have qfQ : ((bt a0 pos) == 120) = false := beq_eq_false_iff_ne.mpr c11; have qgT : ((bt a0 pos) != 120) = true := bne_iff_ne.mpr c11; have H' := ak_ H; clear H; go_wp2
       go_roundg k1
       case measure => have := HK.out; omega
       case rel => exact ⟨pos + 1, HI.out, HB, H', ⟨by have := HK.out; omega⟩⟩
      rw [if_pos c11] at H; have qfQ : ((bt a0 pos) == 120) = true := beq_iff_eq.mpr c11; have qgT : ((bt a0 pos) != 120) = false := bne_eq_false_iff_eq.mpr c11; clear c11; replace H := Option.bind_eq_some_iff.mp H; obtain ⟨q, A20, H⟩ := H; have HM := ak_ (qcd.calls k1 A1 c1 l1 (wrap64 ((pos : Int) + 1)) q W (Kd.qeg HR.out HB.out) HC.out A20); clear A20
      cases q with
      | true =>
        rw [if_pos rfl] at H; obtain rfl := sj_ H; clear H
        go_wp2_with (go_at_call 173; refine HM.out.mono ?_; rintro e W' ⟨rfl, hbc⟩)
        go_ret
        exact ⟨rfl, HB.out.trans (hbc.mono HB.out.size)⟩
      | false =>
        rw [if_neg (by decide)] at H; have H' := ak_ H; clear H
        go_wp2_with (go_at_call 173; refine HM.out.mono ?_; rintro e W' ⟨rfl, hbc⟩)
        go_roundg k1
        case measure => have := HK.out; omega
        case rel => exact ⟨pos + 1, (hbc.block _ hltW).trans HI.out, ⟨HB.out.trans (hbc.mono HB.out.size)⟩, H', ⟨by have := HK.out; omega⟩⟩
mutual
def qbX.f : Nat → ByteArray → List qac → List qac → Int → List (List qac) → Option (List (List qac))
  | 0, _, _, _, _, _ => none
  | k + 1, p, fit, rules, left, out => if left = 0 then ((qcb.f k p rules).bind fun t => if t = true then (if out.length < 5864062014805 then (if rules.length < 8796093022207 then some (out ++ [rules]) else none) else none) else some out) else qbX.l0 k p fit rules left out 0
def qbX.l0 : Nat → ByteArray → List qac → List qac → Int → List (List qac) → Nat → Option (List (List qac))
  | 0, _, _, _, _, _, _ => none
  | k + 1, p, fit, rules, left, out, i => if i < fit.length then (if 300 < out.length then some out else (if rules.length < 8796093022207 then ((qbX.f k p (fit.drop (i + 1)) (rules ++ [qae fit i]) (wrap64 (left - 1)) out).bind fun o => qbX.l0 k p fit rules left o (i + 1)) else none)) else some out
end
theorem qqJ : (Tryz.prog.info? 26).map (fun i => (i.zero, i.size, i.bytes)) = some (some (.slice none 0 0), 1, 24) := by kernel_rfl
theorem qbX.own (k : Nat) : ∀ (p : ByteArray) (fit rules : List qac) (left : Int) (out r : List (List qac)) (A1 : Option Addr) (c1 : Nat) (A2 : Option Addr) (c2 : Nat) (vo : Value) (w0 w : World)
    (_ : ∀ W', w.grownBy W' vo.ownBlock → Kd.C qaL W' A1 fit.length fit) (_ : fit.length ≤ c1) (_ : ∀ W', w.grownBy W' vo.ownBlock → Kd.C qaL W' A2 rules.length rules) (_ : rules.length ≤ c2)
    (_ : Kd.S (Kd.slice 85 qaL) 26 w w0.heap.size (fun _ => True) vo out) (_ : Below w0.heap.size w0 w) (_ : qbX.f k p fit rules left out = some r),
    Calls Tryz.prog 213 #[.string p, .slice A1 fit.length c1, .slice A2 rules.length c2, .int .i64 left, vo] w fun e w' => ∃ v1, e = .returned v1 ∧ qeF w0 w vo v1 r w' := by
  induction k using Nat.strongRecOn with
  | ind k ih =>
  intro p fit rules left out r A1 c1 A2 c2 vo w0 w h1 hc1 h2 hc2 hS hB h; have IH := ak_ ih; have H1 := ak_ h1; have HC1 := ak_ hc1; have H2 := ak_ h2; have HC2 := ak_ hc2; have HP := ak_ (qeF.refl hS hB); have HB := ak_ hB; have HS0 := ak_ (Kd.qgo (Kd.ql4 hS) (fun _ hk => hk.2.2.1)); have HVO := ak_ (Kd.S_lt hS); obtain ⟨Ao, co, eo⟩ := Kd.qdL hS; subst eo; clear ih h1 hc1 h2 hc2 hS hB
  cases k with
  | zero => exact absurd h (by simp [qbX.f])
  | succ k =>
    simp only [qbX.f] at h; by_cases c1_ : left = 0
    ·rw [if_pos c1_] at h; have c1b : (left == 0) = true := beq_iff_eq.mpr c1_; clear c1_; replace h := Option.bind_eq_some_iff.mp h; obtain ⟨t, A0_, h⟩ := h; have A_ := ak_ A0_; clear A0_
     cases t with
     | true =>
       rw [if_pos rfl] at h; by_cases c2_ : out.length < 5864062014805; rotate_left
       ·rw [if_neg c2_] at h; exact absurd h (by simp)
       rw [if_pos c2_] at h; have HLO := ak_ c2_; clear c2_; by_cases c3_ : rules.length < 8796093022207; rotate_left
       ·rw [if_neg c3_] at h; exact absurd h (by simp)
       rw [if_pos c3_] at h; have HLB := ak_ c3_; clear c3_; have HR := ak_ (Option.some.inj h); clear h; go_enter Tryz.func213, Tryz.ntmps213
       go_wp2_with (first | (refine gl_ 17 Tryz.func246 #[.string p, .slice A2 rules.length c2] rfl qbZ ?_; (with_reducible refine (qcb.calls k p _ _ rules true _ ?qaA ?qaB A_.out).mono ?_); (case qaA => exact H2.out _ (qd6 (Below.refl _ _) _)); (case qaB => exact HC2.out); rintro e w1 ⟨rfl, hb⟩; refine ⟨_, rfl, ?_⟩; have HB1 := ak_ hb; have HS1 := ak_ (H2.out _ (qd6 hb _)); clear hb) | ((with_reducible refine qal (N := 19) rfl ?_); refine Kd.qhq qaL _ 85 ?hg (N := 19) ?hd (xs := ([] : List qac)) (inner := []) (ok := fun _ => True) (okp := fun _ => True) ?hr ?hp (fun _ hk => hk) trivial (Below.refl _ _) (Nat.le_refl _) (by simp) ?_; (case hd => rfl); (case hg => rfl); (case hr => exact qbe); (case hp => exact qef.none _ _); intro v19 w2 ho hb hg_ hnew_; clear hg_ hnew_; have HL0 := ak_ ho; have HB2 := ak_ hb; clear ho hb) | ((with_reducible refine qa2 (b := .append) (xs := #[.tmp 19, .tmp 20]) rfl ?_); at_builtin; refine Kd.qdK qaL (w0 := w1) w1.heap.size rfl (.tmp 19) (.tmp 20) 26 85 (.agg #[(.int .i64 0), (.int .i64 0)]) 16 rfl Tryz.underlying26 qcY rfl (by decide) (by omega) v19 ([] : List qac) rules _ _ _ (fun _ => True) (fun _ => False) rfl rfl ?aO ?aR (fun _ _ h => h) (fun _ h => h.elim) (fun _ _ => trivial) ?aB ?aS ?aL ?_; (case aO => exact HL0.out); (case aR => exact Kd.qeg HS1.out HB2.out); (case aB => exact HB2.out); (case aS => exact qab HB2.out); (case aL => have h_ := HLB.out; simp only [List.length_nil]; omega); intro v21 w3 ho hb hg_ hat_; clear hg_ hat_; simp only [List.nil_append] at ho; have HL := ak_ ho; have HB3 := ak_ hb; clear HL0 HB2 ho hb; obtain ⟨A21, c21, e21⟩ := Kd.qaI HL.out; subst e21) | ((with_reducible refine qa2 (b := .append) (xs := #[.tmp 18, .tmp 22]) rfl ?_); at_builtin; refine Kd.qjJ (Kd.slice 85 qaL) (w0 := w0) w0.heap.size rfl (.tmp 18) (.tmp 22) 145 26 (.slice none 0 0) 24 rfl Tryz.underlying145 qqJ rfl (by decide) (by omega) (.slice Ao out.length co) out rules [.slice A21 rules.length c21] (fun _ => True) (fun k_ => some k_ = (.slice A21 rules.length c21 : Value).ownBlock) rfl rfl ?aP ?aK (fun _ _ => trivial) ?aO ?aB ?aS ?aL ?_; (case aP => exact Kd.M_row (Kd.qh8 rfl (Kd.qax HL.out (Nat.le_trans HB.out.size HB1.out.size)))); (case aK => exact (fun k_ hk => ⟨trivial, fun e_ => by have h1_ := Kd.qfj HL.out k_ hk.symm; have h2_ := HVO.out k_ e_.symm; have h3_ := HB1.out.size; omega⟩)); (case aO => exact Kd.qgo (Kd.qgR HS0.out (qaa HB1.out HB3.out)) (fun k_ hk => ⟨trivial, fun e_ => by have h1_ := Kd.qfj HL.out k_ e_.symm; have h3_ := HB1.out.size; omega⟩)); (case aB => exact qaa (qaa HB.out HB1.out) HB3.out); (case aS => exact qab (qaa (qaa HB.out HB1.out) HB3.out)); (case aL => have h_ := HLO.out; omega); intro v1 w4 ho hb hg hat; have HFIN := ak_ (show qeF w0 w (.slice Ao out.length co) v1 (out ++ [rules]) w4 from ⟨ho, hb, qm0 (qaa HB1.out HB3.out) hg, hat.imp id (fun ⟨b_, e_, hb_⟩ => ⟨b_, e_, Nat.le_trans (qaa HB1.out HB3.out).size hb_⟩)⟩); clear ho hb hg hat))
       go_ret
       exact ⟨_, rfl, by rw [← HR.out]; exact HFIN.out⟩
     | false =>
       rw [if_neg (by decide)] at h; have HR := ak_ (Option.some.inj h); clear h; go_enter Tryz.func213, Tryz.ntmps213
       go_wp2_with ((refine gl_ 17 Tryz.func246 #[.string p, .slice A2 rules.length c2] rfl qbZ ?_; (with_reducible refine (qcb.calls k p _ _ rules false _ ?qaA ?qaB A_.out).mono ?_); (case qaA => exact H2.out _ (qd6 (Below.refl _ _) _)); (case qaB => exact HC2.out); rintro e w1 ⟨rfl, hb⟩; refine ⟨_, rfl, ?_⟩; have HP1 := ak_ (qeF.below HP.out hb); clear HP hb))
       go_ret
       exact ⟨_, rfl, by rw [← HR.out]; exact HP1.out⟩
    rw [if_neg c1_] at h; have c1b : (left == 0) = false := beq_eq_false_iff_ne.mpr c1_; clear c1_; have H' := ak_ h; clear h; go_enter Tryz.func213, Tryz.ntmps213; go_wp2
    go_loopg [4, 27] k (fun kq v4 v27 wx => ∃ (o : List (List qac)) (i : Nat), v27 = .int .i64 i ∧ qag (qbX.l0 kq p fit rules left o i = some r) ∧ qag (kq ≤ k) ∧ qag (qeF w0 w (.slice Ao out.length co) v4 o wx))
    case atStart => exact ⟨out, 0, rfl, H', ⟨Nat.le_refl _⟩, HP⟩
    case round =>
      clear H' HP; obtain ⟨o, i, rfl, HA_, HK, HPS⟩ := hrel
      cases gk with
      | zero => exact absurd HA_.out (by simp [qbX.l0])
      | succ k1 =>
        have H := HA_.out; clear HA_; simp only [qbX.l0] at H; by_cases c1_ : i < fit.length; rotate_left
        ·rw [if_neg c1_] at H; have c1b : decide ((i : Int) < (fit.length : Int)) = false := decide_eq_false (by omega); have c1c := decide_eq_false c1_; clear c1_; have HR := ak_ (sj_ H); clear H; go_wp2
         go_ret
         exact ⟨_, rfl, by rw [← HR.out]; exact HPS.out⟩
        rw [if_pos c1_] at H; have c1b : decide ((i : Int) < (fit.length : Int)) = true := decide_eq_true (by omega); have c1c := decide_eq_true c1_; obtain ⟨ad, e_, hx0, hx1⟩ := qdW (H1.out _ HPS.out.2.2.1) (i : Int) (by omega) (by omega)
        cases e_
        simp only [Int.toNat_natCast] at hx0 hx1
        have c1z : (i : Int) < (fit.length : Int) := by omega
        by_cases c2_ : 300 < o.length
        ·rw [if_pos c2_] at H; have c2b : decide ((300 : Int) < (o.length : Int)) = true := decide_eq_true (by omega); have c2c := decide_eq_true c2_; clear c2_; have HR := ak_ (sj_ H); clear H; obtain ⟨Aq, cq, eq_⟩ := Kd.qdL HPS.out.1; subst eq_
         go_wp2_with ((with_reducible refine qal (N := 12) rfl ?_); refine bx_ 12 rfl (cs := #[.int .i64 0, .int .i64 0]) (t := 85) qbe ?_; intro g12 hg w20 hbox hb; have BK := ak_ hbox; have HBx0 := ak_ hb; have HG := ak_ (Nat.le_of_eq hg.symm); have hcz0 : w20.cell? ⟨g12, 0, none⟩ = some (.int .i64 0) := (qba hbox 0).trans rfl; have hcz1 : w20.cell? ⟨g12, 1, none⟩ = some (.int .i64 0) := (qba hbox 1).trans rfl; have hfz0 := qad hbox 0; have hfz1 := qad hbox 1; clear hbox hb hg)
         go_ret
         exact ⟨_, rfl, by rw [← HR.out]; exact qeF.below HPS.out (qas (qas HBx0.out HG.out) HG.out)⟩
        rw [if_neg c2_] at H; have c2b : decide ((300 : Int) < (o.length : Int)) = false := decide_eq_false (by omega); have c2c := decide_eq_false c2_; clear c2_; obtain ⟨c3_, H⟩ := qck H; have HLB := ak_ c3_; clear c3_; replace H := Option.bind_eq_some_iff.mp H; obtain ⟨o2, A0_, H⟩ := H
        obtain ⟨fd, hfd⟩ : ∃ l_, l_ = fit.drop (i + 1) := ⟨_, rfl⟩
        rw [← hfd] at A0_; have A_ := ak_ A0_; have H' := ak_ H; clear A0_ H; have HV := ak_ (Kd.S_lt HPS.out.1); obtain ⟨Aq, cq, eq_⟩ := Kd.qdL HPS.out.1; subst eq_; have hfl : fit.length ≤ 9223372036854775807 := Kd.C_max (H1.out _ HPS.out.2.2.1); have hil : (i : Int) < (fit.length : Int) := of_decide_eq_true c1b
        have hw_ : (wrap64 ((i : Int) + 1)).toNat = i + 1 := by unfold wrap64; omega
        have hw0_ : 0 ≤ wrap64 ((i : Int) + 1) := by unfold wrap64; omega
        have hw1_ : wrap64 ((i : Int) + 1) ≤ (fit.length : Int) := by unfold wrap64; omega
        obtain ⟨A39, hA39⟩ : ∃ a_, a_ = (if c1 = i + 1 then some ad else (some ad : Option Addr).map (·.add ((i + 1) * 2))) := ⟨_, rfl⟩
        obtain ⟨c39, hc39⟩ : ∃ a_, a_ = c1 - (i + 1) := ⟨_, rfl⟩
        obtain ⟨i0_, qn0, _, hsz_, _⟩ := info_parts qcY
        have hcut : ∀ W : World, (Instr.slice 26 (.slice (some ad) fit.length c1) (some (.int .i64 (wrap64 ((i : Int) + 1)))) none none).run Tryz.prog W = .ok (.slice A39 fd.length c39) W := by
          intro W; have h := qjM (P := Tryz.prog) 26 85 .i64 Tryz.underlying26 qn0 2 hsz_ (some ad) fit.length c1 (wrap64 ((i : Int) + 1)) hw0_ hw1_ W; rw [hw_] at h; rw [h, hA39, hc39, hfd, List.length_drop]
        have HF2 := ak_ (show ∀ W' : World, Kd.C qaL W' (some ad) fit.length fit → Kd.C qaL W' A39 fd.length fd from fun W' h_ => by rw [hA39, hfd]; exact Kd.C_drop h_ (by omega) HC1.out); have HC39 := ak_ (show fd.length ≤ c39 by rw [hc39, hfd, List.length_drop]; have := HC1.out; omega); clear hw_ hw0_ hw1_ hA39 hc39 qn0 hsz_ hfd
        go_wp2_with ((with_reducible refine qal (N := 12) rfl ?_); refine bx_ 12 rfl (cs := #[.int .i64 0, .int .i64 0]) (t := 85) qbe ?_; intro g12 hg w20 hbox hb; have BK := ak_ hbox; have HBx0 := ak_ hb; have HG := ak_ (Nat.le_of_eq hg.symm); have hcz0 : w20.cell? ⟨g12, 0, none⟩ = some (.int .i64 0) := (qba hbox 0).trans rfl; have hcz1 : w20.cell? ⟨g12, 1, none⟩ = some (.int .i64 0) := (qba hbox 1).trans rfl; have hfz0 := qad hbox 0; have hfz1 := qad hbox 1; clear hbox hb hg)
        have hk7_ := qbl (qbl BK.out 0 (.int .i64 (qae fit i).f0) rfl) 1 (.int .i64 (qae fit i).f1) rfl; have HX0 := ak_ (show (((w20.setCell ⟨g12, 0, none⟩ (.int .i64 (qae fit i).f0)).setCell ⟨g12, 1, none⟩ (.int .i64 (qae fit i).f1)).drew).cell? ⟨g12, 0, none⟩ = some (.int .i64 (qae fit i).f0) from (qba (qam hk7_) 0).trans rfl); have HX1 := ak_ (show (((w20.setCell ⟨g12, 0, none⟩ (.int .i64 (qae fit i).f0)).setCell ⟨g12, 1, none⟩ (.int .i64 (qae fit i).f1)).drew).cell? ⟨g12, 1, none⟩ = some (.int .i64 (qae fit i).f1) from (qba (qam hk7_) 1).trans rfl); have HBx := ak_ (show Below wr.heap.size wr ((w20.setCell ⟨g12, 0, none⟩ (.int .i64 (qae fit i).f0)).setCell ⟨g12, 1, none⟩ (.int .i64 (qae fit i).f1)).drew from qah (qas (qas HBx0.out HG.out) HG.out)); clear hk7_ hcz0 hcz1 hfz0 hfz1 BK HBx0 HG; refine qe6 (n := 16) (S := fun w' => w'.cell? ⟨g12, 0, none⟩ = some (.int .i64 (qae fit i).f0) ∧ w'.cell? ⟨g12, 1, none⟩ = some (.int .i64 (qae fit i).f1)) (ds := [14]) #[false, false, false, false, false, false, false, false, false, false, false, false, false, false, false, false] (by kernel_rfl) rfl rfl ⟨HX0.out, HX1.out⟩ (fun hHeld => ?_)
        generalize ((w20.setCell ⟨g12, 0, none⟩ (.int .i64 (qae fit i).f0)).setCell ⟨g12, 1, none⟩ (.int .i64 (qae fit i).f1)).drew = wS at HX0 HX1 HBx hHeld ⊢
        have HBc := br_ wS; refine qgy (i := 0) (N := some 35) (v := ?_) (a' := ?_) #[true, false, false, false, false, false, false, false, false, false, false, false, false, false, false, false] rfl rfl (by kernel_rfl) (fun _ _ _ h => h) (Or.inl ⟨by rfl, ?_⟩) ?_ ?_; rotate_left; intro w'; go_simp; with_reducible rfl
        rotate_left; exact qmq
        refine qgy (i := 1) (N := some 36) (v := ?_) (a' := ?_) #[true, true, false, false, false, false, false, false, false, false, false, false, false, false, false, false] rfl rfl (by kernel_rfl) (fun _ _ _ h => h) (Or.inl ⟨by rfl, ?_⟩) ?_ ?_; rotate_left; intro w'; go_simp; with_reducible rfl
        rotate_left; exact qmq
        refine qgy (i := 2) (N := some 37) (v := ?_) (a' := ?_) #[true, true, true, false, false, false, false, false, false, false, false, false, false, false, false, false] rfl rfl (by kernel_rfl) (fun _ _ _ h => h) (Or.inl ⟨by rfl, ?_⟩) ?_ ?_; rotate_left; intro w'; go_simp; with_reducible rfl
        rotate_left; exact qmq
        refine qgy (i := 3) (N := some 38) (v := ?_) (a' := ?_) #[true, true, true, true, false, false, false, false, false, false, false, false, false, false, false, false] rfl rfl (by kernel_rfl) (fun _ _ _ h => h) (Or.inl ⟨by rfl, ?_⟩) ?_ ?_; rotate_left; intro w'; go_simp; with_reducible rfl
        rotate_left; exact qmq
        refine qgy (i := 4) (N := some 39) (v := ?_) (a' := ?_) #[true, true, true, true, true, false, false, false, false, false, false, false, false, false, false, false] rfl rfl (by kernel_rfl) (fun _ _ _ h => h) (Or.inl ⟨by rfl, ?_⟩) ?_ ?_; rotate_left; intro w'; go_simp; with_reducible rfl
        rotate_left; exact qmq
        refine qgy (i := 6) (N := some 41) (v := ?_) (a' := ?_) #[true, true, true, true, true, false, true, false, false, false, false, false, false, false, false, false] rfl rfl (by kernel_rfl) (fun _ _ _ h => h) (Or.inl ⟨by rfl, ?_⟩) ?_ ?_; rotate_left; intro w'; go_simp; with_reducible rfl
        rotate_left; exact qmq
        refine qgy (i := 11) (N := some 46) (v := ?_) (a' := ?_) #[true, true, true, true, true, false, true, false, false, false, false, true, false, false, false, false] rfl rfl (by kernel_rfl) (fun _ _ _ h => h) (Or.inl ⟨by rfl, ?_⟩) ?_ ?_; rotate_left; intro w'; go_simp; with_reducible rfl
        rotate_left; exact qmq
        refine qgy (i := 12) (N := some 47) (v := ?_) (a' := ?_) #[true, true, true, true, true, false, true, false, false, false, false, true, true, false, false, false] rfl rfl (by kernel_rfl) (fun _ _ _ h => h) (Or.inl ⟨by rfl, ?_⟩) ?_ ?_; rotate_left; intro w'; go_simp; with_reducible rfl
        rotate_left; exact qmq
        refine qgy (i := 13) (N := some 48) (v := ?_) (a' := ?_) #[true, true, true, true, true, false, true, false, false, false, false, true, true, true, false, false] rfl rfl (by kernel_rfl) (fun _ _ _ h => h) (Or.inl ⟨by rfl, ?_⟩) ?_ ?_; rotate_left; intro w'; go_simp; with_reducible rfl
        rotate_left; exact qmq
        refine qmD (i := 8) (N := some 43) (v := ?_) (a' := ?_) #[true, true, true, true, true, false, true, false, true, false, false, true, true, true, false, false] rfl rfl (by kernel_rfl) (fun _ _ _ h => h) (Or.inl ⟨by rfl, ?_⟩) hHeld ?_ ?_; rotate_left; rintro w' ⟨s0, s1⟩; go_simp; with_reducible rfl
        rotate_left; exact qmq
        refine qsJ (σ := Value × Value × Value) 3 #[true, true, true, true, true, true, true, true, true, true, false, true, true, true, false, false] (fun s_ => [(40, s_.1), (42, s_.2.1), (44, s_.2.2)]) (fun s_ w' => Kd.R qaL 85 w' wS.heap.size (fun _ => True) s_.2.1 rules ∧ Kd.R qaL 85 w' wS.heap.size (fun _ => True) s_.2.2 [qae fit i] ∧ Below wS.heap.size wS w') ?_ ?_; rotate_left
        · intro hCont
          refine two_ (i := 5) (j := 9) (Ni := some 40) (Nj := some 44) #[true, true, true, true, true, true, true, false, true, false, false, true, true, true, false, false] #[true, true, true, true, true, false, true, false, true, true, false, true, true, true, false, false] rfl rfl rfl rfl (by kernel_rfl) (by decide) (by decide) (fun K hK => ?_) (fun K hK => ?_)
          ·skip
           refine Kd.qdS qaL _ 85 ?hg (N := 40) ?hd (xs := ([] : List qac)) (inner := []) (ok := fun _ => True) (okp := fun _ => True) ?hr ?hp (fun _ hk => hk) trivial (Below.refl _ _) (Nat.le_refl _) (by simp) ?_
           (case hd => rfl)
           (case hg => rfl)
           (case hr => exact qbe)
           (case hp => exact qef.none _ _)
           intro v40 w5_0 ho hb hg_ hnew_; clear hg_ hnew_; have HL0 := ak_ (Kd.qax ho (qab HBc.out)); clear ho; have n9_ := ak_ (qaa HBc.out hb); clear HBc hb; have HBc := n9_; clear n9_; refine hK.out _ _ ⟨(qau HBc.out HX0.out), (qau HBc.out HX1.out)⟩ (fun hHeld => ?_); clear hK K; refine qep (a' := ?_) ?_ ?_; rotate_left
           · show Act.put _ (some 40) _ = _
             simp only [Act.put, List.setIfInBounds_toArray, List.set_cons_zero, List.set_cons_succ, qd7, qew]; rfl
           refine two_ (i := 7) (j := 9) (Ni := some 42) (Nj := some 44) #[true, true, true, true, true, true, true, true, true, false, false, true, true, true, false, false] #[true, true, true, true, true, true, true, false, true, true, false, true, true, true, false, false] rfl rfl rfl rfl (by kernel_rfl) (by decide) (by decide) (fun K hK => ?_) (fun K hK => ?_)
           ·skip
            refine Kd.qbY qaL (w0 := wS) wS.heap.size (by rfl) (.tmp 40) (.tmp 41) 26 85 (.agg #[(.int .i64 0), (.int .i64 0)]) 16 rfl Tryz.underlying26 qcY rfl (by decide) (by omega) v40 ([] : List qac) rules _ _ _ (fun _ => True) (fun _ => False) rfl rfl HL0.out ?aR (fun _ _ h => h) (fun _ h => h.elim) (fun _ _ => trivial) HBc.out (qab HBc.out) ?aL ?_
            (case aR => exact H2.out _ (qeF.below (qeF.below HPS.out HBx.out) HBc.out).2.2.1)
            (case aL => have h_ := HLB.out; simp only [List.length_nil]; omega)
            intro v42 w7_1 ho hb hg hat_; simp only [List.nil_append] at ho; clear hg hat_ HL0 HBc; have HA := ak_ ho; have HBc := ak_ hb; clear ho hb; refine hK.out _ _ ⟨(qau HBc.out HX0.out), (qau HBc.out HX1.out)⟩ (fun hHeld => ?_); clear hK K; refine qep (a' := ?_) ?_ ?_; rotate_left
            · show Act.put _ (some 42) _ = _
              simp only [Act.put, List.setIfInBounds_toArray, List.set_cons_zero, List.set_cons_succ, qd7, qew]; rfl
            refine qfH (i := 9) (N := some 44) #[true, true, true, true, true, true, true, true, true, true, false, true, true, true, false, false] rfl rfl (by kernel_rfl) (by decide) (fun K hK => ?_); refine Kd.qdS qaL _ 85 ?hg (N := 44) ?hd (xs := ([qae fit i] : List qac)) (inner := [.int .i64 (qae fit i).f0, .int .i64 (qae fit i).f1]) (ok := fun _ => True) (okp := fun _ => True) ?hr ?hp (fun _ hk => hk) trivial (Below.refl _ _) (Nat.le_refl _) (by simp) ?_
            (case hd => rfl)
            (case hg => rfl)
            (case hr => exact qbe)
            (case hp => exact qef.front (qdm _ _ _ (qae fit i)) rfl (qef.none _ _) rfl)
            intro v44 w9_2 ho hb hg_ hnew_; clear hg_ hnew_; have n1_ := ak_ (Kd.qbv HA.out hb); clear HA; have HA := n1_; clear n1_; have HL1 := ak_ (Kd.qax ho (qab HBc.out)); clear ho; have n9_ := ak_ (qaa HBc.out hb); clear HBc hb; have HBc := n9_; clear n9_; refine hK.out _ _ ⟨(qau HBc.out HX0.out), (qau HBc.out HX1.out)⟩ (fun hHeld => ?_); clear hK K; refine qep (a' := ?_) ?_ ?_; rotate_left
            · show Act.put _ (some 44) _ = _
              simp only [Act.put, List.setIfInBounds_toArray, List.set_cons_zero, List.set_cons_succ, qd7, qew]; rfl
            exact qep qqN (hCont (v40, v42, v44) _ ⟨HA.out, Kd.qa9 HL1.out (fun _ _ => trivial), HBc.out⟩)
           skip
           refine Kd.qdS qaL _ 85 ?hg (N := 44) ?hd (xs := ([qae fit i] : List qac)) (inner := [.int .i64 (qae fit i).f0, .int .i64 (qae fit i).f1]) (ok := fun _ => True) (okp := fun _ => True) ?hr ?hp (fun _ hk => hk) trivial (Below.refl _ _) (Nat.le_refl _) (by simp) ?_
           (case hd => rfl)
           (case hg => rfl)
           (case hr => exact qbe)
           (case hp => exact qef.front (qdm _ _ _ (qae fit i)) rfl (qef.none _ _) rfl)
           intro v44 w9_1 ho hb hg_ hnew_; clear hg_ hnew_; have HL1 := ak_ (Kd.qa9 (Kd.qax (Kd.qh1 ho (Kd.qjI HL0.out)) (qab HBc.out)) (fun _ hk => hk.2)); have n1_ := ak_ (Kd.qbv HL0.out hb); clear HL0 ho; have HL0 := n1_; clear n1_; have n9_ := ak_ (qaa HBc.out hb); clear HBc hb; have HBc := n9_; clear n9_; refine hK.out _ _ ⟨(qau HBc.out HX0.out), (qau HBc.out HX1.out)⟩ (fun hHeld => ?_); clear hK K; refine qep (a' := ?_) ?_ ?_; rotate_left
           · show Act.put _ (some 44) _ = _
             simp only [Act.put, List.setIfInBounds_toArray, List.set_cons_zero, List.set_cons_succ, qd7, qew]; rfl
           refine qfH (i := 7) (N := some 42) #[true, true, true, true, true, true, true, true, true, true, false, true, true, true, false, false] rfl rfl (by kernel_rfl) (by decide) (fun K hK => ?_); refine Kd.qbY qaL (w0 := wS) wS.heap.size (by rfl) (.tmp 40) (.tmp 41) 26 85 (.agg #[(.int .i64 0), (.int .i64 0)]) 16 rfl Tryz.underlying26 qcY rfl (by decide) (by omega) v40 ([] : List qac) rules _ _ _ (fun _ => True) (fun _ => False) rfl rfl HL0.out ?aR (fun _ _ h => h) (fun _ h => h.elim) (fun _ _ => trivial) HBc.out (qab HBc.out) ?aL ?_
           (case aR => exact H2.out _ (qeF.below (qeF.below HPS.out HBx.out) HBc.out).2.2.1)
           (case aL => have h_ := HLB.out; simp only [List.length_nil]; omega)
           intro v42 w7_2 ho hb hg hat_; simp only [List.nil_append] at ho; have n1_ := ak_ (Kd.qiW HL1.out hg (fun _ hk => hk)); clear HL1; have HL1 := n1_; clear n1_; clear hg hat_ HL0 HBc; have HA := ak_ ho; have HBc := ak_ hb; clear ho hb; refine hK.out _ _ ⟨(qau HBc.out HX0.out), (qau HBc.out HX1.out)⟩ (fun hHeld => ?_); clear hK K; refine qep (a' := ?_) ?_ ?_; rotate_left
           · show Act.put _ (some 42) _ = _
             simp only [Act.put, List.setIfInBounds_toArray, List.set_cons_zero, List.set_cons_succ, qd7, qew]; rfl
           exact qep qqN (hCont (v40, v42, v44) _ ⟨HA.out, Kd.qa9 HL1.out (fun _ _ => trivial), HBc.out⟩)
          skip
          refine Kd.qdS qaL _ 85 ?hg (N := 44) ?hd (xs := ([qae fit i] : List qac)) (inner := [.int .i64 (qae fit i).f0, .int .i64 (qae fit i).f1]) (ok := fun _ => True) (okp := fun _ => True) ?hr ?hp (fun _ hk => hk) trivial (Below.refl _ _) (Nat.le_refl _) (by simp) ?_
          (case hd => rfl)
          (case hg => rfl)
          (case hr => exact qbe)
          (case hp => exact qef.front (qdm _ _ _ (qae fit i)) rfl (qef.none _ _) rfl)
          intro v44 w9_0 ho hb hg_ hnew_; clear hg_ hnew_; have HL1 := ak_ (Kd.qax ho (qab HBc.out)); clear ho; have n9_ := ak_ (qaa HBc.out hb); clear HBc hb; have HBc := n9_; clear n9_; refine hK.out _ _ ⟨(qau HBc.out HX0.out), (qau HBc.out HX1.out)⟩ (fun hHeld => ?_); clear hK K; refine qep (a' := ?_) ?_ ?_; rotate_left
          · show Act.put _ (some 44) _ = _
            simp only [Act.put, List.setIfInBounds_toArray, List.set_cons_zero, List.set_cons_succ, qd7, qew]; rfl
          refine qfH (i := 5) (N := some 40) #[true, true, true, true, true, true, true, false, true, true, false, true, true, true, false, false] rfl rfl (by kernel_rfl) (by decide) (fun K hK => ?_); refine Kd.qdS qaL _ 85 ?hg (N := 40) ?hd (xs := ([] : List qac)) (inner := []) (ok := fun _ => True) (okp := fun _ => True) ?hr ?hp (fun _ hk => hk) trivial (Below.refl _ _) (Nat.le_refl _) (by simp) ?_
          (case hd => rfl)
          (case hg => rfl)
          (case hr => exact qbe)
          (case hp => exact qef.none _ _)
          intro v40 w5_1 ho hb hg_ hnew_; clear hg_ hnew_; have n1_ := ak_ (Kd.qa9 (Kd.qfB HL1.out (Kd.qfj ho) hb) (fun _ hk => hk.2)); clear HL1; have HL1 := n1_; clear n1_; have HL0 := ak_ (Kd.qax ho (qab HBc.out)); clear ho; have n9_ := ak_ (qaa HBc.out hb); clear HBc hb; have HBc := n9_; clear n9_; refine hK.out _ _ ⟨(qau HBc.out HX0.out), (qau HBc.out HX1.out)⟩ (fun hHeld => ?_); clear hK K; refine qep (a' := ?_) ?_ ?_; rotate_left
          · show Act.put _ (some 40) _ = _
            simp only [Act.put, List.setIfInBounds_toArray, List.set_cons_zero, List.set_cons_succ, qd7, qew]; rfl
          refine qfH (i := 7) (N := some 42) #[true, true, true, true, true, true, true, true, true, true, false, true, true, true, false, false] rfl rfl (by kernel_rfl) (by decide) (fun K hK => ?_); refine Kd.qbY qaL (w0 := wS) wS.heap.size (by rfl) (.tmp 40) (.tmp 41) 26 85 (.agg #[(.int .i64 0), (.int .i64 0)]) 16 rfl Tryz.underlying26 qcY rfl (by decide) (by omega) v40 ([] : List qac) rules _ _ _ (fun _ => True) (fun _ => False) rfl rfl HL0.out ?aR (fun _ _ h => h) (fun _ h => h.elim) (fun _ _ => trivial) HBc.out (qab HBc.out) ?aL ?_
          (case aR => exact H2.out _ (qeF.below (qeF.below HPS.out HBx.out) HBc.out).2.2.1)
          (case aL => have h_ := HLB.out; simp only [List.length_nil]; omega)
          intro v42 w7_2 ho hb hg hat_; simp only [List.nil_append] at ho; have n1_ := ak_ (Kd.qiW HL1.out hg (fun _ hk => hk)); clear HL1; have HL1 := n1_; clear n1_; clear hg hat_ HL0 HBc; have HA := ak_ ho; have HBc := ak_ hb; clear ho hb; refine hK.out _ _ ⟨(qau HBc.out HX0.out), (qau HBc.out HX1.out)⟩ (fun hHeld => ?_); clear hK K; refine qep (a' := ?_) ?_ ?_; rotate_left
          · show Act.put _ (some 42) _ = _
            simp only [Act.put, List.setIfInBounds_toArray, List.set_cons_zero, List.set_cons_succ, qd7, qew]; rfl
          exact qep qqN (hCont (v40, v42, v44) _ ⟨HA.out, Kd.qa9 HL1.out (fun _ _ => trivial), HBc.out⟩)
        rintro ⟨v40, v42, v44⟩ wJ ⟨ha_, hl_, hb_⟩; clear HBc; have HA := ak_ ha_; have HL1 := ak_ hl_; have HBc := ak_ hb_; clear ha_ hl_ hb_; obtain ⟨A44, c44, e44⟩ := Kd.qaI HL1.out; dsimp only at e44; subst e44; refine qep (a' := ?_) ?_ ?_; rotate_left
        · simp only [qiH, Act.put, List.setIfInBounds_toArray, List.set_cons_zero, List.set_cons_succ]
          rfl
        refine qfH (i := 10) (N := some 45) #[true, true, true, true, true, true, true, true, true, true, true, true, true, true, false, false] rfl rfl (by kernel_rfl) (by decide) (fun K hK => ?_); refine Kd.qbY qaL (w0 := wS) wS.heap.size (by rfl) (.tmp 42) (.tmp 44) 26 85 (.agg #[(.int .i64 0), (.int .i64 0)]) 16 rfl Tryz.underlying26 qcY rfl (by decide) (by omega) v42 rules [qae fit i] _ _ _ (fun _ => True) (fun _ => False) rfl rfl HA.out ?aR (fun _ _ h => h) (fun _ h => h.elim) (fun _ _ => trivial) HBc.out (qab HBc.out) ?aL ?_
        (case aR => exact (Kd.qao HL1.out).2.2)
        (case aL => have h_ := HLB.out; simp only [List.length_singleton]; omega)
        intro v45 wB ho hb hg hat_; clear hg hat_ HA HL1 HBc; have HA := ak_ ho; have HBc := ak_ hb; clear ho hb; obtain ⟨A45, c45, e45⟩ := Kd.qaI HA.out; subst e45; refine hK.out _ _ ⟨(qau HBc.out HX0.out), (qau HBc.out HX1.out)⟩ (fun hHeld => ?_); clear hK K; refine qep (a' := ?_) ?_ ?_; rotate_left
        · show Act.put _ (some 45) _ = _
          simp only [Act.put, List.setIfInBounds_toArray, List.set_cons_zero, List.set_cons_succ, qd7, qew]; rfl
        refine last_ (i := 14) (N := some 49) #[true, true, true, true, true, true, true, true, true, true, true, true, true, true, true, false] rfl rfl (by kernel_rfl) (by decide) (fun K hK => ?_); refine qfR Tryz.func213 (by kernel_rfl) rfl #[.string p, .slice A39 fd.length c39, .slice A45 (rules ++ [qae fit i]).length c45, .int .i64 (wrap64 (left - 1)), .slice Aq o.length cq] (by rfl) rfl rfl qbZ ?_; have HPB := ak_ (qeF.below (qeF.below HPS.out HBx.out) HBc.out); refine (IH.out k1 (by have := HK.out; omega) p fd (rules ++ [qae fit i]) (wrap64 (left - 1)) o o2 A39 c39 _ _ (.slice Aq o.length cq) w0 _ ?s1 ?s2 ?s3 ?s4 ?s5 ?s6 A_.out).mono ?_
        (case s1 => exact (fun W' hg' => HF2.out W' (H1.out _ (qgZ HPB.out.2.2.1 hg' HPB.out.2.2.2))))
        (case s2 => exact HC39.out)
        (case s3 => exact (fun W' hg' => (Kd.qao (Kd.qiW (Kd.qe0 HA.out) hg' (fun k_ hk e_ => by have h1_ := HV.out k_ e_.symm; have h2_ := hk.2.1; have h3_ := HBx.out.size; omega))).2.2))
        (case s4 => exact (Kd.qao HA.out).2.1)
        (case s5 => exact HPB.out.1)
        (case s6 => exact HPB.out.2.1)
        rintro e wC ⟨v49, rfl, hp⟩; refine ⟨_, rfl, ?_⟩; have HPN := ak_ (qeF.trans HPB.out hp); clear hp HPB; refine hK.out _ _ ?_; clear hK K; refine qep (a' := ?_) ?_ ?_; rotate_left
        · show Act.put _ (some 49) _ = _
          simp only [Act.put, List.setIfInBounds_toArray, List.set_cons_zero, List.set_cons_succ, qd7, qew]; rfl
        refine qgy (i := 15) (N := some 4) (v := ?_) (a' := ?_) #[true, true, true, true, true, true, true, true, true, true, true, true, true, true, true, true] rfl rfl (by kernel_rfl) (fun _ _ _ h => h) (Or.inl ⟨by rfl, ?_⟩) ?_ ?_; rotate_left; intro w'; go_simp; with_reducible rfl
        rotate_left; exact qmq
        refine qgu (by kernel_rfl) ?_; go_wp2
        go_roundg k1
        case measure => have := HK.out; omega
        case rel => exact ⟨o2, i + 1, by go_num, H', ⟨by have := HK.out; omega⟩, HPN⟩
theorem qbX.calls (k : Nat) (a0 : ByteArray) (A1 : Option Addr) (c1 : Nat) (l1 : List qac) (A2 : Option Addr) (c2 : Nat) (l2 : List qac) (a3 : Int) (A4 : Option Addr) (c4 : Nat) (l4 : List (List qac)) (r : List (List qac)) (w : World)
    (hr1 : Kd.C qaL w A1 l1.length l1) (hc1 : l1.length ≤ c1) (hr2 : Kd.C qaL w A2 l2.length l2) (hc2 : l2.length ≤ c2) (hr4 : Kd.C (Kd.slice 85 qaL) w A4 l4.length l4) (hc4 : l4.length ≤ c4) (h : qbX.f k a0 l1 l2 a3 l4 = some r) (hnil : A4 = none ∧ c4 = 0 := by exact ⟨rfl, rfl⟩) :
    Calls Tryz.prog 213 #[.string a0, .slice A1 l1.length c1, .slice A2 l2.length c2, .int .i64 a3, .slice A4 l4.length c4] w fun e w' => ∃ v0_ : Value, e = .returned (v0_) ∧ Kd.S (Kd.slice 85 qaL) 26 w' w.heap.size (fun _ => True) v0_ r ∧ Below w.heap.size w w' := by
  obtain ⟨rfl, rfl⟩ := hnil; obtain rfl : l4 = [] := List.eq_nil_of_length_eq_zero (by omega)
  have hb : ∀ W', w.grownBy W' (Value.slice none ([] : List (List qac)).length 0).ownBlock → Below w.heap.size w W' := fun W' hg => ⟨hg.os, hg.tape, hg.output, hg.size, fun k hk => hg.block k hk (by simp [Value.ownBlock])⟩
  exact (qbX.own k a0 l1 l2 a3 [] r A1 c1 A2 c2 (.slice none 0 0) w w (fun W' hg => Kd.qeg hr1 (hb W' hg)) hc1 (fun W' hg => Kd.qeg hr2 (hb W' hg)) hc2 (Kd.S_nil _ _ _ _ _) (Below.refl _ _) h).mono fun e w' ⟨v1, he, hp⟩ => ⟨v1, he, hp.1, hp.2.1⟩
mutual
def qbI.l0 : Nat → ByteArray → List (qac) → Int → Option ((List (qac)))
 | 0, _, _, _ => none
 | k + 1, x0, x3, x4 => if x4 ≤ 10 then (qbI.l1 k x0 x3 x4 0) else (some x3)
def qbI.l1 : Nat → ByteArray → List (qac) → Int → Int → Option ((List (qac)))
 | 0, _, _, _, _ => none
 | k + 1, x0, x3, x4, x5 => if x5 < x4 then ((qcI.f k x0 x4 x5).bind fun qaR => (if qaR = true then (if x3.length < 8796093022208 then (qbI.l1 k x0 (x3 ++ [(⟨x4, x5⟩ : qac)]) x4 (wrap64 (x5 + 1))) else (none)) else (qbI.l1 k x0 x3 x4 (wrap64 (x5 + 1))))) else (qbI.l0 k x0 x3 (wrap64 (x4 + 1)))
end
def qbI.f (k : Nat) (a0 : ByteArray) : Option ((List (qac))) := qbI.l0 k a0 ([] : List (qac)) 2
theorem qbI.calls (k : Nat) (a0 : ByteArray) (r : List (qac)) (w : World) (h : qbI.f k a0 = some r) :
  Calls Tryz.prog 214 #[.string a0] w fun e w' => ∃ v0_ : Value, e = .returned (v0_) ∧ Kd.R qaL 85 w' w.heap.size (fun _ => True) v0_ r ∧ Below w.heap.size w w' := by
 have qmM := Tryz.underlying85; have HB := br_ w; have H : (qbI.l0 k a0 ([] : List (qac)) 2) = some r := h; clear h; have H' := ak_ H; clear H; go_enter Tryz.func214, Tryz.ntmps214; go_wp2
 go_loopg [3, 4] k (fun kq v3 v4 w' => ∃ (qbx : List (qac)) (qcM : Int), v4 = .int .i64 qcM ∧ qag (qbI.l0 kq a0 qbx qcM = some r) ∧ qag (kq ≤ k) ∧ qag (Kd.R qaL 85 w' w.heap.size (fun _ => True) v3 qbx) ∧ qag (Below w.heap.size w w'))
 case atStart => exact ⟨(([] : List (qac))), (2), qav, H', ⟨Nat.le_refl _⟩, ⟨qgN⟩, ⟨qan⟩⟩
 case round =>
  clear H'; obtain ⟨qbx, qcM, rfl, HA, HK1, qdq, HB⟩ := hrel
  cases gk with
  | zero => exact absurd HA.out (by simp [qbI.l0])
  | succ k1 =>
   have H := HA.out; clear HA; simp only [qbI.l0] at H; by_cases c2 : qcM ≤ 10; rotate_left
   ·rw [if_neg c2] at H; have qfr := decide_eq_false c2; clear c2; obtain rfl := sj_ H; go_wp2
    go_ret
    exact ⟨_, qcf, k64_, qan⟩
   rw [if_pos c2] at H; have qfr := decide_eq_true c2; clear c2; have H' := ak_ H; clear H; go_wp2
   go_loopg [3, 5] k1 (fun kq v3 v5 w' => ∃ (qgO : List (qac)) (qfS : Int), v5 = .int .i64 qfS ∧ qag (qbI.l1 kq a0 qgO qcM qfS = some r) ∧ qag (kq ≤ k1) ∧ qag (Kd.R qaL 85 w' w.heap.size (fun _ => True) v3 qgO) ∧ qag (Below w.heap.size w w'))
   case atStart => exact ⟨(qbx), (0), qav, H', ⟨Nat.le_refl _⟩, ⟨qhX⟩, ⟨qan⟩⟩
   case round =>
    clear H'; (try clear c2); (try clear qfr); obtain ⟨qgO, qfS, rfl, HA, HK2, qdq, HB⟩ := hrel
    cases gk with
    | zero => exact absurd HA.out (by simp [qbI.l1])
    | succ k2 =>
     have H := HA.out; clear HA; simp only [qbI.l1] at H; by_cases c3 : qfS < qcM; rotate_left
     ·rw [if_neg c3] at H; have qfk := decide_eq_false c3; clear c3; have H' := ak_ H; clear H; go_wp2
      go_roundg k2
      case measure => have := HK1.out; have := HK2.out; omega
      case rel => exact ⟨(qgO), (wrap64 (qcM + 1)), qav, H', ⟨qmn⟩, ⟨qhX⟩, ⟨qan⟩⟩
     rw [if_pos c3] at H; have qfk := decide_eq_true c3; clear c3; obtain ⟨qaR, A4, H⟩ := qay H; (try dsimp only at H); by_cases c5 : qaR = true; rotate_left
     ·replace c5 := Bool.eq_false_iff.mpr c5; subst c5; rw [if_neg ff_] at H; have H' := ak_ H; clear H
      go_wp2_with (first | ((with_reducible refine qal (N := 6) rfl ?_); refine bx_ 6 rfl (cs := #[.int .i64 0, .int .i64 0]) (t := 85) qbe ?_; intro qb6 hg w12 hbox hb; replace qdq := ak_ (Kd.qbv (Kd.qhK qhX qb6 (Nat.le_of_eq hg.symm)) hb); have qaG := ak_ (hbox); have qeO := ak_ (HB.ge hg); have qem := ak_ (HB.ge hg); replace HB := HB.mw hb; clear hb hbox hg; obtain ⟨qmh, qmi, qmj, qmk⟩ := qbG qaG.out) | (refine gl_ 21 Tryz.func247 #[.string a0, .agg #[.int .i64 qcM, .int .i64 qfS]] rfl qbK ?_; (with_reducible refine (qcI.calls k2 a0 qcM qfS false _ A4.out).mono ?_); rintro e w14 ⟨rfl, hb⟩; refine ⟨_, rfl, ?_⟩; replace qdq := ak_ (Kd.qbv k11_ hb); replace qaG := ak_ (qar (g := qb6) (o := .cells #[.int .i64 qcM, .int .i64 qfS] 85 (0, 0)) k8_ hb); replace HB := ak_ (qaa qds hb); (try clear hb)))
      go_roundg k2
      case measure => have := HK1.out; have := HK2.out; omega
      case rel => exact ⟨(qgO), (wrap64 (qfS + 1)), qav, H', ⟨qmn⟩, ⟨by (with_reducible repeat (first | apply Kd.qap | apply Kd.qaq | apply Kd.qaw)); exact Kd.qa9 qdq.out (fun _ hk => trivial)⟩, ⟨qds⟩⟩
     subst c5; rw [if_pos rfl] at H; obtain ⟨c6, H⟩ := qck H; have LMc6 := ak_ c6; clear c6
     obtain ⟨qmJ, hy_⟩ : ∃ y_ : List (qac), y_ = (qgO ++ [(⟨qcM, qfS⟩ : qac)]) := ⟨_, rfl⟩
     replace H : (qbI.l1 k2 a0 qmJ qcM (wrap64 (qfS + 1))) = some r := qe1; have ql2 := ak_ hy_; clear hy_; have H' := ak_ H; clear H
     go_wp2_with (first | ((with_reducible refine qal (N := 6) rfl ?_); refine bx_ 6 rfl (cs := #[.int .i64 0, .int .i64 0]) (t := 85) qbe ?_; intro qb6 hg w7 hbox hb; replace qdq := ak_ (Kd.qbv (Kd.qhK qhX qb6 (Nat.le_of_eq hg.symm)) hb); have qaG := ak_ (hbox); have qeO := ak_ (HB.ge hg); have qem := ak_ (HB.ge hg); replace HB := HB.mw hb; clear hb hbox hg; obtain ⟨qno, qnp, qnq, qnr⟩ := qbG qaG.out) | (refine gl_ 21 Tryz.func247 #[.string a0, .agg #[.int .i64 qcM, .int .i64 qfS]] rfl qbK ?_; (with_reducible refine (qcI.calls k2 a0 qcM qfS true _ A4.out).mono ?_); rintro e w9 ⟨rfl, hb⟩; refine ⟨_, rfl, ?_⟩; replace qdq := ak_ (Kd.qbv k11_ hb); replace qaG := ak_ (qar (g := qb6) (o := .cells #[.int .i64 qcM, .int .i64 qfS] 85 (0, 0)) k8_ hb); replace HB := ak_ (qaa qds hb); (try clear hb); obtain ⟨qoB, qoC, qoI, qoJ⟩ := qbG qaG.out) | ((with_reducible refine qa2 (b := .append) (xs := #[.tmp 22, .tmp 24]) rfl ?_); at_builtin; refine Kd.qcH qaL (w0 := w) w.heap.size rfl (.tmp 22) (.tmp 24) 26 85 (.agg #[(.int .i64 0), (.int .i64 0)]) 16 rfl Tryz.underlying26 qfT rfl (by decide) (by omega) u3 qgO (⟨qcM, qfS⟩ : qac) [.int .i64 qcM, .int .i64 qfS] (fun k_ => k_ ≠ qb6) (fun _ => False) rfl rfl ?aP (fun _ hk => hk.elim) ?aF ?aO ?aB ?aS ?aL ?_; (case aP => exact qdm _ _ _ (⟨qcM, qfS⟩ : qac)); (case aB => exact qds); (case aF => exact (fun k_ hk => Kd.qnk (g := qb6) (o := .cells #[.int .i64 qcM, .int .i64 qfS] 85 (0, 0)) qmO k_ hk)); (case aO => exact (by (with_reducible repeat (first | apply Kd.qap | apply Kd.qaq | apply Kd.qaw)); exact Kd.qa9 qdq.out (fun _ hk => hk.2))); (case aS => exact (qab qds)); (case aL => have := LMc6.out; omega); intro qtn w11 ho hb hg hat; rw [← ql2.out] at ho; replace qaG := ak_ (qdH (g := qb6) (o := .cells #[.int .i64 qcM, .int .i64 qfS] 85 (0, 0)) qmO hg (Kd.qmW qdq.out (fun _ hk => hk.2))); replace HB := ak_ (hb); have qeI := ak_ (ho); clear qdq; clear ho hb hg hat))
     go_roundg k2
     case measure => have := HK1.out; have := HK2.out; omega
     case rel => exact ⟨(qmJ), (wrap64 (qfS + 1)), qav, H', ⟨qmn⟩, ⟨by (with_reducible repeat (first | apply Kd.qap | apply Kd.qaq | apply Kd.qaw)); exact Kd.qa9 qeI.out (fun _ hk => trivial)⟩, ⟨qds⟩⟩
def qby.f (k : Nat) (qbP : ByteArray) (qcz : Int) : Option ((List (List (qac))) × Bool) := (qdt.f k qbP qcz).bind fun qaR => (if qaR = true then ((qbI.f k qbP).bind fun qce => ((qbX.f k qbP qce ([] : List (qac)) qcz ([] : List (List (qac)))).bind fun qf4 => (if (qf4.length : Int) > 300 then (some (([] : List (List (qac))), false)) else (some (qf4, true))))) else (some (([] : List (List (qac))), false)))
def qby.T3 : Bool × List (List Nat × List Nat) := (true, [([], []), ([0], [0]), ([], []), ([2], [2]), ([3], [3]), ([], []), ([5], [5]), ([1, 4, 6, 4], [1, 4, 6]), ([7, 7, 0, 1, 2, 3, 4, 5, 6, 7], [7])])
def qby.B3 : List Nat := [0, 1, 0, 4, 12, 0, 32, 127, 255]
theorem qby.tab3 : qhS .any (opsOf Tryz.f175 3) = qby.T3 := by kernel_rfl
theorem qby.bits3 : qeU qby.T3.2 qby.B3 = true := by kernel_rfl
theorem qby.calls (k : Nat) (qbP : ByteArray) (qcz : Int) (r1 : List (List (qac))) (r2 : Bool) (w : World) (h : qby.f k qbP qcz = some (r1, r2)) :
  Calls Tryz.prog 175 #[.agg #[.string qbP, .int .i64 qcz]] w fun e w' => ∃ v0_ : Value, e = .returned (.tuple #[v0_, .bool r2]) ∧ Kd.S (Kd.slice 85 qaL) 26 w' w.heap.size (fun _ => True) v0_ r1 ∧ Below w.heap.size w w' := by
 have hu99 := Tryz.underlying99; have HB := br_ w; have H : ((qdt.f k qbP qcz).bind fun qaR => (if qaR = true then ((qbI.f k qbP).bind fun qce => ((qbX.f k qbP qce ([] : List (qac)) qcz ([] : List (List (qac)))).bind fun qf4 => (if (qf4.length : Int) > 300 then (some (([] : List (List (qac))), false)) else (some (qf4, true))))) else (some (([] : List (List (qac))), false)))) = some (r1, r2) := h; clear h; obtain ⟨qaR, A2, H⟩ := qay H; (try dsimp only at H); by_cases c3 : qaR = true; rotate_left
 ·replace c3 := Bool.eq_false_iff.mpr c3; subst c3; rw [if_neg ff_] at H; obtain ⟨rfl, rfl⟩ := qdF H; go_enter Tryz.func175, Tryz.ntmps175
  go_wp2_with (first | ((with_reducible refine qal (N := 1) rfl ?_); refine bx_ 1 rfl (cs := #[.string qbP, .int .i64 qcz]) (t := 99) qbe ?_; intro qb6 hg w23 hbox hb; have qaG := ak_ (hbox); have qeO := ak_ (HB.ge hg); have qem := ak_ (HB.ge hg); replace HB := HB.mw hb; clear hb hbox hg; obtain ⟨hcz24_0, hcz24_1, hfz24_0, hfz24_1⟩ := qbG qaG.out) | (refine gl_ 6 Tryz.func174 #[.agg #[.string qbP, .int .i64 qcz]] rfl qbK ?_; (with_reducible refine (qdt.calls k qbP qcz false _ A2.out).mono ?_); rintro e w25 ⟨rfl, hb⟩; refine ⟨_, rfl, ?_⟩; replace qaG := qaG.mw hb; replace HB := ak_ (qaa qds hb); (try clear hb)))
  go_ret2
  exact ⟨_, qcf, k55_, qds⟩
 subst c3; rw [if_pos rfl] at H; obtain ⟨qce, A4, H⟩ := qay H; (try dsimp only at H); obtain ⟨qf4, A5, H⟩ := qay H; (try dsimp only at H); by_cases c6 : (qf4.length : Int) > 300
 ·rw [if_pos c6] at H; have qgk : decide (300 < (qf4.length : Int)) = true := decide_eq_true c6; have qoq : decide (300 < qf4.length) = true := decide_eq_true (by omega); clear c6; obtain ⟨rfl, rfl⟩ := qdF H; go_enter Tryz.func175, Tryz.ntmps175
  try go_wp2_with (first | ((with_reducible refine qal (N := 1) rfl ?_); refine bx_ 1 rfl (cs := #[.string qbP, .int .i64 qcz]) (t := 99) qbe ?_; intro qb6 hg w7 hbox hb; have qaG := ak_ (hbox); have qeO := ak_ (HB.ge hg); have qem := ak_ (HB.ge hg); replace HB := HB.mw hb; clear hb hbox hg; obtain ⟨qno, qnp, qnq, qnr⟩ := qbG qaG.out) | (refine gl_ 6 Tryz.func174 #[.agg #[.string qbP, .int .i64 qcz]] rfl qbK ?_; (with_reducible refine (qdt.calls k qbP qcz true _ A2.out).mono ?_); rintro e w9 ⟨rfl, hb⟩; refine ⟨_, rfl, ?_⟩; replace qaG := qaG.mw hb; replace HB := ak_ (qaa qds hb); (try clear hb)))
  replace qaG := ak_ (qam qaG.out); replace HB := ak_ (qah HB.out); refine qe6 (n := 9) (S := fun w' => w'.cell? ⟨qb6, 0, none⟩ = some (.string qbP) ∧ w'.cell? ⟨qb6, 1, none⟩ = some (.int .i64 qcz)) (ds := []) (rA_ [0, 9]) (by kernel_rfl) rfl rfl ⟨qed qaG.out, qbC qaG.out⟩ (fun hHeld => ?_); refine qdn qby.tab3 qby.bits3 (fun HT_ HW_ => ?_)
  generalize w9.drew = w10 at qaG HB hHeld ⊢
  refine pu_ 0 8 [1, 8] ?_; refine pu_ 2 10 [1, 1, 1, 6] ?_; refine pu_ 5 13 [1, 1, 1, 2, 1, 3] ?_; refine qis 1 9 [3, 2, 1, 3] ?_; refine qis 3 11 [4, 1, 1, 3] ?_; refine qis 6 14 [4, 1, 2, 2] ?_; refine qfH (i := 4) (N := some 12) (rA_ [7, 2]) rfl rfl (qc4 HT_.out (by kernel_rfl)) (by decide) (fun K hK => ?_); refine qfR Tryz.func214 (by kernel_rfl) rfl #[.string qbP] (by rfl) rfl rfl qbK ?_
  with_reducible refine (qbI.calls k qbP qce _ A4.out).mono ?_
  rintro e w11 ⟨qtn, rfl, ho0, hb⟩; refine ⟨_, rfl, ?_⟩; have qeI := ak_ (Kd.qax ho0 (qab qds)); replace qaG := qaG.mw hb; replace HB := ak_ (qaa qds hb); (try clear hb); (try clear hb2); (try clear hk); (try clear hi); (try clear ho0); obtain ⟨qkZ, qk7, qq8⟩ := Kd.qaI qeI.out; (first | subst qq8 | (injection qq8 with f1_ f2_ f3_; have f4_ := f1_.symm; have f5_ := f3_.symm; clear f1_ f2_ f3_; subst f4_; subst f5_)); refine hK.out _ _ ⟨qed qaG.out, qbC qaG.out⟩ (fun hHeld => ?_); clear hK K; refine nm_ 12 ?_; refine qfH (i := 7) (N := some 15) (rA_ [8, 1]) rfl rfl (qc4 HT_.out (by kernel_rfl)) (by decide) (fun K hK => ?_); refine qfR Tryz.func213 (by kernel_rfl) rfl #[.string qbP, .slice qkZ qce.length qk7, .slice none 0 0, .int .i64 qcz, .slice none 0 0] (by rfl) rfl rfl qbK ?_; refine (qbX.calls k qbP _ _ qce _ _ ([] : List (qac)) qcz _ _ ([] : List (List (qac))) qf4 _ ?qaA ?qaB ?qpk ?qpl ?side5 ?side6 A5.out).mono ?_
  (case qaA => repeat (first | exact (Kd.qao qeI.out).2.2 | (with_reducible refine Kd.C_alloc ?_ _) | (with_reducible refine Kd.C_drewN ?_ _) | (with_reducible refine Kd.C_drew ?_)))
  (case qaB => exact (Kd.qao qeI.out).2.1)
  (case qpk => exact Kd.C_nil _ _)
  (case qpl => exact Nat.le_refl _)
  (case side5 => exact Kd.C_nil _ _)
  (case side6 => exact Nat.le_refl _)
  rintro e w13 ⟨v107, rfl, ho0, hb⟩; refine ⟨_, rfl, ?_⟩; have qgm := ak_ (Kd.qdV (Kd.qrr ho0 (Kd.qjI (by apply_rules only [qeI.out, Kd.qap, Kd.qaq, Kd.qaw]))) (qab qds)); replace qeI := qeI.mw hb; replace qaG := qaG.mw hb; replace HB := ak_ (qaa qds hb); (try clear hb); (try clear hb2); (try clear hk); (try clear hi); (try clear ho0); refine hK.out _ _ ⟨qed qaG.out, qbC qaG.out⟩ (fun hHeld => ?_); clear hK K; refine nm_ 15 ?_; refine pu_ 8 4 [9] ?_; refine qgu (qeC HT_.out (by kernel_rfl)) ?_; obtain ⟨Ao14, co14, eo14⟩ := Kd.qdL qgm.out; subst eo14
  try go_wp2
  go_ret2
  exact ⟨_, qcf, k55_, qds⟩
 rw [if_neg c6] at H; have qgk : decide (300 < (qf4.length : Int)) = false := decide_eq_false c6; have qoq : decide (300 < qf4.length) = false := decide_eq_false (by omega); clear c6; obtain ⟨rfl, rfl⟩ := qdF H; go_enter Tryz.func175, Tryz.ntmps175
 try go_wp2_with (first | ((with_reducible refine qal (N := 1) rfl ?_); refine bx_ 1 rfl (cs := #[.string qbP, .int .i64 qcz]) (t := 99) qbe ?_; intro qb6 hg w15 hbox hb; have qaG := ak_ (hbox); have qeO := ak_ (HB.ge hg); have qem := ak_ (HB.ge hg); replace HB := HB.mw hb; clear hb hbox hg; obtain ⟨qr9, qsa, qsh, qsi⟩ := qbG qaG.out) | (refine gl_ 6 Tryz.func174 #[.agg #[.string qbP, .int .i64 qcz]] rfl qbK ?_; (with_reducible refine (qdt.calls k qbP qcz true _ A2.out).mono ?_); rintro e w17 ⟨rfl, hb⟩; refine ⟨_, rfl, ?_⟩; replace qaG := qaG.mw hb; replace HB := ak_ (qaa qds hb); (try clear hb)))
 replace qaG := ak_ (qam qaG.out); replace HB := ak_ (qah HB.out); refine qe6 (n := 9) (S := fun w' => w'.cell? ⟨qb6, 0, none⟩ = some (.string qbP) ∧ w'.cell? ⟨qb6, 1, none⟩ = some (.int .i64 qcz)) (ds := []) (rA_ [0, 9]) (by kernel_rfl) rfl rfl ⟨qed qaG.out, qbC qaG.out⟩ (fun hHeld => ?_); refine qdn qby.tab3 qby.bits3 (fun HT_ HW_ => ?_)
 generalize w17.drew = w18 at qaG HB hHeld ⊢
 refine pu_ 0 8 [1, 8] ?_; refine pu_ 2 10 [1, 1, 1, 6] ?_; refine pu_ 5 13 [1, 1, 1, 2, 1, 3] ?_; refine qis 1 9 [3, 2, 1, 3] ?_; refine qis 3 11 [4, 1, 1, 3] ?_; refine qis 6 14 [4, 1, 2, 2] ?_; refine qfH (i := 4) (N := some 12) (rA_ [7, 2]) rfl rfl (qc4 HT_.out (by kernel_rfl)) (by decide) (fun K hK => ?_); refine qfR Tryz.func214 (by kernel_rfl) rfl #[.string qbP] (by rfl) rfl rfl qbK ?_
 with_reducible refine (qbI.calls k qbP qce _ A4.out).mono ?_
 rintro e w19 ⟨qtn, rfl, ho0, hb⟩; refine ⟨_, rfl, ?_⟩; have qeI := ak_ (Kd.qax ho0 (qab qds)); replace qaG := qaG.mw hb; replace HB := ak_ (qaa qds hb); (try clear hb); (try clear hb2); (try clear hk); (try clear hi); (try clear ho0); obtain ⟨Ao20, co20, eo20⟩ := Kd.qaI qeI.out; (first | subst eo20 | (injection eo20 with f1_ f2_ f3_; have f4_ := f1_.symm; have f5_ := f3_.symm; clear f1_ f2_ f3_; subst f4_; subst f5_)); refine hK.out _ _ ⟨qed qaG.out, qbC qaG.out⟩ (fun hHeld => ?_); clear hK K; refine nm_ 12 ?_; refine qfH (i := 7) (N := some 15) (rA_ [8, 1]) rfl rfl (qc4 HT_.out (by kernel_rfl)) (by decide) (fun K hK => ?_); refine qfR Tryz.func213 (by kernel_rfl) rfl #[.string qbP, .slice Ao20 qce.length co20, .slice none 0 0, .int .i64 qcz, .slice none 0 0] (by rfl) rfl rfl qbK ?_; refine (qbX.calls k qbP _ _ qce _ _ ([] : List (qac)) qcz _ _ ([] : List (List (qac))) qf4 _ ?qaA ?qaB ?qpk ?qpl ?side5 ?side6 A5.out).mono ?_
 (case qaA => repeat (first | exact (Kd.qao qeI.out).2.2 | (with_reducible refine Kd.C_alloc ?_ _) | (with_reducible refine Kd.C_drewN ?_ _) | (with_reducible refine Kd.C_drew ?_)))
 (case qaB => exact (Kd.qao qeI.out).2.1)
 (case qpk => exact Kd.C_nil _ _)
 (case qpl => exact Nat.le_refl _)
 (case side5 => exact Kd.C_nil _ _)
 (case side6 => exact Nat.le_refl _)
 rintro e w21 ⟨v107, rfl, ho0, hb⟩; refine ⟨_, rfl, ?_⟩; have qgm := ak_ (Kd.qdV (Kd.qrr ho0 (Kd.qjI (by apply_rules only [qeI.out, Kd.qap, Kd.qaq, Kd.qaw]))) (qab qds)); replace qeI := qeI.mw hb; replace qaG := qaG.mw hb; replace HB := ak_ (qaa qds hb); (try clear hb); (try clear hb2); (try clear hk); (try clear hi); (try clear ho0); refine hK.out _ _ ⟨qed qaG.out, qbC qaG.out⟩ (fun hHeld => ?_); clear hK K; refine nm_ 15 ?_; refine pu_ 8 4 [9] ?_; refine qgu (qeC HT_.out (by kernel_rfl)) ?_; obtain ⟨Ao22, co22, eo22⟩ := Kd.qdL qgm.out; subst eo22
 try go_wp2
 go_ret2
 exact ⟨_, qcf, by (with_reducible repeat (first | apply Kd.qdi | apply Kd.qdj | apply Kd.qeb)); exact Kd.qgo qgm.out (fun _ hk => trivial), qds⟩
def qdg.f (k : Nat) (qbP : ByteArray) (qcz : Int) : Option ((List (qac)) × Bool) := (qby.f k qbP qcz).bind fun qeR => (if qeR.2 = true then (if (qeR.1.length : Int) = 0 then (some (([] : List (qac)), false)) else (if 0 < (qeR.1.length : Int) then (some (qeq qeR.1 0, true)) else (none))) else (some (([] : List (qac)), false)))
theorem qdg.calls (k : Nat) (qbP : ByteArray) (qcz : Int) (r1 : List (qac)) (r2 : Bool) (w : World) (h : qdg.f k qbP qcz = some (r1, r2)) :
  Calls Tryz.prog 119 #[.agg #[.string qbP, .int .i64 qcz]] w fun e w' => ∃ v0_ : Value, e = .returned (.tuple #[v0_, .bool r2]) ∧ Kd.R qaL 85 w' w.heap.size (fun _ => True) v0_ r1 ∧ Below w.heap.size w w' := by
 have hu99 := Tryz.underlying99; have HB := br_ w; have H : ((qby.f k qbP qcz).bind fun qeR => (if qeR.2 = true then (if (qeR.1.length : Int) = 0 then (some (([] : List (qac)), false)) else (if 0 < (qeR.1.length : Int) then (some (qeq qeR.1 0, true)) else (none))) else (some (([] : List (qac)), false)))) = some (r1, r2) := h; clear h; obtain ⟨⟨qaR, t105⟩, A2, H⟩ := qay H; (try dsimp only at H); by_cases c3 : t105 = true; rotate_left
 ·replace c3 := Bool.eq_false_iff.mpr c3; subst c3; rw [if_neg ff_] at H; obtain ⟨rfl, rfl⟩ := qdF H; go_enter Tryz.func119, Tryz.ntmps119
  go_wp2_with (first | ((with_reducible refine qal (N := 1) rfl ?_); refine bx_ 1 rfl (cs := #[.string qbP, .int .i64 qcz]) (t := 99) qbe ?_; intro qb6 hg w14 hbox hb; have qaG := ak_ (hbox); have qeO := ak_ (HB.ge hg); have qem := ak_ (HB.ge hg); replace HB := HB.mw hb; clear hb hbox hg; obtain ⟨qoF, qoG, qoM, qoN⟩ := qbG qaG.out) | (refine gl_ 8 Tryz.func175 #[.agg #[.string qbP, .int .i64 qcz]] rfl qbK ?_; (with_reducible refine (qby.calls k qbP qcz qaR false _ A2.out).mono ?_); rintro e w16 ⟨qhm, rfl, ho0, hb⟩; refine ⟨_, rfl, ?_⟩; have qb1 := ak_ (Kd.qdV ho0 (qab qds)); replace qaG := qaG.mw hb; replace HB := ak_ (qaa qds hb); (try clear hb ho0)))
  go_ret2
  exact ⟨_, qcf, qgN, qds⟩
 subst c3; rw [if_pos rfl] at H; by_cases c4 : (qaR.length : Int) = 0
 ·rw [if_pos c4] at H; have qfx : ((qaR.length : Int) == 0) = true := beq_iff_eq.mpr c4; have qmK : ((qaR.length : Int) != 0) = false := bne_eq_false_iff_eq.mpr c4; clear c4; obtain ⟨rfl, rfl⟩ := qdF H; go_enter Tryz.func119, Tryz.ntmps119
  go_wp2_with (first | ((with_reducible refine qal (N := 1) rfl ?_); refine bx_ 1 rfl (cs := #[.string qbP, .int .i64 qcz]) (t := 99) qbe ?_; intro qb6 hg w5 hbox hb; have qaG := ak_ (hbox); have qeO := ak_ (HB.ge hg); have qem := ak_ (HB.ge hg); replace HB := HB.mw hb; clear hb hbox hg; obtain ⟨qkg, qkh, qkm, qkn⟩ := qbG qaG.out) | (refine gl_ 8 Tryz.func175 #[.agg #[.string qbP, .int .i64 qcz]] rfl qbK ?_; (with_reducible refine (qby.calls k qbP qcz qaR true _ A2.out).mono ?_); rintro e w7 ⟨qhm, rfl, ho0, hb⟩; refine ⟨_, rfl, ?_⟩; have qb1 := ak_ (Kd.qdV ho0 (qab qds)); replace qaG := qaG.mw hb; replace HB := ak_ (qaa qds hb); (try clear hb ho0); obtain ⟨Ao8, co8, eo8⟩ := Kd.qdL qb1.out; subst eo8))
  go_ret2
  exact ⟨_, qcf, qgN, qds⟩
 rw [if_neg c4] at H; have qfx : ((qaR.length : Int) == 0) = false := beq_eq_false_iff_ne.mpr c4; have qmK : ((qaR.length : Int) != 0) = true := bne_iff_ne.mpr c4
 have c4b2 : ¬ (qaR = []) := fun h_ => c4 (by rw [h_]; rfl)
 obtain ⟨c9, H⟩ := qck H; have qln := decide_eq_true c9; have c9b1 : decide (0 < qaR.length) = true := decide_eq_true (by omega); clear c9; obtain ⟨rfl, rfl⟩ := qdF H; go_enter Tryz.func119, Tryz.ntmps119
 go_wp2_with (first | ((with_reducible refine qal (N := 1) rfl ?_); refine bx_ 1 rfl (cs := #[.string qbP, .int .i64 qcz]) (t := 99) qbe ?_; intro qb6 hg w10 hbox hb; have qaG := ak_ (hbox); have qeO := ak_ (HB.ge hg); have qem := ak_ (HB.ge hg); replace HB := HB.mw hb; clear hb hbox hg; obtain ⟨qf8, qf9, qga, qgb⟩ := qbG qaG.out) | (refine gl_ 8 Tryz.func175 #[.agg #[.string qbP, .int .i64 qcz]] rfl qbK ?_; (with_reducible refine (qby.calls k qbP qcz qaR true _ A2.out).mono ?_); rintro e w12 ⟨qhm, rfl, ho0, hb⟩; refine ⟨_, rfl, ?_⟩; have qb1 := ak_ (Kd.qdV ho0 (qab qds)); replace qaG := qaG.mw hb; replace HB := ak_ (qaa qds hb); (try clear hb ho0); obtain ⟨Ao13, co13, eo13⟩ := Kd.qdL qb1.out; subst eo13; have qfI : 0 ≤ (0 : Int) := (by omega); have qfK : 0 < (qaR.length : Int) := of_decide_eq_true qaO; obtain ⟨qgS, A106_0, c106_0, qjC, qcr, qku, qkr⟩ := qpB (Kd.qeG qb1.out).2.2 0 qfI qfK; cases qjC; obtain ⟨ce106, qr8, qr6, qnn⟩ := Kd.qrq qb1.out [] 0 qfI (by first | exact qfK | exact of_decide_eq_true qaO | (have e_ := (Kd.qeG qb1.out).1; omega)); obtain ⟨ve106_0, rfl, qid⟩ := qr6; have qgd := qnn 0 _ rfl; rw [Nat.add_zero, show ((Kd.slice 85 qaL)).sz = 1 from rfl, Nat.mul_one] at qgd; replace qgd := Option.some.inj (qgd.symm.trans qcr); rw [qgd] at qid; have qn7 := ak_ (show Kd.R qaL 85 _ _ _ _ (qeq qaR 0) from qid); clear qgd qid; clear qnn qr8; have qs3 : (0 < qaR.length) = True := eq_true (by omega); (try rw [show ((0 : Int)).toNat = 0 from rfl] at qcr); (try rw [Addr.add_zero'] at qcr); have HR106_0 := ak_ qkr; have HC106_0 := ak_ qku; clear qkr qku; replace qfI := eq_true qfI; replace qfK := eq_true qfK))
 go_ret2
 exact ⟨_, qcf, by (with_reducible repeat (first | apply Kd.qap | apply Kd.qaq | apply Kd.qaw)); exact Kd.qa9 qn7.out (fun _ hk => trivial), qds⟩
def qgM.f (k : Nat) (rs : List qac) (mo : Int) (tx : ByteArray) (n : Int) (c : Cmd) : Option ByteArray := match c with
  | .cShow => qch.f k rs true
  | .cLeft => (qer.f k rs mo).bind fun q => qdD.f k q.1 q.2
  | .cCount => (qd9.f k rs mo).bind fun q => qcF.f k q.1 q.2
  | .cPeriod => (qcD.f k rs).bind fun q => qcF.f k q.1 q.2
  | .cSpokes => (qdN.f k rs).bind fun q => qdD.f k q.1 q.2
  | .cSteps => (qd3.f k rs).bind fun q => qdD.f k q.1 q.2
  | .cRank => (qc3.f k rs n).bind fun q => qcF.f k q.1 q.2
  | .cFactors => (qcL.f k n).bind fun q => qcm.f k q.1 q.2
  | .cPi => (qc2.f k n).bind fun q => qcF.f k q.1 q.2
  | .cDivisors => (qdb.f k n).bind fun q => qdD.f k q.1 q.2
  | .cTotient => (qdw.f k n).bind fun q => qcF.f k q.1 q.2
  | .cPattern => (qa1.f k rs n).bind fun q => if q.2 = true then some q.1 else some (⟨#[110, 111]⟩ : ByteArray)
  | .cAnswer => (qaD.f k tx).bind fun q => if q.2.2 = true then ((qdg.f k q.1 q.2.1).bind fun u => qch.f k u.1 u.2) else some (⟨#[110, 111]⟩ : ByteArray)
  | _ => none
theorem qon (k base g : Nat) (rs : List qac) (mo : Int) (lr : List qac) (tx : ByteArray) (n : Int) (c : Cmd) (txt : ByteArray) (w : World) (hbase : base ≤ w.heap.size) (hD : qjY w base g rs mo lr tx n) (h : qgM.f k rs mo tx n c = some txt) :
    Calls Tryz.prog 64 #[.pointer (some ⟨g, 0, none⟩), .string c.word] w fun e w' => e = .returned (.string txt) ∧ Below w.heap.size w w' := by
  obtain ⟨A0, c0, A1_, c1, hC, hO, hL⟩ := hD; have HCw := ak_ hC; have HOw := ak_ hO; have HLw := ak_ hL; have HC := ak_ hC; have HO := ak_ hO; have HL := ak_ hL; have HB := br_ w; obtain ⟨qqH, qqB⟩ := qcx HC.out; have qqI := qbC HC.out; have qqC := qad HC.out 1; have hzw_2 := qfl HC.out; have hfw_2 := qad HC.out 2; have hzw_3 := qft HC.out; have hfw_3 := qad HC.out 3; have hzw_4 := qfu HC.out; have hfw_4 := qad HC.out 4; clear hC hO hL; have HBS := ak_ hbase; clear hbase; unfold qgM.f at h
  match c, h with
  | .cShow, h =>
    simp only [Cmd.word, Cmd.bytes]; dsimp only at h; have A1 := ak_ h; clear h; go_enter Tryz.func64, Tryz.ntmps64
    go_wp2_with (first | (refine gl_ 19 Tryz.func99 #[.slice A0 rs.length c0, .bool true] rfl qbZ ?_; (refine (qch.calls k _ _ rs true txt _ qjp (Kd.qao HO.out).2.1 A1.out).mono ?_); rintro e w3 ⟨rfl, hb⟩; refine ⟨_, rfl, ?_⟩; replace HB := ak_ (qaa qan hb); clear hb))
    go_ret
    exact ⟨rfl, qan⟩
  | .cLeft, h =>
    simp only [Cmd.word, Cmd.bytes]; dsimp only at h; obtain ⟨⟨xs, ok⟩, A1, h⟩ := qay h; (try dsimp only at h); have A2 := ak_ h; clear h; go_enter Tryz.func64, Tryz.ntmps64
    go_wp2_with (first | (refine gl_ 28 Tryz.func105 #[.slice A0 rs.length c0, .int .i64 mo] rfl qbZ ?_; (refine (qer.calls k _ _ rs mo xs ok _ qjp (Kd.qao HO.out).2.1 A1.out).mono ?_); rintro e w2 ⟨vx, rfl, hox, hb⟩; refine ⟨_, rfl, ?_⟩; have HX := ak_ (Kd.qax hox (Nat.le_trans HBS.out (qab qan))); clear hox; obtain ⟨Ax, cx, ex⟩ := Kd.qaI HX.out; subst ex; replace HB := ak_ (qaa qan hb); clear hb) | (refine gl_ 31 Tryz.func104 #[.slice Ax xs.length cx, .bool ok] rfl qbZ ?_; (refine (qdD.calls k _ _ xs ok txt _ qqM (Kd.qao HX.out).2.1 A2.out).mono ?_); rintro e w5 ⟨rfl, hb⟩; refine ⟨_, rfl, ?_⟩; replace HB := ak_ (qaa qan hb); clear hb))
    go_ret
    exact ⟨rfl, qan⟩
  | .cCount, h =>
    simp only [Cmd.word, Cmd.bytes]; dsimp only at h; obtain ⟨⟨v, ok⟩, A1, h⟩ := qay h; (try dsimp only at h); have A2 := ak_ h; clear h; go_enter Tryz.func64, Tryz.ntmps64
    go_wp2_with (first | (refine gl_ 40 Tryz.func107 #[.slice A0 rs.length c0, .int .i64 mo] rfl qbZ ?_; (refine (qd9.calls k _ _ rs mo v ok _ qjp (Kd.qao HO.out).2.1 A1.out).mono ?_); rintro e w2 ⟨rfl, hb⟩; refine ⟨_, rfl, ?_⟩; replace HB := ak_ (qaa qan hb); clear hb) | (refine gl_ 43 Tryz.func106 #[.int .i64 v, .bool ok] rfl qbZ ?_; (refine (qcF.calls k v ok txt _ A2.out).mono ?_); rintro e w5 ⟨rfl, hb⟩; refine ⟨_, rfl, ?_⟩; replace HB := ak_ (qaa qan hb); clear hb))
    go_ret
    exact ⟨rfl, qan⟩
  | .cPeriod, h =>
    simp only [Cmd.word, Cmd.bytes]; dsimp only at h; obtain ⟨⟨v, ok⟩, A1, h⟩ := qay h; (try dsimp only at h); have A2 := ak_ h; clear h; go_enter Tryz.func64, Tryz.ntmps64
    go_wp2_with (first | (refine gl_ 47 Tryz.func108 #[.slice A0 rs.length c0] rfl qbZ ?_; (refine (qcD.calls k _ _ rs v ok _ qjp (Kd.qao HO.out).2.1 A1.out).mono ?_); rintro e w2 ⟨rfl, hb⟩; refine ⟨_, rfl, ?_⟩; replace HB := ak_ (qaa qan hb); clear hb) | (refine gl_ 50 Tryz.func106 #[.int .i64 v, .bool ok] rfl qbZ ?_; (refine (qcF.calls k v ok txt _ A2.out).mono ?_); rintro e w5 ⟨rfl, hb⟩; refine ⟨_, rfl, ?_⟩; replace HB := ak_ (qaa qan hb); clear hb))
    go_ret
    exact ⟨rfl, qan⟩
  | .cSpokes, h =>
    simp only [Cmd.word, Cmd.bytes]; dsimp only at h; obtain ⟨⟨xs, ok⟩, A1, h⟩ := qay h; (try dsimp only at h); have A2 := ak_ h; clear h; go_enter Tryz.func64, Tryz.ntmps64
    go_wp2_with (first | (refine gl_ 54 Tryz.func109 #[.slice A0 rs.length c0] rfl qbZ ?_; (refine (qdN.calls k _ _ rs xs ok _ qjp (Kd.qao HO.out).2.1 A1.out).mono ?_); rintro e w2 ⟨vx, rfl, hox, hb⟩; refine ⟨_, rfl, ?_⟩; have HX := ak_ (Kd.qax hox (Nat.le_trans HBS.out (qab qan))); clear hox; obtain ⟨Ax, cx, ex⟩ := Kd.qaI HX.out; subst ex; replace HB := ak_ (qaa qan hb); clear hb) | (refine gl_ 57 Tryz.func104 #[.slice Ax xs.length cx, .bool ok] rfl qbZ ?_; (refine (qdD.calls k _ _ xs ok txt _ qqM (Kd.qao HX.out).2.1 A2.out).mono ?_); rintro e w5 ⟨rfl, hb⟩; refine ⟨_, rfl, ?_⟩; replace HB := ak_ (qaa qan hb); clear hb))
    go_ret
    exact ⟨rfl, qan⟩
  | .cSteps, h =>
    simp only [Cmd.word, Cmd.bytes]; dsimp only at h; obtain ⟨⟨xs, ok⟩, A1, h⟩ := qay h; (try dsimp only at h); have A2 := ak_ h; clear h; go_enter Tryz.func64, Tryz.ntmps64
    go_wp2_with (first | (refine gl_ 61 Tryz.func110 #[.slice A0 rs.length c0] rfl qbZ ?_; (refine (qd3.calls k _ _ rs xs ok _ qjp (Kd.qao HO.out).2.1 A1.out).mono ?_); rintro e w2 ⟨vx, rfl, hox, hb⟩; refine ⟨_, rfl, ?_⟩; have HX := ak_ (Kd.qax hox (Nat.le_trans HBS.out (qab qan))); clear hox; obtain ⟨Ax, cx, ex⟩ := Kd.qaI HX.out; subst ex; replace HB := ak_ (qaa qan hb); clear hb) | (refine gl_ 64 Tryz.func104 #[.slice Ax xs.length cx, .bool ok] rfl qbZ ?_; (refine (qdD.calls k _ _ xs ok txt _ qqM (Kd.qao HX.out).2.1 A2.out).mono ?_); rintro e w5 ⟨rfl, hb⟩; refine ⟨_, rfl, ?_⟩; replace HB := ak_ (qaa qan hb); clear hb))
    go_ret
    exact ⟨rfl, qan⟩
  | .cRank, h =>
    simp only [Cmd.word, Cmd.bytes]; dsimp only at h; obtain ⟨⟨v, ok⟩, A1, h⟩ := qay h; (try dsimp only at h); have A2 := ak_ h; clear h; go_enter Tryz.func64, Tryz.ntmps64
    go_wp2_with (first | (refine gl_ 72 Tryz.func111 #[.slice A0 rs.length c0, .int .i64 n] rfl qbZ ?_; (refine (qc3.calls k _ _ rs n v ok _ qjp (Kd.qao HO.out).2.1 A1.out).mono ?_); rintro e w2 ⟨rfl, hb⟩; refine ⟨_, rfl, ?_⟩; replace HB := ak_ (qaa qan hb); clear hb) | (refine gl_ 75 Tryz.func106 #[.int .i64 v, .bool ok] rfl qbZ ?_; (refine (qcF.calls k v ok txt _ A2.out).mono ?_); rintro e w5 ⟨rfl, hb⟩; refine ⟨_, rfl, ?_⟩; replace HB := ak_ (qaa qan hb); clear hb))
    go_ret
    exact ⟨rfl, qan⟩
  | .cFactors, h =>
    simp only [Cmd.word, Cmd.bytes]; dsimp only at h; obtain ⟨⟨xs, ok⟩, A1, h⟩ := qay h; (try dsimp only at h); have A2 := ak_ h; clear h; go_enter Tryz.func64, Tryz.ntmps64
    go_wp2_with (first | (refine gl_ 82 Tryz.func113 #[.int .i64 n] rfl qbZ ?_; (refine (qcL.calls k n xs ok _ A1.out).mono ?_); rintro e w2 ⟨vx, rfl, hox, hb⟩; refine ⟨_, rfl, ?_⟩; have HX := ak_ (Kd.qdV hox (Nat.le_trans HBS.out (qab qan))); clear hox; obtain ⟨Ax, cx, ex⟩ := Kd.qdL HX.out; subst ex; replace HB := ak_ (qaa qan hb); clear hb) | (refine gl_ 85 Tryz.func112 #[.slice Ax xs.length cx, .bool ok] rfl qbZ ?_; (refine (qcm.calls k _ _ xs ok txt _ (by repeat (first | exact (Kd.qeG HX.out).2.2 | (with_reducible refine Kd.C_alloc ?_ _) | (with_reducible refine Kd.C_drewN ?_ _) | (with_reducible refine Kd.C_drew ?_))) (Kd.qeG HX.out).2.1 A2.out).mono ?_); rintro e w5 ⟨rfl, hb⟩; refine ⟨_, rfl, ?_⟩; replace HB := ak_ (qaa qan hb); clear hb))
    go_ret
    exact ⟨rfl, qan⟩
  | .cPi, h =>
    simp only [Cmd.word, Cmd.bytes]; dsimp only at h; obtain ⟨⟨v, ok⟩, A1, h⟩ := qay h; (try dsimp only at h); have A2 := ak_ h; clear h; go_enter Tryz.func64, Tryz.ntmps64
    go_wp2_with (first | (refine gl_ 92 Tryz.func114 #[.int .i64 n] rfl qbZ ?_; (refine (qc2.calls k n v ok _ A1.out).mono ?_); rintro e w2 ⟨rfl, hb⟩; refine ⟨_, rfl, ?_⟩; replace HB := ak_ (qaa qan hb); clear hb) | (refine gl_ 95 Tryz.func106 #[.int .i64 v, .bool ok] rfl qbZ ?_; (refine (qcF.calls k v ok txt _ A2.out).mono ?_); rintro e w5 ⟨rfl, hb⟩; refine ⟨_, rfl, ?_⟩; replace HB := ak_ (qaa qan hb); clear hb))
    go_ret
    exact ⟨rfl, qan⟩
  | .cDivisors, h =>
    simp only [Cmd.word, Cmd.bytes]; dsimp only at h; obtain ⟨⟨xs, ok⟩, A1, h⟩ := qay h; (try dsimp only at h); have A2 := ak_ h; clear h; go_enter Tryz.func64, Tryz.ntmps64
    go_wp2_with (first | (refine gl_ 102 Tryz.func115 #[.int .i64 n] rfl qbZ ?_; (refine (qdb.calls k n xs ok _ A1.out).mono ?_); rintro e w2 ⟨vx, rfl, hox, hb⟩; refine ⟨_, rfl, ?_⟩; have HX := ak_ (Kd.qax hox (Nat.le_trans HBS.out (qab qan))); clear hox; obtain ⟨Ax, cx, ex⟩ := Kd.qaI HX.out; subst ex; replace HB := ak_ (qaa qan hb); clear hb) | (refine gl_ 105 Tryz.func104 #[.slice Ax xs.length cx, .bool ok] rfl qbZ ?_; (refine (qdD.calls k _ _ xs ok txt _ qqM (Kd.qao HX.out).2.1 A2.out).mono ?_); rintro e w5 ⟨rfl, hb⟩; refine ⟨_, rfl, ?_⟩; replace HB := ak_ (qaa qan hb); clear hb))
    go_ret
    exact ⟨rfl, qan⟩
  | .cTotient, h =>
    simp only [Cmd.word, Cmd.bytes]; dsimp only at h; obtain ⟨⟨v, ok⟩, A1, h⟩ := qay h; (try dsimp only at h); have A2 := ak_ h; clear h; go_enter Tryz.func64, Tryz.ntmps64
    go_wp2_with (first | (refine gl_ 112 Tryz.func116 #[.int .i64 n] rfl qbZ ?_; (refine (qdw.calls k n v ok _ A1.out).mono ?_); rintro e w2 ⟨rfl, hb⟩; refine ⟨_, rfl, ?_⟩; replace HB := ak_ (qaa qan hb); clear hb) | (refine gl_ 115 Tryz.func106 #[.int .i64 v, .bool ok] rfl qbZ ?_; (refine (qcF.calls k v ok txt _ A2.out).mono ?_); rintro e w5 ⟨rfl, hb⟩; refine ⟨_, rfl, ?_⟩; replace HB := ak_ (qaa qan hb); clear hb))
    go_ret
    exact ⟨rfl, qan⟩
  | .cPattern, h =>
    simp only [Cmd.word, Cmd.bytes]; dsimp only at h; obtain ⟨⟨s, ok⟩, A1, h⟩ := qay h; dsimp only at h
    cases ok with
    | false =>
      rw [if_neg (by decide)] at h; obtain rfl := Option.some.inj h; go_enter Tryz.func64, Tryz.ntmps64
      go_wp2_with (first | (refine gl_ 124 Tryz.func117 #[.slice A0 rs.length c0, .int .i64 n] rfl qbZ ?_; (refine (qa1.calls k _ _ rs n s false _ qjp (Kd.qao HO.out).2.1 A1.out).mono ?_); rintro e w2 ⟨rfl, hb⟩; refine ⟨_, rfl, ?_⟩; replace HB := ak_ (qaa qan hb); clear hb))
      go_ret
      exact ⟨rfl, qan⟩
    | true =>
      rw [if_pos rfl] at h; obtain rfl := Option.some.inj h; go_enter Tryz.func64, Tryz.ntmps64
      go_wp2_with (first | (refine gl_ 124 Tryz.func117 #[.slice A0 rs.length c0, .int .i64 n] rfl qbZ ?_; (refine (qa1.calls k _ _ rs n s true _ qjp (Kd.qao HO.out).2.1 A1.out).mono ?_); rintro e w2 ⟨rfl, hb⟩; refine ⟨_, rfl, ?_⟩; replace HB := ak_ (qaa qan hb); clear hb))
      go_ret
      exact ⟨rfl, qan⟩
  | .cAnswer, h =>
    simp only [Cmd.word, Cmd.bytes]; dsimp only at h; obtain ⟨⟨pa, pb, pok⟩, A1, h⟩ := qay h; dsimp only at h
    cases pok with
    | false =>
      rw [if_neg (by decide)] at h; obtain rfl := Option.some.inj h; go_enter Tryz.func64, Tryz.ntmps64
      go_wp2_with (first | (refine gl_ 135 Tryz.func118 #[.string tx] rfl qbZ ?_; (refine (qaD.calls k tx pa pb false _ A1.out).mono ?_); rintro e w4 ⟨rfl, hb⟩; refine ⟨_, rfl, ?_⟩; replace HB := ak_ (qaa qan hb); clear hb) | ((with_reducible refine qal (N := 8) rfl ?_); refine bx_ 8 rfl (cs := #[.string (⟨#[]⟩ : ByteArray), .int .i64 0]) (t := 99) qbe ?_; intro gQ hg w5 hbox hb; have HGQ := ak_ (show w.heap.size ≤ gQ from qsK); have hq0 : w5.cell? ⟨gQ, 0, none⟩ = some (.string (⟨#[]⟩ : ByteArray)) := (qba hbox 0).trans rfl; have hq1 : w5.cell? ⟨gQ, 1, none⟩ = some (.int .i64 0) := (qba hbox 1).trans rfl; have hk0 := qad hbox 0; have hk1 := qad hbox 1; replace HB := ak_ (qaa qan hb); clear hb hbox hg))
      go_ret
      exact ⟨rfl, (qas (qas HB.out HGQ.out) HGQ.out)⟩
    | true =>
      rw [if_pos rfl] at h; obtain ⟨⟨xs, ok⟩, A2, h⟩ := qay h; dsimp only at h; have A3 := ak_ h; clear h; go_enter Tryz.func64, Tryz.ntmps64
      go_wp2_with (first | (refine gl_ 135 Tryz.func118 #[.string tx] rfl qbZ ?_; (refine (qaD.calls k tx pa pb true _ A1.out).mono ?_); rintro e w4 ⟨rfl, hb⟩; refine ⟨_, rfl, ?_⟩; replace HB := ak_ (qaa qan hb); clear hb) | ((with_reducible refine qal (N := 8) rfl ?_); refine bx_ 8 rfl (cs := #[.string (⟨#[]⟩ : ByteArray), .int .i64 0]) (t := 99) qbe ?_; intro gQ hg w5 hbox hb; have HGQ := ak_ (show w.heap.size ≤ gQ from qsK); have hq0 : w5.cell? ⟨gQ, 0, none⟩ = some (.string (⟨#[]⟩ : ByteArray)) := (qba hbox 0).trans rfl; have hq1 : w5.cell? ⟨gQ, 1, none⟩ = some (.int .i64 0) := (qba hbox 1).trans rfl; have hk0 := qad hbox 0; have hk1 := qad hbox 1; replace HB := ak_ (qaa qan hb); clear hb hbox hg) | (refine gl_ 141 Tryz.func119 #[.agg #[.string pa, .int .i64 pb]] rfl qbZ ?_; (refine (qdg.calls k pa pb xs ok _ A2.out).mono ?_); rintro e w6 ⟨vx, rfl, hox, hb⟩; refine ⟨_, rfl, ?_⟩; have hB2 := qaa (w := w) (by first | exact (qas (qas HB.out HGQ.out) HGQ.out) | apply_rules only [qai, qaf, qah, (qas (qas HB.out HGQ.out) HGQ.out)]) hb; have HX := ak_ hox; clear HB hox hb; have HB := ak_ hB2; clear hB2; obtain ⟨Ax, cx, ex⟩ := Kd.qaI HX.out; subst ex) | (refine gl_ 144 Tryz.func99 #[.slice Ax xs.length cx, .bool ok] rfl qbZ ?_; (refine (qch.calls k _ _ xs ok txt _ qqM (Kd.qao HX.out).2.1 A3.out).mono ?_); rintro e w7 ⟨rfl, hb⟩; refine ⟨_, rfl, ?_⟩; replace HB := ak_ (qaa qan hb); clear hb))
      go_ret
      exact ⟨rfl, qan⟩
def Cmd.moves : Cmd → Bool
  | .cRules => true
  | .cAdd => true
  | .cDrop => true
  | .cMost => true
  | .cMove => true
  | .cMirror => true
  | .cTidy => true
  | .cPrimes => true
  | _ => false
def qea.f (k : Nat) (rs : List qac) (mo : Int) (s : ByteArray) : Option (List qac × Int × ByteArray) := if rs.length < 8796093022208 then ((qgi.f k s).bind fun r => match r with
  | none => some (rs, mo, (⟨#[119, 104, 97, 116]⟩ : ByteArray))
  | some (c, lr, tx, n) => if c.moves = true then qdB.f k rs mo lr n c else (qgM.f k rs mo tx n c).bind fun z => some (rs, mo, z)) else none
theorem qm7 (k base : Nat) (A0 : Option Addr) (c0 : Nat) (rs : List qac) (mo : Int) (s : ByteArray) (rs2 : List qac) (mo2 : Int) (txt : ByteArray) (w : World) (hbase : base ≤ w.heap.size) (hR : Kd.R qaL 85 w base (fun _ => True) (.slice A0 rs.length c0) rs) (h : qea.f k rs mo s = some (rs2, mo2, txt)) :
    Calls Tryz.prog 40 #[.agg #[.slice A0 rs.length c0, .int .i64 mo], .string s] w fun e w' => ∃ A2 c2, e = .returned (.tuple #[.agg #[.slice A2 rs2.length c2, .int .i64 mo2], .string txt]) ∧ Kd.R qaL 85 w' base (fun _ => True) (.slice A2 rs2.length c2) rs2 ∧ Below w.heap.size w w' := by
  have hu := Tryz.underlying81; have hu2 := Tryz.underlying28; have HO := ak_ hR; have HBS := ak_ hbase; have HB := br_ w; clear hR hbase; unfold qea.f at h; by_cases hl : rs.length < 8796093022208; rotate_left
  · rw [if_neg hl] at h
    exact absurd h (by simp)
  rw [if_pos hl] at h; have HLn := ak_ hl; clear hl; obtain ⟨r, AR, h⟩ := qay h
  cases r with
  | none =>
    dsimp only at h; obtain ⟨rfl, rfl, rfl⟩ := qfJ h; go_enter Tryz.func40, Tryz.ntmps40
    go_wp2_with (first | ((with_reducible refine qal (N := 2) rfl ?_); (try (refine qbH (by rfl) ?_; dsimp only)); refine qdI ?hg (N := 2) ?hd (cs := #[.slice A0 rs.length c0, .int .i64 mo]) (t := 28) ?hr ?_; (case hd => rfl); (case hg => rfl); (case hr => first | (go_simp; done) | (go_simp; rfl)); intro g2 hg w2 hbox hb; have B2 := ak_ hbox; have G2 := ak_ (show w.heap.size ≤ g2 from by rw [hg]; exact qab (by apply_rules only [HB.out, qai, qaf, qah])); replace HO := HO.mw hb; replace HB := ak_ (qaa (by apply_rules only [HB.out, qai, qaf, qah]) hb); obtain ⟨qpR, qpH⟩ := qcx B2.out; have qpS := qbC B2.out; have qpI := qad B2.out 1; clear hb hbox hg) | ((with_reducible refine qal (N := 4) rfl ?_); (try (refine qbH (by rfl) ?_; dsimp only)); refine qdI ?hg (N := 4) ?hd (cs := #[(.slice none 0 0), (.int .i64 0)]) (t := 28) ?hr ?_; (case hd => rfl); (case hg => rfl); (case hr => first | (go_simp; done) | (go_simp; rfl)); intro g4 hg w4 hbox hb; have B4 := ak_ hbox; have G4 := ak_ (show w.heap.size ≤ g4 from by rw [hg]; exact qab (by apply_rules only [HB.out, qai, qaf, qah])); have NE24 := ak_ (show g2 ≠ g4 from by rw [hg]; exact Nat.ne_of_lt (qdU (by apply_rules only [B2.out, qak, qam, qaj]))); replace B2 := B2.mw hb; replace HO := HO.mw hb; replace HB := ak_ (qaa (by apply_rules only [HB.out, qai, qaf, qah]) hb); obtain ⟨haw4_0, faw4_0⟩ := qcx B2.out; have haw4_1 := qbC B2.out; have faw4_1 := qad B2.out 1; clear hb hbox hg) | ((with_reducible refine qdC (f := 62) rfl ?_); (try (refine qbH (by rfl) ?_; dsimp only)); refine qgK (some 13) rfl rfl Tryz.func62 (by kernel_rfl) rfl #[.agg #[.slice A0 rs.length c0, .int .i64 mo], .string s] rfl (by (try simp only [List.map_toArray, List.map_cons, List.map_nil]); first | done | rfl) ?_; (refine (qhv k A0 c0 rs mo s _ _ AR.out).mono ?_); rintro e w13 ⟨x, A1, n1, c1, tx1, nn1, b, rfl, hc, hb⟩; refine ⟨_, rfl, ?_⟩; obtain rfl : b = false := (by rcases hc with ⟨-, h1_⟩ | ⟨c_, lr_, h1_, -⟩; (exact h1_); (exact absurd h1_ (by simp))); clear hc; replace B2 := B2.mw hb; replace B4 := B4.mw hb; replace HO := HO.mw hb; replace HB := ak_ (qaa (by apply_rules only [HB.out, qai, qaf, qah]) hb); clear hb) | ((with_reducible refine qal (N := 7) rfl ?_); (try (refine qbH (by rfl) ?_; dsimp only)); refine qdI ?hg (N := 7) ?hd (cs := #[(.slice none 0 0), (.int .i64 0), (.slice none 0 0), (.string (⟨#[]⟩ : ByteArray)), (.int .i64 0)]) (t := 81) ?hr ?_; (case hd => rfl); (case hg => rfl); (case hr => first | (go_simp; done) | (go_simp; rfl)); intro g7 hg w7 hbox hb; have B7 := ak_ hbox; have G7 := ak_ (show w.heap.size ≤ g7 from by rw [hg]; exact qab (by apply_rules only [HB.out, qai, qaf, qah])); have NE27 := ak_ (show g2 ≠ g7 from by rw [hg]; exact Nat.ne_of_lt (qdU (by apply_rules only [B2.out, qak, qam, qaj]))); have qqo := ak_ (show g4 ≠ g7 from by rw [hg]; exact Nat.ne_of_lt (qdU (by apply_rules only [B4.out, qak, qam, qaj]))); have ne1_ : ¬ g7 = g2 := fun e_ => NE27.out e_.symm; have ne2_ := NE27.out; have ne3_ : ¬ g7 = g4 := fun e_ => qqo.out e_.symm; have ne4_ := qqo.out; have ne5_ := NE24.out; have ne6_ : ¬ g4 = g2 := fun e_ => NE24.out e_.symm; replace B2 := B2.mw hb; replace B4 := B4.mw hb; replace HO := HO.mw hb; replace HB := ak_ (qaa (by apply_rules only [HB.out, qai, qaf, qah]) hb); obtain ⟨qpT, qpJ⟩ := qcx B7.out; have qpU := qbC B7.out; have qpK := qad B7.out 1; have qpV := qfl B7.out; have qpL := qad B7.out 2; have qpW := qft B7.out; have qpM := qad B7.out 3; have qpX := qfu B7.out; have qpN := qad B7.out 4; obtain ⟨haw7_0, faw7_0⟩ := qcx B2.out; have haw7_1 := qbC B2.out; have faw7_1 := qad B2.out 1; obtain ⟨hzw7_0, fzw7_0⟩ := qcx B4.out; have hzw7_1 := qbC B4.out; have fzw7_1 := qad B4.out 1; have HRT := ak_ (Kd.qcw (Kd.qcw HO.out B4.out (by decide)) B7.out (by decide)); clear hb hbox hg))
    refine bodyPost_ret (qb4 (rs := [.cell 4 28, .tmp 5]) rfl (by simp) (.cell g4 28 #[(.slice A0 rs.length c0), (.int .i64 mo)] (0, 0) _ rfl (by apply ho_; (with_reducible repeat (first | exact B4.out | refine qak ?_ _ | refine qam ?_ | refine qaj ?_ _ | apply qeB | apply qcZ (hp := qqo.out))); rfl) Tryz.underlying28 rfl (by kernel_rfl) (.tmp .nil))) rfl ?_; exact ⟨A0, c0, rfl, (Kd.qa9 (ok := fun k_ => (True ∧ k_ ≠ g4) ∧ k_ ≠ g7) (by with_reducible repeat (first | exact HRT.out | apply Kd.qap | apply Kd.qaq | apply Kd.qaw | refine Kd.qcV (p := ⟨g7, _, none⟩) ?_ (fun _ hk => hk.2) _ | refine Kd.qcV (p := ⟨g4, _, none⟩) ?_ (fun _ hk => hk.1.2) _)) (fun _ _ => trivial)), (by with_reducible repeat (first | exact HB.out | refine qas ?_ G7.out | refine qas ?_ G4.out | apply qai | apply qaf | apply qah))⟩
  | some q =>
    obtain ⟨c, lr, tx, n⟩ := q; dsimp only at h; by_cases hm : c.moves = true
    ·rw [if_pos hm] at h; have HF := ak_ h; clear h; have HM := ak_ (fun (w_ : World) (g_ : Nat) (h1_ : base ≤ w_.heap.size) (h2_ : qjY w_ base g_ rs mo lr tx n) => qo8 k base g_ rs mo lr tx n c rs2 mo2 txt w_ h1_ h2_ HLn.out HF.out)
     cases c <;> first | (exact absurd hm (by decide)) | (clear hm; go_enter Tryz.func40, Tryz.ntmps40; go_wp2_with (first | ((with_reducible refine qal (N := 2) rfl ?_); (try (refine qbH (by rfl) ?_; dsimp only)); refine qdI ?hg (N := 2) ?hd (cs := #[.slice A0 rs.length c0, .int .i64 mo]) (t := 28) ?hr ?_; (case hd => rfl); (case hg => rfl); (case hr => first | (go_simp; done) | (go_simp; rfl)); intro g2 hg w2 hbox hb; have B2 := ak_ hbox; have G2 := ak_ (show w.heap.size ≤ g2 from by rw [hg]; exact qab (by apply_rules only [HB.out, qai, qaf, qah])); replace HO := HO.mw hb; replace HB := ak_ (qaa (by apply_rules only [HB.out, qai, qaf, qah]) hb); obtain ⟨qpR, qpH⟩ := qcx B2.out; have qpS := qbC B2.out; have qpI := qad B2.out 1; clear hb hbox hg) | ((with_reducible refine qal (N := 4) rfl ?_); (try (refine qbH (by rfl) ?_; dsimp only)); refine qdI ?hg (N := 4) ?hd (cs := #[(.slice none 0 0), (.int .i64 0)]) (t := 28) ?hr ?_; (case hd => rfl); (case hg => rfl); (case hr => first | (go_simp; done) | (go_simp; rfl)); intro g4 hg w4 hbox hb; have B4 := ak_ hbox; have G4 := ak_ (show w.heap.size ≤ g4 from by rw [hg]; exact qab (by apply_rules only [HB.out, qai, qaf, qah])); have NE24 := ak_ (show g2 ≠ g4 from by rw [hg]; exact Nat.ne_of_lt (qdU (by apply_rules only [B2.out, qak, qam, qaj]))); replace B2 := B2.mw hb; replace HO := HO.mw hb; replace HB := ak_ (qaa (by apply_rules only [HB.out, qai, qaf, qah]) hb); obtain ⟨haw4_0, faw4_0⟩ := qcx B2.out; have haw4_1 := qbC B2.out; have faw4_1 := qad B2.out 1; clear hb hbox hg) | ((with_reducible refine qdC (f := 62) rfl ?_); (try (refine qbH (by rfl) ?_; dsimp only)); refine qgK (some 13) rfl rfl Tryz.func62 (by kernel_rfl) rfl #[.agg #[.slice A0 rs.length c0, .int .i64 mo], .string s] rfl (by (try simp only [List.map_toArray, List.map_cons, List.map_nil]); first | done | rfl) ?_; (refine (qhv k A0 c0 rs mo s _ _ AR.out).mono ?_); rintro e w13 ⟨x, A1, n1, c1, tx1, nn1, b, rfl, hc, hb⟩; refine ⟨_, rfl, ?_⟩; obtain ⟨rfl, rfl, rfl, rfl, rfl, hrl⟩ : x = Cmd.word _ ∧ b = true ∧ n1 = lr.length ∧ tx = tx1 ∧ n = nn1 ∧ Kd.R qaL 85 w13 _ (fun _ => True) (.slice A1 lr.length c1) lr := (by rcases hc with ⟨h1_, -⟩ | ⟨c_, lr_, h1_, h2_, h3_, h4_, h5_⟩; (exact absurd h1_ (by simp)); (obtain ⟨rfl, rfl, h6_, h7_⟩ := pj4_ h1_; exact ⟨h3_, h2_, h4_, h6_, h7_, h5_⟩)); have HL := ak_ (Kd.qax hrl (Nat.le_trans HBS.out (qab (by apply_rules only [HB.out, qai, qaf, qah])))); clear hc hrl; simp only [Cmd.word, Cmd.bytes] at HM; simp only [Cmd.word, Cmd.bytes]; replace B2 := B2.mw hb; replace B4 := B4.mw hb; replace HO := HO.mw hb; replace HB := ak_ (qaa (by apply_rules only [HB.out, qai, qaf, qah]) hb); clear hb) | ((with_reducible refine qal (N := 7) rfl ?_); (try (refine qbH (by rfl) ?_; dsimp only)); refine qdI ?hg (N := 7) ?hd (cs := #[(.slice none 0 0), (.int .i64 0), (.slice none 0 0), (.string (⟨#[]⟩ : ByteArray)), (.int .i64 0)]) (t := 81) ?hr ?_; (case hd => rfl); (case hg => rfl); (case hr => first | (go_simp; done) | (go_simp; rfl)); intro g7 hg w7 hbox hb; have B7 := ak_ hbox; have G7 := ak_ (show w.heap.size ≤ g7 from by rw [hg]; exact qab (by apply_rules only [HB.out, qai, qaf, qah])); have NE27 := ak_ (show g2 ≠ g7 from by rw [hg]; exact Nat.ne_of_lt (qdU (by apply_rules only [B2.out, qak, qam, qaj]))); have qqo := ak_ (show g4 ≠ g7 from by rw [hg]; exact Nat.ne_of_lt (qdU (by apply_rules only [B4.out, qak, qam, qaj]))); have ne1_ : ¬ g7 = g2 := fun e_ => NE27.out e_.symm; have ne2_ := NE27.out; have ne3_ : ¬ g7 = g4 := fun e_ => qqo.out e_.symm; have ne4_ := qqo.out; have ne5_ := NE24.out; have ne6_ : ¬ g4 = g2 := fun e_ => NE24.out e_.symm; replace B2 := B2.mw hb; replace B4 := B4.mw hb; replace HO := HO.mw hb; replace HL := HL.mw hb; replace HB := ak_ (qaa (by apply_rules only [HB.out, qai, qaf, qah]) hb); obtain ⟨qpT, qpJ⟩ := qcx B7.out; have qpU := qbC B7.out; have qpK := qad B7.out 1; have qpV := qfl B7.out; have qpL := qad B7.out 2; have qpW := qft B7.out; have qpM := qad B7.out 3; have qpX := qfu B7.out; have qpN := qad B7.out 4; obtain ⟨haw7_0, faw7_0⟩ := qcx B2.out; have haw7_1 := qbC B2.out; have faw7_1 := qad B2.out 1; obtain ⟨hzw7_0, fzw7_0⟩ := qcx B4.out; have hzw7_1 := qbC B4.out; have fzw7_1 := qad B4.out 1; have HRT := ak_ (Kd.qcw (Kd.qcw HO.out B4.out (by decide)) B7.out (by decide)); have HLT := ak_ (Kd.qcw (Kd.qcw HL.out B4.out (by decide)) B7.out (by decide)); clear hb hbox hg) | ((with_reducible refine qdC (f := 63) rfl ?_); (try (refine qbH (by rfl) ?_; dsimp only)); refine qgK (some 31) rfl rfl Tryz.func63 (by kernel_rfl) rfl #[.pointer (some ⟨g7, 0, none⟩), _] rfl (by (try simp only [List.map_toArray, List.map_cons, List.map_nil]); first | done | rfl) ?_; (refine (HM.out _ g7 (Nat.le_trans HBS.out (qab (by with_reducible repeat (first | exact HB.out | refine qas ?_ G7.out | refine qas ?_ G4.out | apply qai | apply qaf | apply qah)))) ⟨A0, c0, A1, c1, (by apply ho_; (with_reducible repeat (first | exact B7.out | refine qak ?_ _ | refine qam ?_ | refine qaj ?_ _ | apply qeB)); rfl), (Kd.qa9 (ok := fun k_ => (True ∧ k_ ≠ g4) ∧ k_ ≠ g7) (by with_reducible repeat (first | exact HRT.out | apply Kd.qap | apply Kd.qaq | apply Kd.qaw | refine Kd.qcV (p := ⟨g7, _, none⟩) ?_ (fun _ hk => hk.2) _ | refine Kd.qcV (p := ⟨g4, _, none⟩) ?_ (fun _ hk => hk.1.2) _)) (fun _ _ => trivial)), (Kd.qa9 (ok := fun k_ => (True ∧ k_ ≠ g4) ∧ k_ ≠ g7) (by with_reducible repeat (first | exact HLT.out | apply Kd.qap | apply Kd.qaq | apply Kd.qaw | refine Kd.qcV (p := ⟨g7, _, none⟩) ?_ (fun _ hk => hk.2) _ | refine Kd.qcV (p := ⟨g4, _, none⟩) ?_ (fun _ hk => hk.1.2) _)) (fun _ _ => trivial))⟩).mono ?_); rintro e w31 ⟨rfl, hD, hk⟩; refine ⟨_, rfl, ?_⟩; have hB4 := qeA.blk (o := .cells #[(.slice none 0 0), (.int .i64 0)] 28 (0, 0)) hk.1 (by (with_reducible repeat (first | refine qak ?_ _ | refine qam ?_ | refine qaj ?_ _ | refine qcZ ?_ (by exact qqo.out) _)); exact B4.out) qqo.out (by simp); have hB2 := qcv.below (by with_reducible repeat (first | exact HB.out | refine qas ?_ G7.out | refine qas ?_ G4.out | apply qai | apply qaf | apply qah)) hk G7.out (qab (by with_reducible repeat (first | exact HB.out | refine qas ?_ G7.out | refine qas ?_ G4.out | apply qai | apply qaf | apply qah))); clear B4 HB B7 B2 HO HL HRT HLT; have B4 := ak_ hB4; have HB := ak_ hB2; clear hB4 hB2; obtain ⟨A2, c2, A3, c3, hC_, hO_, -⟩ := hD; have B7 := ak_ hC_; have HO := ak_ hO_; have HRT := ak_ (Kd.qcw (Kd.qcw HO.out B4.out (by decide)) B7.out (by decide)); clear hC_ hO_ hk; obtain ⟨hbw31_0, fbw31_0⟩ := qcx B7.out; have hbw31_1 := qbC B7.out; have fbw31_1 := qad B7.out 1; obtain ⟨hzw31_0, fzw31_0⟩ := qcx B4.out; have hzw31_1 := qbC B4.out; have fzw31_1 := qad B4.out 1)); refine bodyPost_ret (qb4 (rs := [.cell 4 28, .tmp 5]) rfl (by simp) (.cell g4 28 #[(.slice A2 rs2.length c2), (.int .i64 mo2)] (0, 0) _ rfl (by apply ho_; (with_reducible repeat (first | exact B4.out | refine qak ?_ _ | refine qam ?_ | refine qaj ?_ _ | apply qeB)); rfl) Tryz.underlying28 rfl (by kernel_rfl) (.tmp .nil))) rfl ?_; exact ⟨A2, c2, rfl, (Kd.qa9 (ok := fun k_ => (True ∧ k_ ≠ g4) ∧ k_ ≠ g7) (by with_reducible repeat (first | exact HRT.out | apply Kd.qap | apply Kd.qaq | apply Kd.qaw | refine Kd.qcV (p := ⟨g7, _, none⟩) ?_ (fun _ hk => hk.2) _ | refine Kd.qcV (p := ⟨g4, _, none⟩) ?_ (fun _ hk => hk.1.2) _)) (fun _ _ => trivial)), (by with_reducible repeat (first | exact HB.out | refine qas ?_ G7.out | refine qas ?_ G4.out | apply qai | apply qaf | apply qah))⟩)
    rw [if_neg hm] at h; obtain ⟨z, HF, h⟩ := qay h; obtain ⟨rfl, rfl, rfl⟩ := qfJ h
    have n0 : (c.word.toList == ([114, 117, 108, 101, 115] : List UInt8)) = false := by rw [toList_data]; cases c <;> first | rfl | (exact absurd rfl hm)
    have n1 : (c.word.toList == ([97, 100, 100] : List UInt8)) = false := by rw [toList_data]; cases c <;> first | rfl | (exact absurd rfl hm)
    have n2 : (c.word.toList == ([100, 114, 111, 112] : List UInt8)) = false := by rw [toList_data]; cases c <;> first | rfl | (exact absurd rfl hm)
    have n3 : (c.word.toList == ([109, 111, 115, 116] : List UInt8)) = false := by rw [toList_data]; cases c <;> first | rfl | (exact absurd rfl hm)
    have n4 : (c.word.toList == ([109, 111, 118, 101] : List UInt8)) = false := by rw [toList_data]; cases c <;> first | rfl | (exact absurd rfl hm)
    have n5 : (c.word.toList == ([109, 105, 114, 114, 111, 114] : List UInt8)) = false := by rw [toList_data]; cases c <;> first | rfl | (exact absurd rfl hm)
    have n6 : (c.word.toList == ([116, 105, 100, 121] : List UInt8)) = false := by rw [toList_data]; cases c <;> first | rfl | (exact absurd rfl hm)
    have n7 : (c.word.toList == ([112, 114, 105, 109, 101, 115] : List UInt8)) = false := by rw [toList_data]; cases c <;> first | rfl | (exact absurd rfl hm)
    clear hm; go_enter Tryz.func40, Tryz.ntmps40
    go_wp2_with (first | ((with_reducible refine qal (N := 2) rfl ?_); (try (refine qbH (by rfl) ?_; dsimp only)); refine qdI ?hg (N := 2) ?hd (cs := #[.slice A0 rs.length c0, .int .i64 mo]) (t := 28) ?hr ?_; (case hd => rfl); (case hg => rfl); (case hr => first | (go_simp; done) | (go_simp; rfl)); intro g2 hg w2 hbox hb; have B2 := ak_ hbox; have G2 := ak_ (show w.heap.size ≤ g2 from by rw [hg]; exact qab (by apply_rules only [HB.out, qai, qaf, qah])); replace HO := HO.mw hb; replace HB := ak_ (qaa (by apply_rules only [HB.out, qai, qaf, qah]) hb); obtain ⟨qpR, qpH⟩ := qcx B2.out; have qpS := qbC B2.out; have qpI := qad B2.out 1; clear hb hbox hg) | ((with_reducible refine qal (N := 4) rfl ?_); (try (refine qbH (by rfl) ?_; dsimp only)); refine qdI ?hg (N := 4) ?hd (cs := #[(.slice none 0 0), (.int .i64 0)]) (t := 28) ?hr ?_; (case hd => rfl); (case hg => rfl); (case hr => first | (go_simp; done) | (go_simp; rfl)); intro g4 hg w4 hbox hb; have B4 := ak_ hbox; have G4 := ak_ (show w.heap.size ≤ g4 from by rw [hg]; exact qab (by apply_rules only [HB.out, qai, qaf, qah])); have NE24 := ak_ (show g2 ≠ g4 from by rw [hg]; exact Nat.ne_of_lt (qdU (by apply_rules only [B2.out, qak, qam, qaj]))); replace B2 := B2.mw hb; replace HO := HO.mw hb; replace HB := ak_ (qaa (by apply_rules only [HB.out, qai, qaf, qah]) hb); obtain ⟨haw4_0, faw4_0⟩ := qcx B2.out; have haw4_1 := qbC B2.out; have faw4_1 := qad B2.out 1; clear hb hbox hg) | ((with_reducible refine qdC (f := 62) rfl ?_); (try (refine qbH (by rfl) ?_; dsimp only)); refine qgK (some 13) rfl rfl Tryz.func62 (by kernel_rfl) rfl #[.agg #[.slice A0 rs.length c0, .int .i64 mo], .string s] rfl (by (try simp only [List.map_toArray, List.map_cons, List.map_nil]); first | done | rfl) ?_; (refine (qhv k A0 c0 rs mo s _ _ AR.out).mono ?_); rintro e w13 ⟨x, A1, n1, c1, tx1, nn1, b, rfl, hc, hb⟩; refine ⟨_, rfl, ?_⟩; obtain ⟨rfl, rfl, rfl, rfl, rfl, hrl⟩ : x = c.word ∧ b = true ∧ n1 = lr.length ∧ tx = tx1 ∧ n = nn1 ∧ Kd.R qaL 85 w13 _ (fun _ => True) (.slice A1 lr.length c1) lr := (by rcases hc with ⟨h1_, -⟩ | ⟨c_, lr_, h1_, h2_, h3_, h4_, h5_⟩; (exact absurd h1_ (by simp)); (obtain ⟨rfl, rfl, h6_, h7_⟩ := pj4_ h1_; exact ⟨h3_, h2_, h4_, h6_, h7_, h5_⟩)); have HL := ak_ (Kd.qax hrl (Nat.le_trans HBS.out (qab (by apply_rules only [HB.out, qai, qaf, qah])))); clear hc hrl; replace B2 := B2.mw hb; replace B4 := B4.mw hb; replace HO := HO.mw hb; replace HB := ak_ (qaa (by apply_rules only [HB.out, qai, qaf, qah]) hb); clear hb) | ((with_reducible refine qal (N := 7) rfl ?_); (try (refine qbH (by rfl) ?_; dsimp only)); refine qdI ?hg (N := 7) ?hd (cs := #[(.slice none 0 0), (.int .i64 0), (.slice none 0 0), (.string (⟨#[]⟩ : ByteArray)), (.int .i64 0)]) (t := 81) ?hr ?_; (case hd => rfl); (case hg => rfl); (case hr => first | (go_simp; done) | (go_simp; rfl)); intro g7 hg w7 hbox hb; have B7 := ak_ hbox; have G7 := ak_ (show w.heap.size ≤ g7 from by rw [hg]; exact qab (by apply_rules only [HB.out, qai, qaf, qah])); have NE27 := ak_ (show g2 ≠ g7 from by rw [hg]; exact Nat.ne_of_lt (qdU (by apply_rules only [B2.out, qak, qam, qaj]))); have qqo := ak_ (show g4 ≠ g7 from by rw [hg]; exact Nat.ne_of_lt (qdU (by apply_rules only [B4.out, qak, qam, qaj]))); have ne1_ : ¬ g7 = g2 := fun e_ => NE27.out e_.symm; have ne2_ := NE27.out; have ne3_ : ¬ g7 = g4 := fun e_ => qqo.out e_.symm; have ne4_ := qqo.out; have ne5_ := NE24.out; have ne6_ : ¬ g4 = g2 := fun e_ => NE24.out e_.symm; replace B2 := B2.mw hb; replace B4 := B4.mw hb; replace HO := HO.mw hb; replace HL := HL.mw hb; replace HB := ak_ (qaa (by apply_rules only [HB.out, qai, qaf, qah]) hb); obtain ⟨qpT, qpJ⟩ := qcx B7.out; have qpU := qbC B7.out; have qpK := qad B7.out 1; have qpV := qfl B7.out; have qpL := qad B7.out 2; have qpW := qft B7.out; have qpM := qad B7.out 3; have qpX := qfu B7.out; have qpN := qad B7.out 4; obtain ⟨haw7_0, faw7_0⟩ := qcx B2.out; have haw7_1 := qbC B2.out; have faw7_1 := qad B2.out 1; obtain ⟨hzw7_0, fzw7_0⟩ := qcx B4.out; have hzw7_1 := qbC B4.out; have fzw7_1 := qad B4.out 1; have HRT := ak_ (Kd.qcw (Kd.qcw HO.out B4.out (by decide)) B7.out (by decide)); have HLT := ak_ (Kd.qcw (Kd.qcw HL.out B4.out (by decide)) B7.out (by decide)); clear hb hbox hg))
    go_region_law (go_simp; go_at_call 64; refine (qon k base g7 rs mo lr tx n c z _ (Nat.le_trans HBS.out (qab (by with_reducible repeat (first | exact HB.out | refine qas ?_ G7.out | refine qas ?_ G4.out | apply qai | apply qaf | apply qah)))) ⟨A0, c0, A1, c1, (by apply ho_; (with_reducible repeat (first | exact B7.out | refine qak ?_ _ | refine qam ?_ | refine qaj ?_ _ | apply qeB)); rfl), (Kd.qa9 (ok := fun k_ => (True ∧ k_ ≠ g4) ∧ k_ ≠ g7) (by with_reducible repeat (first | exact HRT.out | apply Kd.qap | apply Kd.qaq | apply Kd.qaw | refine Kd.qcV (p := ⟨g7, _, none⟩) ?_ (fun _ hk => hk.2) _ | refine Kd.qcV (p := ⟨g4, _, none⟩) ?_ (fun _ hk => hk.1.2) _)) (fun _ _ => trivial)), (Kd.qa9 (ok := fun k_ => (True ∧ k_ ≠ g4) ∧ k_ ≠ g7) (by with_reducible repeat (first | exact HLT.out | apply Kd.qap | apply Kd.qaq | apply Kd.qaw | refine Kd.qcV (p := ⟨g7, _, none⟩) ?_ (fun _ hk => hk.2) _ | refine Kd.qcV (p := ⟨g4, _, none⟩) ?_ (fun _ hk => hk.1.2) _)) (fun _ _ => trivial))⟩ HF.out).mono ?_; rintro e w37 ⟨rfl, hb⟩; have HRT2 := ak_ (Kd.qbv (show Kd.R qaL 85 _ base (fun k_ => (True ∧ k_ ≠ g4) ∧ k_ ≠ g7) (.slice A0 rs.length c0) rs from (by with_reducible repeat (first | exact HRT.out | apply Kd.qap | apply Kd.qaq | apply Kd.qaw | refine Kd.qcV (p := ⟨g7, _, none⟩) ?_ (fun _ hk => hk.2) _))) hb); have hB4 := qar (o := .cells #[(.slice none 0 0), (.int .i64 0)] 28 (0, 0)) (by with_reducible (repeat (first | exact B4.out | refine qcZ ?_ qqo.out _ | exact qam (by with_reducible (repeat (first | exact B4.out | refine qcZ ?_ qqo.out _)))))) hb; have hB2 := qar (o := .cells #[(.slice A0 rs.length c0), (.int .i64 mo)] 28 (0, 0)) (by with_reducible (repeat (first | exact B2.out | refine qcZ ?_ NE27.out _ | exact qam (by with_reducible (repeat (first | exact B2.out | refine qcZ ?_ NE27.out _)))))) hb; have hBB := qaa (by with_reducible repeat (first | exact HB.out | refine qas ?_ G7.out | refine qas ?_ G4.out | apply qai | apply qaf | apply qah)) hb; clear B4 B2 B7 HB HO HL HRT HLT hb; have HRT := HRT2; have B4 := ak_ hB4; have B2 := ak_ hB2; have HB := ak_ hBB; clear HRT2 hB4 hB2 hBB; obtain ⟨haw37_0, faw37_0⟩ := qcx B2.out; have haw37_1 := qbC B2.out; have faw37_1 := qad B2.out 1; obtain ⟨hzw37_0, fzw37_0⟩ := qcx B4.out; have hzw37_1 := qbC B4.out; have fzw37_1 := qad B4.out 1)
    all_goals (go_wp2; refine bodyPost_ret (qb4 (rs := [.cell 4 28, .tmp 5]) rfl (by simp) (.cell g4 28 #[(.slice A0 rs.length c0), (.int .i64 mo)] (0, 0) _ rfl (by apply ho_; (with_reducible repeat (first | exact B4.out | refine qak ?_ _ | refine qam ?_ | refine qaj ?_ _ | apply qeB)); rfl) Tryz.underlying28 rfl (by kernel_rfl) (.tmp .nil))) rfl ?_; exact ⟨A0, c0, rfl, (Kd.qa9 (ok := fun k_ => (True ∧ k_ ≠ g4) ∧ k_ ≠ g7) (by with_reducible repeat (first | exact HRT.out | apply Kd.qap | apply Kd.qaq | apply Kd.qaw | refine Kd.qcV (p := ⟨g7, _, none⟩) ?_ (fun _ hk => hk.2) _ | refine Kd.qcV (p := ⟨g4, _, none⟩) ?_ (fun _ hk => hk.1.2) _)) (fun _ _ => trivial)), (by with_reducible repeat (first | exact HB.out | refine qas ?_ G7.out | refine qas ?_ G4.out | apply qai | apply qaf | apply qah))⟩)
def qdP.f (k : Nat)  : Option ((List (qac)) × Int) := (qci.f k 2).bind fun qaR => (some (qaR, 30))
theorem qdP.calls (k : Nat)  (r1 : List (qac)) (r2 : Int) (w : World) (h : qdP.f k  = some (r1, r2)) :
  Calls Tryz.prog 91 #[] w fun e w' => ∃ v0_ : Value, e = .returned (.agg #[v0_, .int .i64 r2]) ∧ Kd.R qaL 85 w' w.heap.size (fun _ => True) v0_ r1 ∧ Below w.heap.size w w' := by
 have hu28 := Tryz.underlying28; have HB := br_ w; have H : ((qci.f k 2).bind fun qaR => (some (qaR, 30))) = some (r1, r2) := h; clear h; obtain ⟨qaR, A1, H⟩ := qay H; (try dsimp only at H); obtain ⟨rfl, rfl⟩ := qdF H; go_enter Tryz.func91, Tryz.ntmps91
 go_wp2_with (first | ((with_reducible refine qal (N := 0) rfl ?_); refine bx_ 0 rfl (cs := #[.slice none 0 0, .int .i64 0]) (t := 28) qbe ?_; intro qb6 hg w2 hbox hb; have qaG := ak_ (hbox); have qeO := ak_ (HB.ge hg); have qem := ak_ (HB.ge hg); replace HB := HB.mw hb; clear hb hbox hg) | (refine gl_ 1 Tryz.func143 #[.int .i64 2] rfl qbK ?_; (with_reducible refine (qci.calls k 2 qaR _ A1.out).mono ?_); rintro e w3 ⟨qhm, rfl, ho0, hb⟩; refine ⟨_, rfl, ?_⟩; have qb1 := ak_ (Kd.qax ho0 (qab qds)); replace qaG := qaG.mw hb; replace HB := ak_ (qaa qds hb); (try clear hb ho0); obtain ⟨Ao4, co4, eo4⟩ := Kd.qaI qb1.out; subst eo4; obtain ⟨qsb, qsc, qsj, qsk⟩ := qbG qaG.out))
 refine bodyPost_ret (results_cell_row rfl _ _ qb6 28 #[.slice Ao4 qaR.length co4, .int .i64 30] (0, 0) _ rfl k5_ Tryz.underlying28 rfl (by kernel_rfl)) rfl ?_; exact ⟨_, qcf, by (with_reducible repeat (first | apply Kd.qap | apply Kd.qaq | apply Kd.qaw)); exact Kd.qa9 (Kd.qcV (p := ⟨qb6, 1, none⟩) (Kd.qcV (p := ⟨qb6, 0, none⟩) (Kd.qcw qb1.out qaG.out (by decide)) (fun _ hk => hk.2) (.slice Ao4 qaR.length co4)) (fun _ hk => hk.2) (.int .i64 30)) (fun _ hk => trivial), qds⟩
end
end Go.Proofs.YtjeoabbnalamcaaGreatDoor.P
