/- What functions of the program answer. Proved in this text: its theorems. Conditions: as each theorem states them. -/
import Derived.Test.YtbnmajedmajfoaaGreatDoorCFnPatternsAnsweredP
namespace Go.Proofs.YtbnmajedmajfoaaGreatDoor.P
open Go.RowKit Go.Proofs.YtbnmajedmajfoaaGreatDoorW.qaG Go.Proofs.YtbnmajedmajfoaaGreatDoorW.PrintLast Go.Proofs.YtbnmajedmajfoaaGreatDoorW.PrintMore
set_option linter.unusedVariables false
set_option linter.unusedSimpArgs false
set_option maxHeartbeats 8000000
set_option maxRecDepth 100000
section
attribute [local go_sem] qfe qfg qf0 qf1 qeA qeB qff qfh
theorem eqA23 (d : Nat) (w : World) (x0 y0 : ByteArray) (x1 y1 : Int) :
    (Op.equalIn (d + 2) 23 (.agg #[.string x0, .int .i64 x1]) (.agg #[.string y0, .int .i64 y1])).run Tryz.prog w = .ok (x0.toList == y0.toList && (x1 == y1)) w := by
  refine eqA_of Tryz.underlying23 (by kernel_rfl) ?_; refine qqL (by rfl) (by go_simp; rfl) (by go_simp; rfl) (by go_simp) ?_; exact qqM (by rfl) (by go_simp; rfl) (by go_simp; rfl) (by go_simp)
theorem qoQ (d : Nat) (w : World) (x0 y0 : Int) (x1 y1 : Int) :
    (Op.equalIn (d + 2) 33 (.agg #[.int .i64 x0, .int .i64 x1]) (.agg #[.int .i64 y0, .int .i64 y1])).run Tryz.prog w = .ok (x0 == y0 && (x1 == y1)) w := by
  refine eqA_of Tryz.underlying33 (by kernel_rfl) ?_; refine qqL (by rfl) (by go_simp; rfl) (by go_simp; rfl) (by go_simp) ?_; exact qqM (by rfl) (by go_simp; rfl) (by go_simp; rfl) (by go_simp)
def qbF.f (a0 : Int) (a1 : Int) (a2 : Int) : Option (Bool) := if a0 ≥ a1 then (some (decide (a0 ≤ a2))) else (some false)
theorem qbF.calls (a0 : Int) (a1 : Int) (a2 : Int) (r : Bool) (w : World) (h : qbF.f a0 a1 a2 = some r) :
  Calls Tryz.prog 75 #[.int .i64 a0, .int .i64 a1, .int .i64 a2] w fun e w' => e = .returned (.bool r) ∧ qd0 w w' := by
 have H : (if a0 ≥ a1 then (some (decide (a0 ≤ a2))) else (some false)) = some r := h; clear h; by_cases c4 : a0 ≥ a1
 ·rw [if_pos c4] at H; have qhF : decide (a1 ≤ a0) = true := decide_eq_true c4; clear c4; obtain rfl := Option.some.inj H; go_enter Tryz.func75, Tryz.ntmps75; go_wp2
  go_ret
  exact ⟨qbg, qdT⟩
 rw [if_neg c4] at H; have qhF : decide (a1 ≤ a0) = false := decide_eq_false c4; clear c4; obtain rfl := Option.some.inj H; go_enter Tryz.func75, Tryz.ntmps75; go_wp2
 go_ret
 exact ⟨qbg, qdT⟩
def qbI.l0 : Nat → ByteArray → Int → Option (Bool)
 | 0, _, _ => none
 | k + 1, x0, x3 => if x3 < (x0.size : Int) then (if 0 ≤ x3 then (if (bt x0 x3) = 111 then (qbI.l0 k x0 (wrap64 (x3 + 1))) else (if (bt x0 x3) = 120 then (qbI.l0 k x0 (wrap64 (x3 + 1))) else (if (bt x0 x3) = 63 then (qbI.l0 k x0 (wrap64 (x3 + 1))) else (some false)))) else (none)) else (some true)
def qbI.f (k : Nat) (a0 : ByteArray) : Option (Bool) := (qbF.f (a0.size : Int) 1 48).bind fun qco => (if qco = true then (qbI.l0 k a0 0) else (some false))
theorem qbI.calls (k : Nat) (a0 : ByteArray) (r : Bool) (w : World) (h : qbI.f k a0 = some r) :
  Calls Tryz.prog 74 #[.string a0] w fun e w' => e = .returned (.bool r) ∧ qd0 w w' := by
 have H : ((qbF.f (a0.size : Int) 1 48).bind fun qco => (if qco = true then (qbI.l0 k a0 0) else (some false))) = some r := h; clear h; obtain ⟨qco, A2, H⟩ := qbh H; (try dsimp only at H); by_cases c3 : qco = true; rotate_left
 ·replace c3 := Bool.eq_false_iff.mpr c3; subst c3; rw [if_neg (show ¬ (false = true) by decide)] at H; obtain rfl := Option.some.inj H; go_enter Tryz.func74, Tryz.ntmps74
  go_wp2_with (first | ((with_reducible refine qad (f := 75) rfl ?_); refine gl_ 6 Tryz.func75 #[.int .i64 (a0.size : Int), .int .i64 1, .int .i64 48] rfl qbK ?_; (with_reducible refine (qbF.calls (a0.size : Int) 1 48 false _ A2.out).mono ?_); rintro e w' ⟨rfl, ⟨nd, rfl⟩⟩; refine ⟨_, rfl, ?_⟩))
  go_ret
  exact ⟨qbg, qdT⟩
 subst c3; rw [if_pos rfl] at H; have H' := ak_ H; clear H; go_enter Tryz.func74, Tryz.ntmps74
 go_wp2_with (first | ((with_reducible refine qad (f := 75) rfl ?_); refine gl_ 6 Tryz.func75 #[.int .i64 (a0.size : Int), .int .i64 1, .int .i64 48] rfl qbK ?_; (with_reducible refine (qbF.calls (a0.size : Int) 1 48 true _ A2.out).mono ?_); rintro e w' ⟨rfl, ⟨nd, rfl⟩⟩; refine ⟨_, rfl, ?_⟩))
 go_loopg [3] k (fun kq v3 w' => ∃ (qc9 : Int), v3 = .int .i64 qc9 ∧ qah (qbI.l0 kq a0 qc9 = some r) ∧ qah (kq ≤ k) ∧ qd0 w w')
 case atStart => exact ⟨(0), qbg, H', ⟨Nat.le_refl _⟩, qdT⟩
 case round =>
  clear H'; (try clear c3); obtain ⟨qc9, rfl, HA, HK1, ⟨m1, rfl⟩⟩ := hrel
  cases gk with
  | zero => exact absurd HA.out (by simp [qbI.l0])
  | succ k1 =>
   have H := HA.out; clear HA; simp only [qbI.l0] at H; by_cases c4 : qc9 < (a0.size : Int); rotate_left
   ·rw [if_neg c4] at H; have qhF : decide (qc9 < (a0.size : Int)) = false := decide_eq_false c4; clear c4; obtain rfl := Option.some.inj H; go_wp2
    go_ret
    exact ⟨qbg, qdT⟩
   rw [if_pos c4] at H; have qhF : decide (qc9 < (a0.size : Int)) = true := decide_eq_true c4; clear c4; by_cases c5 : 0 ≤ qc9; rotate_left
   ·rw [if_neg c5] at H; exact absurd H (by simp)
   rw [if_pos c5] at H; have qi9 : decide (0 ≤ qc9) = true := decide_eq_true c5; clear c5; by_cases c7 : (bt a0 qc9) = 111
   ·rw [if_pos c7] at H; have qiI : ((bt a0 qc9) == 111) = true := beq_iff_eq.mpr c7; have qmR : ((bt a0 qc9) != 111) = false := bne_eq_false_iff_eq.mpr c7; clear c7; have H' := ak_ H; clear H; have p6 : 0 ≤ (qc9 : Int) := of_decide_eq_true qa8; have q6 : qc9 < (a0.size : Int) := of_decide_eq_true qa8; have hx6 := qea a0 qc9; replace p6 := eq_true p6; replace q6 := eq_true q6; go_wp2
    go_roundg k1
    case measure => have := HK1.out; omega
    case rel => exact ⟨(wrap64 (qc9 + 1)), qbg, H', ⟨qgl⟩, qdT⟩
   rw [if_neg c7] at H; have qiI : ((bt a0 qc9) == 111) = false := beq_eq_false_iff_ne.mpr c7; have qmR : ((bt a0 qc9) != 111) = true := bne_iff_ne.mpr c7; by_cases c9 : (bt a0 qc9) = 120
   ·rw [if_pos c9] at H; have qqJ : ((bt a0 qc9) == 120) = true := beq_iff_eq.mpr c9; have c9b1 : ((bt a0 qc9) != 120) = false := bne_eq_false_iff_eq.mpr c9; clear c9; have H' := ak_ H; clear H; have p6 : 0 ≤ (qc9 : Int) := of_decide_eq_true qa8; have q6 : qc9 < (a0.size : Int) := of_decide_eq_true qa8; have hx6 := qea a0 qc9; replace p6 := eq_true p6; replace q6 := eq_true q6; have p8 : 0 ≤ (qc9 : Int) := of_decide_eq_true qa8; have q8 : qc9 < (a0.size : Int) := of_decide_eq_true qa8; have hx8 := qea a0 qc9; replace p8 := eq_true p8; replace q8 := eq_true q8; go_wp2
    go_roundg k1
    case measure => have := HK1.out; omega
    case rel => exact ⟨(wrap64 (qc9 + 1)), qbg, H', ⟨qgl⟩, qdT⟩
   rw [if_neg c9] at H; have qqJ : ((bt a0 qc9) == 120) = false := beq_eq_false_iff_ne.mpr c9; have c9b1 : ((bt a0 qc9) != 120) = true := bne_iff_ne.mpr c9; by_cases c11 : (bt a0 qc9) = 63; rotate_left
   ·rw [if_neg c11] at H; have qlj : ((bt a0 qc9) == 63) = false := beq_eq_false_iff_ne.mpr c11; have qmt : ((bt a0 qc9) != 63) = true := bne_iff_ne.mpr c11; obtain rfl := Option.some.inj H; have p6 : 0 ≤ (qc9 : Int) := of_decide_eq_true qa8; have q6 : qc9 < (a0.size : Int) := of_decide_eq_true qa8; have hx6 := qea a0 qc9; replace p6 := eq_true p6; replace q6 := eq_true q6; have p8 : 0 ≤ (qc9 : Int) := of_decide_eq_true qa8; have q8 : qc9 < (a0.size : Int) := of_decide_eq_true qa8; have hx8 := qea a0 qc9; replace p8 := eq_true p8; replace q8 := eq_true q8; have p10 : 0 ≤ (qc9 : Int) := of_decide_eq_true qa8; have q10 : qc9 < (a0.size : Int) := of_decide_eq_true qa8; have hx10 := qea a0 qc9; replace p10 := eq_true p10; replace q10 := eq_true q10; go_wp2
    go_ret
    exact ⟨qbg, qdT⟩
   rw [if_pos c11] at H; have qlj : ((bt a0 qc9) == 63) = true := beq_iff_eq.mpr c11; have qmt : ((bt a0 qc9) != 63) = false := bne_eq_false_iff_eq.mpr c11; clear c11; have H' := ak_ H; clear H; have p6 : 0 ≤ (qc9 : Int) := of_decide_eq_true qa8; have q6 : qc9 < (a0.size : Int) := of_decide_eq_true qa8; have hx6 := qea a0 qc9; replace p6 := eq_true p6; replace q6 := eq_true q6; have p8 : 0 ≤ (qc9 : Int) := of_decide_eq_true qa8; have q8 : qc9 < (a0.size : Int) := of_decide_eq_true qa8; have hx8 := qea a0 qc9; replace p8 := eq_true p8; replace q8 := eq_true q8; have p10 : 0 ≤ (qc9 : Int) := of_decide_eq_true qa8; have q10 : qc9 < (a0.size : Int) := of_decide_eq_true qa8; have hx10 := qea a0 qc9; replace p10 := eq_true p10; replace q10 := eq_true q10; go_wp2
   go_roundg k1
   case measure => have := HK1.out; omega
   case rel => exact ⟨(wrap64 (qc9 + 1)), qbg, H', ⟨qgl⟩, qdT⟩
def qbl.f (k : Nat) (qax : ByteArray) (qaZ : Int) : Option (Bool) := (qbI.f k qax).bind fun qaF => (if qaF = true then ((qbF.f qaZ 0 3).bind fun qaX => (some qaX)) else (some false))
theorem qbl.calls (k : Nat) (qax : ByteArray) (qaZ : Int) (r : Bool) (w : World) (h : qbl.f k qax qaZ = some r) :
  Calls Tryz.prog 45 #[.agg #[.string qax, .int .i64 qaZ]] w fun e w' => e = .returned (.bool r) ∧ Below w.heap.size w w' := by
 have qiv := Tryz.underlying23; have HB := ak_ (Below.refl w.heap.size w); have H : ((qbI.f k qax).bind fun qaF => (if qaF = true then ((qbF.f qaZ 0 3).bind fun qaX => (some qaX)) else (some false))) = some r := h; clear h; obtain ⟨qaF, A2, H⟩ := qbh H; (try dsimp only at H); by_cases c3 : qaF = true
 ·subst c3; rw [if_pos rfl] at H; obtain ⟨qaX, A4, H⟩ := qbh H; (try dsimp only at H); obtain rfl := Option.some.inj H; go_enter Tryz.func45, Tryz.ntmps45
  go_wp2_with (first | ((with_reducible refine qas (N := 1) rfl ?_); refine bx_ 1 (cs := #[.string qax, .int .i64 qaZ]) (t := 23) qa0 ?_; intro qaR hg w5 hbox hb; have qai := ak_ (hbox); have qcB := ak_ (HB.ge hg); have qcg := ak_ (HB.ge hg); replace HB := HB.mw hb; clear hb hbox hg; obtain ⟨qjn, qjo, qkd, qjq⟩ := qa2 qai.out) | ((with_reducible refine qad (f := 74) rfl ?_); refine gl_ 5 Tryz.func74 #[.string qax] rfl qbK ?_; (with_reducible refine (qbI.calls k qax true _ A2.out).mono ?_); rintro e w' ⟨rfl, ⟨nd, rfl⟩⟩; refine ⟨_, rfl, ?_⟩) | (go_at_call 75; (with_reducible refine (qbF.calls qaZ 0 3 qaX _ A4.out).mono ?_); rintro e w' ⟨rfl, ⟨nd, rfl⟩⟩))
  go_ret
  exact ⟨qbx, qaM⟩
 replace c3 := Bool.eq_false_iff.mpr c3; subst c3; rw [if_neg (show ¬ (false = true) by decide)] at H; obtain rfl := Option.some.inj H; go_enter Tryz.func45, Tryz.ntmps45
 go_wp2_with (first | ((with_reducible refine qas (N := 1) rfl ?_); refine bx_ 1 (cs := #[.string qax, .int .i64 qaZ]) (t := 23) qa0 ?_; intro qaR hg w7 hbox hb; have qai := ak_ (hbox); have qcB := ak_ (HB.ge hg); have qcg := ak_ (HB.ge hg); replace HB := HB.mw hb; clear hb hbox hg; obtain ⟨qgg, qgh, qgz, qgi⟩ := qa2 qai.out) | ((with_reducible refine qad (f := 74) rfl ?_); refine gl_ 5 Tryz.func74 #[.string qax] rfl qbK ?_; (with_reducible refine (qbI.calls k qax false _ A2.out).mono ?_); rintro e w' ⟨rfl, ⟨nd, rfl⟩⟩; refine ⟨_, rfl, ?_⟩))
 go_ret
 exact ⟨qbx, qaM⟩
def qcp.f (a0 : Int) (a1 : Int) : Option (Int) := if a1 = 0 then (none) else (some (Int.tmod (wrap64 ((Int.tmod a0 a1) + a1)) a1))
theorem qcp.calls (a0 : Int) (a1 : Int) (r : Int) (w : World) (h : qcp.f a0 a1 = some r) :
  Calls Tryz.prog 48 #[.int .i64 a0, .int .i64 a1] w fun e w' => e = .returned (.int .i64 r) ∧ qd0 w w' := by
 have H : (if a1 = 0 then (none) else (some (Int.tmod (wrap64 ((Int.tmod a0 a1) + a1)) a1))) = some r := h; clear h; by_cases c3 : a1 = 0
 ·rw [if_pos c3] at H; exact absurd H (by simp)
 rw [if_neg c3] at H; have qil : (a1 == 0) = false := beq_eq_false_iff_ne.mpr c3; have qr3 : (a1 != 0) = true := bne_iff_ne.mpr c3; obtain rfl := Option.some.inj H; go_enter Tryz.func48, Tryz.ntmps48; go_wp2
 go_ret
 exact ⟨qbg, qdT⟩
def qb4.l0 : Nat → ByteArray → Int → Int → Nat → Option Bool
  | 0, _, _, _, _ => none
  | k + 1, s, e, t, pos => if pos < s.size then (if bt s pos < 128 then (if bt s pos = 111 then ((qcp.f (wrap64 ((pos : Int) + 1)) e).bind fun q => (if q = t then some false else qb4.l0 k s e t (pos + 1))) else qb4.l0 k s e t (pos + 1)) else none) else some true
def qb4.f (k : Nat) (a0 : ByteArray) (qc8 : Int) (qdG : Int) : Option (Bool) := qb4.l0 k a0 qc8 qdG 0
theorem qli (s : ByteArray) (pos : Nat) (h : pos < s.size) : ((s[pos]'h).toNat : Int) = bt s pos := by
  exact qea s (pos : Int) h
theorem qb4.calls (k : Nat) (a0 : ByteArray) (qc8 : Int) (qdG : Int) (r : Bool) (w : World) (h : qb4.f k a0 qc8 qdG = some r) :
    Calls Tryz.prog 58 #[.string a0, .agg #[.int .i64 qc8, .int .i64 qdG]] w fun e w' => e = .returned (.bool r) ∧ Below w.heap.size w w' := by
  have hu := Tryz.underlying33; have H : qb4.l0 k a0 qc8 qdG 0 = some r := h; clear h; have H' := ak_ H; clear H; go_enter Tryz.func58, Tryz.ntmps58; go_wp2
  go_loopg [] k (fun kq wx => ∃ pos : Nat, wx.heap[w.heap.size + 1]? = some (.stringIter a0 pos) ∧ qah (Below w.heap.size w wx) ∧ wx.cell? ⟨w.heap.size, 0, none⟩ = some (.int .i64 qc8) ∧ wx.cell? ⟨w.heap.size, 1, none⟩ = some (.int .i64 qdG) ∧ qah (qb4.l0 kq a0 qc8 qdG pos = some r) ∧ qah (kq ≤ k))
  case atStart =>
    have hb_ : Below (w.heap.size + 1) (w.alloc (Obj.cells #[Value.int IntKind.i64 qc8, Value.int IntKind.i64 qdG] 33)) ((w.alloc (Obj.cells #[Value.int IntKind.i64 qc8, Value.int IntKind.i64 qdG] 33)).iter a0 0) := (Below.refl _ _).alloc (by simp) _; exact ⟨0, by have h_ := World.iter_heap (w.alloc (Obj.cells #[Value.int IntKind.i64 qc8, Value.int IntKind.i64 qdG] 33)) a0 0; simpa using h_, ⟨((Below.refl _ w).alloc (Nat.le_refl _) _).alloc (by simp) _⟩, (hb_.cell (p := ⟨w.heap.size, 0, none⟩) (by simp)).trans (by simp), (hb_.cell (p := ⟨w.heap.size, 1, none⟩) (by simp)).trans (by simp), H', ⟨Nat.le_refl _⟩⟩
  case round =>
    clear H'; obtain ⟨pos, hit, HB, hc0, hc1, HA, HK⟩ := hrel
    cases gk with
    | zero => exact absurd HA.out (by simp [qb4.l0])
    | succ k1 =>
      have H := HA.out; clear HA; simp only [qb4.l0] at H; by_cases hps : pos < a0.size; rotate_left
      ·rw [if_neg hps] at H
       have hnx : ∀ ty, (Instr.next (.pointer (some ⟨w.heap.size + 1, 0, none⟩)) true ty).run Tryz.prog wr = _ := fun ty => Lib.run_next_end_at wr (w.heap.size + 1) a0 pos ty hit hps
       obtain rfl := Option.some.inj H; go_wp2
       go_ret
       exact ⟨rfl, HB.out⟩
      rw [if_pos hps] at H; by_cases ha : bt a0 pos < 128; rotate_left
      ·rw [if_neg ha] at H; exact absurd H (by simp)
      rw [if_pos ha] at H
      have hnx : ∀ ty, (Instr.next (.pointer (some ⟨w.heap.size + 1, 0, none⟩)) true ty).run Tryz.prog wr = _ := fun ty => Lib.run_next_ascii_at wr (w.heap.size + 1) a0 pos ty hit hps (by have := qli a0 pos hps; omega)
      have qr9 := Lib.iterAt_heap wr (w.heap.size + 1) a0 pos (pos + 1) hit; have qtr := Lib.below_iterAt HB.out (k := w.heap.size + 1) (by omega) a0 (pos + 1); have hb3 := Lib.below_iterAt (Below.refl (w.heap.size + 1) wr) (k := w.heap.size + 1) (by omega) a0 (pos + 1); have hd0 := (hb3.cell (p := ⟨w.heap.size, 0, none⟩) (by simp)).trans hc0; have hd1 := (hb3.cell (p := ⟨w.heap.size, 1, none⟩) (by simp)).trans hc1
      obtain ⟨W, hWd⟩ : ∃ W, wr.iterAt (w.heap.size + 1) a0 (pos + 1) = W := ⟨_, rfl⟩
      rw [hWd] at hnx qr9 qtr hd0 hd1; clear hb3 hc0 hc1 hit hWd HB ha; have HB := ak_ qtr; have HI := ak_ qr9; clear qtr qr9; have hx6 := qli a0 pos; have p6 := eq_true (show 0 ≤ ((pos : Nat) : Int) by omega); have q6 := eq_true (show ((pos : Nat) : Int) < (a0.size : Int) by omega)
      try clear c4
      by_cases c11 : (bt a0 pos) = 111; rotate_left
      ·rw [if_neg c11] at H; have qlj : ((bt a0 pos) == 111) = false := beq_eq_false_iff_ne.mpr c11; have qmt : ((bt a0 pos) != 111) = true := bne_iff_ne.mpr c11; have H' := ak_ H; clear H; go_wp2
       go_quiet (fail)
       go_wp2
       go_roundg k1
       case measure => have := HK.out; omega
       case rel => exact ⟨pos + 1, by simpa using HI.out, ⟨qao HB.out _⟩, by simpa using hd0, by simpa using hd1, H', ⟨by have := HK.out; omega⟩⟩
      rw [if_pos c11] at H; have qlj : ((bt a0 pos) == 111) = true := beq_iff_eq.mpr c11; have qmt : ((bt a0 pos) != 111) = false := bne_eq_false_iff_eq.mpr c11; clear c11; replace H := Option.bind_eq_some_iff.mp H; obtain ⟨q, A20, H⟩ := H; have HM := ak_ (fun W => qcp.calls (wrap64 ((pos : Int) + 1)) qc8 q W A20); clear A20; by_cases c12 : q = qdG
      ·rw [if_pos c12] at H; have qrD : (q == qdG) = true := beq_iff_eq.mpr c12; obtain rfl := Option.some.inj H; clear H c12; go_wp2
       go_quiet ((go_at_call 48; exact Calls.quiet_of ((HM.out _).mono (fun e w' h => ⟨h.1, h.2.out⟩))))
       go_wp2
       go_ret
       exact ⟨rfl, qao HB.out _⟩
      rw [if_neg c12] at H; have qrD : (q == qdG) = false := beq_eq_false_iff_ne.mpr c12; have H' := ak_ H; clear H c12; go_wp2
      go_quiet ((go_at_call 48; exact Calls.quiet_of ((HM.out _).mono (fun e w' h => ⟨h.1, h.2.out⟩))))
      go_wp2
      go_roundg k1
      case measure => have := HK.out; omega
      case rel => exact ⟨pos + 1, by simpa using HI.out, ⟨qao HB.out _⟩, by simpa using hd0, by simpa using hd1, H', ⟨by have := HK.out; omega⟩⟩
mutual
def qbA.l0 : Nat → ByteArray → List (qaj) → Int → Option ((List (qaj)))
 | 0, _, _, _ => none
 | k + 1, x0, x3, x4 => if x4 ≤ 10 then (qbA.l1 k x0 x3 x4 0) else (some x3)
def qbA.l1 : Nat → ByteArray → List (qaj) → Int → Int → Option ((List (qaj)))
 | 0, _, _, _, _ => none
 | k + 1, x0, x3, x4, x5 => if x5 < x4 then ((qb4.f k x0 x4 x5).bind fun qaF => (if qaF = true then (if x3.length < 8796093022208 then (qbA.l1 k x0 (x3 ++ [(⟨x4, x5⟩ : qaj)]) x4 (wrap64 (x5 + 1))) else (none)) else (qbA.l1 k x0 x3 x4 (wrap64 (x5 + 1))))) else (qbA.l0 k x0 x3 (wrap64 (x4 + 1)))
end
def qbA.f (k : Nat) (a0 : ByteArray) : Option ((List (qaj))) := qbA.l0 k a0 ([] : List (qaj)) 2
theorem qbA.calls (k : Nat) (a0 : ByteArray) (r : List (qaj)) (w : World) (h : qbA.f k a0 = some r) :
  Calls Tryz.prog 46 #[.string a0] w fun e w' => ∃ v0_ : Value, e = .returned (v0_) ∧ Kd.R qa1 33 w' w.heap.size (fun _ => True) v0_ r ∧ Below w.heap.size w w' := by
 have qkE := Tryz.underlying33; have HB := ak_ (Below.refl w.heap.size w); have H : (qbA.l0 k a0 ([] : List (qaj)) 2) = some r := h; clear h; have H' := ak_ H; clear H; go_enter Tryz.func46, Tryz.ntmps46; go_wp2
 go_loopg [3, 4] k (fun kq v3 v4 w' => ∃ (qc9 : List (qaj)) (qe0 : Int), v4 = .int .i64 qe0 ∧ qah (qbA.l0 kq a0 qc9 qe0 = some r) ∧ qah (kq ≤ k) ∧ qah (Kd.R qa1 33 w' w.heap.size (fun _ => True) v3 qc9) ∧ qah (Below w.heap.size w w'))
 case atStart => exact ⟨(([] : List (qaj))), (2), qbg, H', ⟨Nat.le_refl _⟩, ⟨qsa⟩, ⟨qcw⟩⟩
 case round =>
  clear H'; obtain ⟨qc9, qe0, rfl, HA, HK1, qf4, HB⟩ := hrel
  cases gk with
  | zero => exact absurd HA.out (by simp [qbA.l0])
  | succ k1 =>
   have H := HA.out; clear HA; simp only [qbA.l0] at H; by_cases c2 : qe0 ≤ 10; rotate_left
   ·rw [if_neg c2] at H; have qkC : decide (qe0 ≤ 10) = false := decide_eq_false c2; clear c2; obtain rfl := Option.some.inj H; go_wp2
    go_ret
    exact ⟨_, qbx, k94_, qcw⟩
   rw [if_pos c2] at H; have qkC : decide (qe0 ≤ 10) = true := decide_eq_true c2; clear c2; have H' := ak_ H; clear H; go_wp2
   go_loopg [3, 5] k1 (fun kq v3 v5 w' => ∃ (qhE : List (qaj)) (qi8 : Int), v5 = .int .i64 qi8 ∧ qah (qbA.l1 kq a0 qhE qe0 qi8 = some r) ∧ qah (kq ≤ k1) ∧ qah (Kd.R qa1 33 w' w.heap.size (fun _ => True) v3 qhE) ∧ qah (Below w.heap.size w w'))
   case atStart => exact ⟨(qc9), (0), qbg, H', ⟨Nat.le_refl _⟩, ⟨qfp⟩, ⟨qcw⟩⟩
   case round =>
    clear H'; (try clear c2); (try clear qkC); obtain ⟨qhE, qi8, rfl, HA, HK2, qf4, HB⟩ := hrel
    cases gk with
    | zero => exact absurd HA.out (by simp [qbA.l1])
    | succ k2 =>
     have H := HA.out; clear HA; simp only [qbA.l1] at H; by_cases c3 : qi8 < qe0; rotate_left
     ·rw [if_neg c3] at H; have qil : decide (qi8 < qe0) = false := decide_eq_false c3; clear c3; have H' := ak_ H; clear H; go_wp2
      go_roundg k2
      case measure => have := HK1.out; have := HK2.out; omega
      case rel => exact ⟨(qhE), (wrap64 (qe0 + 1)), qbg, H', ⟨by have := HK1.out; have := HK2.out; omega⟩, ⟨qfp⟩, ⟨qcw⟩⟩
     rw [if_pos c3] at H; have qil : decide (qi8 < qe0) = true := decide_eq_true c3; clear c3; obtain ⟨qaF, A4, H⟩ := qbh H; (try dsimp only at H); by_cases c5 : qaF = true; rotate_left
     ·replace c5 := Bool.eq_false_iff.mpr c5; subst c5; rw [if_neg (show ¬ (false = true) by decide)] at H; have H' := ak_ H; clear H
      go_wp2_with (first | ((with_reducible refine qas (N := 6) rfl ?_); refine bx_ 6 (cs := #[.int .i64 0, .int .i64 0]) (t := 33) qa0 ?_; intro qaR hg w12 hbox hb; replace qf4 := ak_ (Kd.qbn (Kd.qcQ qfp qaR (Nat.le_of_eq hg.symm)) hb); have qai := ak_ (hbox); have qcB := ak_ (HB.ge hg); have qcg := ak_ (HB.ge hg); replace HB := HB.mw hb; clear hb hbox hg; obtain ⟨qnR, qnS, qn9, qoa⟩ := qa2 qai.out) | ((with_reducible refine qad (f := 58) rfl ?_); refine gl_ 21 Tryz.func58 #[.string a0, .agg #[.int .i64 qe0, .int .i64 qi8]] rfl qbK ?_; (with_reducible refine (qb4.calls k2 a0 qe0 qi8 false _ A4.out).mono ?_); rintro e w14 ⟨rfl, hb⟩; refine ⟨_, rfl, ?_⟩; replace qf4 := ak_ (Kd.qbn k49_ hb); replace qai := ak_ (qam (g := qaR) (o := .cells #[.int .i64 qe0, .int .i64 qi8] 33 (0, 0)) k22_ hb); replace HB := ak_ (qac qaM hb); (try clear hb)))
      go_roundg k2
      case measure => have := HK1.out; have := HK2.out; omega
      case rel => exact ⟨(qhE), (wrap64 (qi8 + 1)), qbg, H', ⟨by have := HK1.out; have := HK2.out; omega⟩, ⟨by (with_reducible repeat (first | apply Kd.qaA | apply Kd.qaz | apply Kd.qaL)); exact Kd.qaT qf4.out (fun _ hk => trivial)⟩, ⟨qaM⟩⟩
     subst c5; rw [if_pos rfl] at H; by_cases c6 : qhE.length < 8796093022208; rotate_left
     ·rw [if_neg c6] at H; exact absurd H (by simp)
     rw [if_pos c6] at H; have LMc6 := ak_ c6; clear c6
     obtain ⟨y103, hy_⟩ : ∃ y_ : List (qaj), y_ = (qhE ++ [(⟨qe0, qi8⟩ : qaj)]) := ⟨_, rfl⟩
     replace H : (qbA.l1 k2 a0 y103 qe0 (wrap64 (qi8 + 1))) = some r := qkG; have Ny103 := ak_ hy_; clear hy_; have H' := ak_ H; clear H
     go_wp2_with (first | ((with_reducible refine qas (N := 6) rfl ?_); refine bx_ 6 (cs := #[.int .i64 0, .int .i64 0]) (t := 33) qa0 ?_; intro qaR hg w7 hbox hb; replace qf4 := ak_ (Kd.qbn (Kd.qcQ qfp qaR (Nat.le_of_eq hg.symm)) hb); have qai := ak_ (hbox); have qcB := ak_ (HB.ge hg); have qcg := ak_ (HB.ge hg); replace HB := HB.mw hb; clear hb hbox hg; obtain ⟨qgg, qgh, qgz, qgi⟩ := qa2 qai.out) | ((with_reducible refine qad (f := 58) rfl ?_); refine gl_ 21 Tryz.func58 #[.string a0, .agg #[.int .i64 qe0, .int .i64 qi8]] rfl qbK ?_; (with_reducible refine (qb4.calls k2 a0 qe0 qi8 true _ A4.out).mono ?_); rintro e w9 ⟨rfl, hb⟩; refine ⟨_, rfl, ?_⟩; replace qf4 := ak_ (Kd.qbn k49_ hb); replace qai := ak_ (qam (g := qaR) (o := .cells #[.int .i64 qe0, .int .i64 qi8] 33 (0, 0)) k22_ hb); replace HB := ak_ (qac qaM hb); (try clear hb); obtain ⟨qiL, qiM, qiT, qiU⟩ := qa2 qai.out) | ((with_reducible refine qca (b := .append) (xs := #[.tmp 22, .tmp 24]) rfl ?_); at_builtin; refine Kd.qfc qa1 (w0 := w) w.heap.size rfl (.tmp 22) (.tmp 24) 24 33 (.agg #[(.int .i64 0), (.int .i64 0)]) 16 rfl Tryz.underlying24 qjt rfl (by decide) (by omega) u3 qhE (⟨qe0, qi8⟩ : qaj) [.int .i64 qe0, .int .i64 qi8] (fun k_ => k_ ≠ qaR) (fun _ => False) rfl rfl ?aP (fun _ hk => hk.elim) ?aF ?aO ?aB ?aS ?aL ?_; (case aP => exact qdp _ _ _ (⟨qe0, qi8⟩ : qaj)); (case aB => exact qaM); (case aF => exact (fun k_ hk => Kd.qoV (g := qaR) (o := .cells #[.int .i64 qe0, .int .i64 qi8] 33 (0, 0)) qch k_ hk)); (case aO => exact (by (with_reducible repeat (first | apply Kd.qaA | apply Kd.qaz | apply Kd.qaL)); exact Kd.qaT qf4.out (fun _ hk => hk.2))); (case aS => exact (qal qaM)); (case aL => have := LMc6.out; omega); intro v104 w11 ho hb hg hat; rw [← Ny103.out] at ho; replace qai := ak_ (qey (g := qaR) (o := .cells #[.int .i64 qe0, .int .i64 qi8] 33 (0, 0)) qch hg (Kd.R_away qf4.out (fun _ hk => hk.2))); replace HB := ak_ (hb); have qfF := ak_ (ho); clear qf4; clear ho hb hg hat))
     go_roundg k2
     case measure => have := HK1.out; have := HK2.out; omega
     case rel => exact ⟨(y103), (wrap64 (qi8 + 1)), qbg, H', ⟨by have := HK1.out; have := HK2.out; omega⟩, ⟨by (with_reducible repeat (first | apply Kd.qaA | apply Kd.qaz | apply Kd.qaL)); exact Kd.qaT qfF.out (fun _ hk => trivial)⟩, ⟨qaM⟩⟩
def qcu.l0 : Nat → Int → List (qaj) → Int → Int → Option (Int)
 | 0, _, _, _, _ => none
 | k + 1, x1, x7, x8, x9 => if x9 < x8 then (if 0 ≤ x9 then (if x9 < (x7.length : Int) then ((qcp.f x1 ((qab x7 x9).f0)).bind fun qaX => (if qaX = ((qab x7 x9).f1) then (some x9) else (qcu.l0 k x1 x7 x8 (wrap64 (x9 + 1))))) else (none)) else (none)) else (some (-1))
def qcu.f (k : Nat) (l0 : List (qaj)) (a1 : Int) : Option (Int) := qcu.l0 k a1 l0 (l0.length : Int) 0
theorem qcu.calls (k : Nat) (A0 : Option Addr) (c0 : Nat) (l0 : List (qaj)) (a1 : Int) (r : Int) (w : World) (hr0 : Kd.C qa1 w A0 l0.length l0) (hc0 : l0.length ≤ c0) (h : qcu.f k l0 a1 = some r) :
  Calls Tryz.prog 107 #[.slice A0 l0.length c0, .int .i64 a1] w fun e w' => e = .returned (.int .i64 r) ∧ Below w.heap.size w w' := by
 have qkE := Tryz.underlying33; have HR0 := ak_ hr0; have HC0 := ak_ hc0; clear hr0 hc0; have HB := ak_ (Below.refl w.heap.size w); have H : (qcu.l0 k a1 l0 (l0.length : Int) 0) = some r := h; clear h; have H' := ak_ H; clear H; go_enter Tryz.func107, Tryz.ntmps107; go_wp2
 repeat (go_quiet (fail); try go_wp2)
 go_loopg [9] k (fun kq v9 w' => ∃ (qdj : Int), v9 = .int .i64 qdj ∧ qah (qcu.l0 kq a1 l0 (l0.length : Int) qdj = some r) ∧ qah (kq ≤ k) ∧ qah (Below w.heap.size w w'))
 case atStart => exact ⟨(0), qbg, H', ⟨Nat.le_refl _⟩, ⟨qcw⟩⟩
 case round =>
  clear H'; obtain ⟨qdj, rfl, HA, HK1, HB⟩ := hrel
  cases gk with
  | zero => exact absurd HA.out (by simp [qcu.l0])
  | succ k1 =>
   have H := HA.out; clear HA; simp only [qcu.l0] at H; by_cases c3 : qdj < (l0.length : Int); rotate_left
   ·rw [if_neg c3] at H; have qil : decide (qdj < (l0.length : Int)) = false := decide_eq_false c3; clear c3; obtain rfl := Option.some.inj H; go_wp2
    repeat (go_quiet (fail); try go_wp2)
    go_ret
    exact ⟨qbx, qcw⟩
   rw [if_pos c3] at H; have qil : decide (qdj < (l0.length : Int)) = true := decide_eq_true c3; clear c3; by_cases c4 : 0 ≤ qdj; rotate_left
   ·rw [if_neg c4] at H; exact absurd H (by simp)
   rw [if_pos c4] at H; have qhF : decide (0 ≤ qdj) = true := decide_eq_true c4; clear c4; by_cases c5 : qdj < (l0.length : Int); rotate_left
   ·rw [if_neg c5] at H; exact absurd H (by simp)
   rw [if_pos c5] at H; have qi9 : decide (qdj < (l0.length : Int)) = true := decide_eq_true c5; clear c5; obtain ⟨qaX, A6, H⟩ := qbh H; (try dsimp only at H); by_cases c7 : qaX = ((qab l0 qdj).f1)
   ·rw [if_pos c7] at H; have qiI : (qaX == ((qab l0 qdj).f1)) = true := beq_iff_eq.mpr c7; have qmR : (qaX != ((qab l0 qdj).f1)) = false := bne_eq_false_iff_eq.mpr c7; clear c7; obtain rfl := Option.some.inj H; have qgF : 0 ≤ (qdj : Int) := of_decide_eq_true qa8; have qgG : qdj < (l0.length : Int) := of_decide_eq_true qa8; obtain ⟨qlc, qlo, qdv, qe9⟩ := qcq HR0.out qdj qgF qgG
    cases qlo
    replace qdv := (HB.out.cell (World.block_lt_of_cell? w _ qdv)).trans qdv; replace qe9 := (HB.out.cell (World.block_lt_of_cell? w _ qe9)).trans qe9; replace qgF := eq_true qgF; replace qgG := eq_true qgG
    go_wp2_with (first | ((with_reducible refine qas (N := 6) rfl ?_); refine bx_ 6 (cs := #[.int .i64 0, .int .i64 0]) (t := 33) qa0 ?_; intro qe1 hg w8 hbox hb; have qdr := ak_ (hbox); have qiD := ak_ (HB.ge hg); have qgT := ak_ (HB.ge hg); replace HB := HB.mw hb; clear hb hbox hg; obtain ⟨qlB, qlC, qm2, qlL⟩ := qa2 qdr.out) | (go_at_call 48; (with_reducible refine (qcp.calls a1 ((qab l0 qdj).f0) qaX _ A6.out).mono ?_); rintro e w' ⟨rfl, ⟨nd, rfl⟩⟩; (try first | exact ⟨rfl, _, World.drewN_drewN _ _ _⟩ | exact ⟨rfl, _, Eq.trans (World.drewN_drewN _ _ _) (congrArg (World.drewN _) (Nat.add_assoc _ _ _))⟩)))
    repeat (go_quiet (first | ((with_reducible refine qas (N := 6) rfl ?_); refine bx_ 6 (cs := #[.int .i64 0, .int .i64 0]) (t := 33) qa0 ?_; intro qe1 hg w8 hbox hb; have qdr := ak_ (hbox); have qiD := ak_ (HB.ge hg); have qgT := ak_ (HB.ge hg); replace HB := HB.mw hb; clear hb hbox hg; obtain ⟨qlB, qlC, qm2, qlL⟩ := qa2 qdr.out) | (go_at_call 48; (with_reducible refine (qcp.calls a1 ((qab l0 qdj).f0) qaX _ A6.out).mono ?_); rintro e w' ⟨rfl, ⟨nd, rfl⟩⟩; (try first | exact ⟨rfl, _, World.drewN_drewN _ _ _⟩ | exact ⟨rfl, _, Eq.trans (World.drewN_drewN _ _ _) (congrArg (World.drewN _) (Nat.add_assoc _ _ _))⟩))); try go_wp2_with (first | ((with_reducible refine qas (N := 6) rfl ?_); refine bx_ 6 (cs := #[.int .i64 0, .int .i64 0]) (t := 33) qa0 ?_; intro qe1 hg w8 hbox hb; have qdr := ak_ (hbox); have qiD := ak_ (HB.ge hg); have qgT := ak_ (HB.ge hg); replace HB := HB.mw hb; clear hb hbox hg; obtain ⟨qlB, qlC, qm2, qlL⟩ := qa2 qdr.out) | (go_at_call 48; (with_reducible refine (qcp.calls a1 ((qab l0 qdj).f0) qaX _ A6.out).mono ?_); rintro e w' ⟨rfl, ⟨nd, rfl⟩⟩; (try first | exact ⟨rfl, _, World.drewN_drewN _ _ _⟩ | exact ⟨rfl, _, Eq.trans (World.drewN_drewN _ _ _) (congrArg (World.drewN _) (Nat.add_assoc _ _ _))⟩))))
    go_ret
    exact ⟨qbx, qrO⟩
   rw [if_neg c7] at H; have qiI : (qaX == ((qab l0 qdj).f1)) = false := beq_eq_false_iff_ne.mpr c7; have qmR : (qaX != ((qab l0 qdj).f1)) = true := bne_iff_ne.mpr c7; have H' := ak_ H; clear H; have qgF : 0 ≤ (qdj : Int) := of_decide_eq_true qa8; have qgG : qdj < (l0.length : Int) := of_decide_eq_true qa8; obtain ⟨qlc, qlo, qdv, qe9⟩ := qcq HR0.out qdj qgF qgG
   cases qlo
   replace qdv := (HB.out.cell (World.block_lt_of_cell? w _ qdv)).trans qdv; replace qe9 := (HB.out.cell (World.block_lt_of_cell? w _ qe9)).trans qe9; replace qgF := eq_true qgF; replace qgG := eq_true qgG
   go_wp2_with (first | ((with_reducible refine qas (N := 6) rfl ?_); refine bx_ 6 (cs := #[.int .i64 0, .int .i64 0]) (t := 33) qa0 ?_; intro qe1 hg w10 hbox hb; have qdr := ak_ (hbox); have qiD := ak_ (HB.ge hg); have qgT := ak_ (HB.ge hg); replace HB := HB.mw hb; clear hb hbox hg; obtain ⟨qgv, qgw, qgx, qgy⟩ := qa2 qdr.out) | (go_at_call 48; (with_reducible refine (qcp.calls a1 ((qab l0 qdj).f0) qaX _ A6.out).mono ?_); rintro e w' ⟨rfl, ⟨nd, rfl⟩⟩; (try first | exact ⟨rfl, _, World.drewN_drewN _ _ _⟩ | exact ⟨rfl, _, Eq.trans (World.drewN_drewN _ _ _) (congrArg (World.drewN _) (Nat.add_assoc _ _ _))⟩)))
   repeat (go_quiet (first | ((with_reducible refine qas (N := 6) rfl ?_); refine bx_ 6 (cs := #[.int .i64 0, .int .i64 0]) (t := 33) qa0 ?_; intro qe1 hg w10 hbox hb; have qdr := ak_ (hbox); have qiD := ak_ (HB.ge hg); have qgT := ak_ (HB.ge hg); replace HB := HB.mw hb; clear hb hbox hg; obtain ⟨qgv, qgw, qgx, qgy⟩ := qa2 qdr.out) | (go_at_call 48; (with_reducible refine (qcp.calls a1 ((qab l0 qdj).f0) qaX _ A6.out).mono ?_); rintro e w' ⟨rfl, ⟨nd, rfl⟩⟩; (try first | exact ⟨rfl, _, World.drewN_drewN _ _ _⟩ | exact ⟨rfl, _, Eq.trans (World.drewN_drewN _ _ _) (congrArg (World.drewN _) (Nat.add_assoc _ _ _))⟩))); try go_wp2_with (first | ((with_reducible refine qas (N := 6) rfl ?_); refine bx_ 6 (cs := #[.int .i64 0, .int .i64 0]) (t := 33) qa0 ?_; intro qe1 hg w10 hbox hb; have qdr := ak_ (hbox); have qiD := ak_ (HB.ge hg); have qgT := ak_ (HB.ge hg); replace HB := HB.mw hb; clear hb hbox hg; obtain ⟨qgv, qgw, qgx, qgy⟩ := qa2 qdr.out) | (go_at_call 48; (with_reducible refine (qcp.calls a1 ((qab l0 qdj).f0) qaX _ A6.out).mono ?_); rintro e w' ⟨rfl, ⟨nd, rfl⟩⟩; (try first | exact ⟨rfl, _, World.drewN_drewN _ _ _⟩ | exact ⟨rfl, _, Eq.trans (World.drewN_drewN _ _ _) (congrArg (World.drewN _) (Nat.add_assoc _ _ _))⟩))))
   go_roundg k1
   case measure => have := HK1.out; omega
   case rel => exact ⟨(wrap64 (qdj + 1)), qbg, H', ⟨qgl⟩, ⟨qrO⟩⟩
def qeO.f (k : Nat) (l0 : List (qaj)) (a1 : Int) : Option (Bool) := (qcu.f k l0 a1).bind fun qco => (some (decide (qco < 0)))
theorem qeO.calls (k : Nat) (A0 : Option Addr) (c0 : Nat) (l0 : List (qaj)) (a1 : Int) (r : Bool) (w : World) (hr0 : Kd.C qa1 w A0 l0.length l0) (hc0 : l0.length ≤ c0) (h : qeO.f k l0 a1 = some r) :
  Calls Tryz.prog 87 #[.slice A0 l0.length c0, .int .i64 a1] w fun e w' => e = .returned (.bool r) ∧ Below w.heap.size w w' := by
 have HR0 := ak_ hr0; have HC0 := ak_ hc0; clear hr0 hc0; have HB := ak_ (Below.refl w.heap.size w); have H : ((qcu.f k l0 a1).bind fun qco => (some (decide (qco < 0)))) = some r := h; clear h; obtain ⟨qco, A3, H⟩ := qbh H; (try dsimp only at H); obtain rfl := Option.some.inj H; go_enter Tryz.func87, Tryz.ntmps87
 go_wp2_with (first | ((with_reducible refine qad (f := 107) rfl ?_); refine gl_ 7 Tryz.func107 #[.slice A0 l0.length c0, .int .i64 a1] rfl qbK ?_; (with_reducible refine (qcu.calls k _ _ l0 a1 qco _ ?qaB ?qaC A3.out).mono ?_); (case qaB => exact k80_); (case qaC => exact HC0.out); rintro e w4 ⟨rfl, hb⟩; refine ⟨_, rfl, ?_⟩; replace HB := HB.mw hb; (try clear hb)))
 go_ret
 exact ⟨qbx, qcw⟩
def qbO.l0 : Nat → ByteArray → List qaj → Nat → Option Bool
  | 0, _, _, _ => none
  | k + 1, s, l, pos => if pos < s.size then (if bt s pos < 128 then (if bt s pos = 120 then ((qeO.f k l (wrap64 ((pos : Int) + 1))).bind fun q => (if q = true then some false else qbO.l0 k s l (pos + 1))) else qbO.l0 k s l (pos + 1)) else none) else some true
def qbO.f (k : Nat) (a0 : ByteArray) (l1 : List (qaj)) : Option (Bool) := qbO.l0 k a0 l1 0
theorem qbO.calls (k : Nat) (a0 : ByteArray) (A1 : Option Addr) (c1 : Nat) (l1 : List (qaj)) (r : Bool) (w : World) (hr1 : Kd.C qa1 w A1 l1.length l1) (hc1 : l1.length ≤ c1) (h : qbO.f k a0 l1 = some r) :
    Calls Tryz.prog 60 #[.string a0, .slice A1 l1.length c1] w fun e w' => e = .returned (.bool r) ∧ Below w.heap.size w w' := by
  have HR := ak_ hr1; have HC := ak_ hc1; clear hr1 hc1; have H : qbO.l0 k a0 l1 0 = some r := h; clear h; have H' := ak_ H; clear H; go_enter Tryz.func60, Tryz.ntmps60; go_wp2
  go_loopg [] k (fun kq wx => ∃ pos : Nat, wx.heap[w.heap.size]? = some (.stringIter a0 pos) ∧ qah (Below w.heap.size w wx) ∧ qah (qbO.l0 kq a0 l1 pos = some r) ∧ qah (kq ≤ k))
  case atStart => exact ⟨0, World.iter_heap w a0 0, ⟨(Below.refl _ w).alloc (Nat.le_refl _) _⟩, H', ⟨Nat.le_refl _⟩⟩
  case round =>
    clear H'; obtain ⟨pos, hit, HB, HA, HK⟩ := hrel
    cases gk with
    | zero => exact absurd HA.out (by simp [qbO.l0])
    | succ k1 =>
      have H := HA.out; clear HA; simp only [qbO.l0] at H; by_cases hps : pos < a0.size; rotate_left
      ·rw [if_neg hps] at H
       have hnx : ∀ ty, (Instr.next (.pointer (some ⟨w.heap.size, 0, none⟩)) true ty).run Tryz.prog wr = _ := fun ty => Lib.run_next_end_at wr w.heap.size a0 pos ty hit hps
       obtain rfl := Option.some.inj H; go_wp2
       go_ret
       exact ⟨rfl, HB.out⟩
      rw [if_pos hps] at H; by_cases ha : bt a0 pos < 128; rotate_left
      ·rw [if_neg ha] at H; exact absurd H (by simp)
      rw [if_pos ha] at H
      have hnx : ∀ ty, (Instr.next (.pointer (some ⟨w.heap.size, 0, none⟩)) true ty).run Tryz.prog wr = _ := fun ty => Lib.run_next_ascii_at wr w.heap.size a0 pos ty hit hps (by have := qli a0 pos hps; omega)
      have qr9 := Lib.iterAt_heap wr w.heap.size a0 pos (pos + 1) hit; have qtr := Lib.below_iterAt HB.out (k := w.heap.size) (Nat.le_refl _) a0 (pos + 1)
      obtain ⟨W, hWd⟩ : ∃ W, wr.iterAt w.heap.size a0 (pos + 1) = W := ⟨_, rfl⟩
      rw [hWd] at hnx qr9 qtr; have hltW : w.heap.size < W.heap.size := (Array.getElem?_eq_some_iff.1 qr9).1; clear hit hWd HB ha; have HB := ak_ qtr; have HI := ak_ qr9; clear qtr qr9; have hx6 := qli a0 pos; have p6 := eq_true (show 0 ≤ ((pos : Nat) : Int) by omega); have q6 := eq_true (show ((pos : Nat) : Int) < (a0.size : Int) by omega); by_cases c11 : (bt a0 pos) = 120; rotate_left
      ·rw [if_neg c11] at H; have qlj : ((bt a0 pos) == 120) = false := beq_eq_false_iff_ne.mpr c11; have qmt : ((bt a0 pos) != 120) = true := bne_iff_ne.mpr c11; have H' := ak_ H; clear H; go_wp2
       go_roundg k1
       case measure => have := HK.out; omega
       case rel => exact ⟨pos + 1, HI.out, HB, H', ⟨by have := HK.out; omega⟩⟩
      rw [if_pos c11] at H; have qlj : ((bt a0 pos) == 120) = true := beq_iff_eq.mpr c11; have qmt : ((bt a0 pos) != 120) = false := bne_eq_false_iff_eq.mpr c11; clear c11; replace H := Option.bind_eq_some_iff.mp H; obtain ⟨q, A20, H⟩ := H; have HM := ak_ (qeO.calls k1 A1 c1 l1 (wrap64 ((pos : Int) + 1)) q W (Kd.qer HR.out HB.out) HC.out A20); clear A20
      cases q with
      | true =>
        rw [if_pos rfl] at H; obtain rfl := Option.some.inj H; clear H
        go_wp2_with (go_at_call 87; refine HM.out.mono ?_; rintro e W' ⟨rfl, hbc⟩)
        go_ret
        exact ⟨rfl, HB.out.trans (hbc.mono HB.out.size)⟩
      | false =>
        rw [if_neg (by decide)] at H; have H' := ak_ H; clear H
        go_wp2_with (go_at_call 87; refine HM.out.mono ?_; rintro e W' ⟨rfl, hbc⟩)
        go_roundg k1
        case measure => have := HK.out; omega
        case rel => exact ⟨pos + 1, (hbc.block _ hltW).trans HI.out, ⟨HB.out.trans (hbc.mono HB.out.size)⟩, H', ⟨by have := HK.out; omega⟩⟩
def PredR (g : Nat) (lb : Array Value) (p : qaj → Bool) (l : List qaj) (w : World) : Prop :=
  ∀ (W : World) (x : qaj), x ∈ l → Below w.heap.size w W → Calls Tryz.prog g (#[.agg #[.int .i64 x.f0, .int .i64 x.f1]] ++ lb) W fun e w' => e = .returned (.bool (p x)) ∧ Below w.heap.size w w'
def qd3 (p : qaj → Bool) : List qaj → Int → Int
  | [], _ => -1
  | x :: l, i => if p x = true then i else qd3 p l (i + 1)
theorem qln (l : List qaj) (k : Nat) (h : k < l.length) : l.drop k = qab l k :: l.drop (k + 1) := by
  rw [List.drop_eq_getElem_cons h]
  simp [qab, List.getD, h]
theorem qm7 (l : List qaj) (k : Nat) (h : k < l.length) : qab l k ∈ l := by
  simp [qab, List.getD, h]
theorem qp8 {p : qaj → Bool} {l : List qaj} {k : Nat} (h : k < l.length) (hp : p (qab l k) = true) : qd3 p (l.drop k) k = k := by
  rw [qln l k h, qd3, if_pos hp]
theorem qoS {p : qaj → Bool} {l : List qaj} {k : Nat} (h : k < l.length) (hp : p (qab l k) = false) : qd3 p (l.drop k) k = qd3 p (l.drop (k + 1)) ((k + 1 : Nat) : Int) := by
  rw [qln l k h, qd3, if_neg (by simp [hp])]; rfl
theorem qp7 {p : qaj → Bool} {l : List qaj} {k : Nat} (h : l.length ≤ k) : qd3 p (l.drop k) k = -1 := by
  rw [List.drop_eq_nil_of_le h]; rfl
set_option maxHeartbeats 2000000 in
theorem ql3 (p : qaj → Bool) (g : Nat) (lb : Array Value) (eg : ∀ args w, (callFunc g args).run Tryz.prog w = .ok (.enter g args) w)
    (A0 : Option Addr) (c0 : Nat) (l0 : List qaj) (w : World) (hp : PredR g lb p l0 w) (hr0 : Kd.C qa1 w A0 l0.length l0) :
    Calls Tryz.prog 70 #[.slice A0 l0.length c0, .func (.func g) #[] lb] w fun e w' => e = .returned (.int .i64 (qd3 p l0 0)) ∧ Below w.heap.size w w' := by
  have hu := Tryz.underlying33; have hm : l0.length ≤ 9223372036854775807 := Kd.qrl hr0; have HR0 := ak_ hr0; have HP := ak_ hp; clear hr0 hp; have HB := ak_ (Below.refl w.heap.size w); have H0 := ak_ (show qd3 p l0 0 = qd3 p (l0.drop 0) ((0 : Nat) : Int) from rfl); go_enter Tryz.func70, Tryz.ntmps70; go_wp2
  go_loopg [5, 8] l0.length (fun gg _ s8 wr => ∃ kk : Nat, kk ≤ l0.length ∧ l0.length - kk ≤ gg ∧ s8 = .int .i64 kk ∧ qah (Below w.heap.size w wr) ∧ qah (qd3 p l0 0 = qd3 p (l0.drop kk) kk))
  case atStart => exact ⟨0, Nat.zero_le _, by omega, rfl, HB, H0⟩
  case round =>
    clear HB H0; obtain ⟨kk, hkk, hg, rfl, HB, HI⟩ := hrel; by_cases hlt : kk < l0.length; rotate_left
    ·have hltz : ¬ (kk : Int) < (l0.length : Int) := by omega
     have HQ := ak_ (qp7 (p := p) (l := l0) (k := kk) (by omega)); go_wp2
     go_ret
     exact ⟨by rw [HI.out, HQ.out]; rfl, HB.out⟩
    have hltz : (kk : Int) < (l0.length : Int) := by omega
    obtain ⟨ad, e, hx0, hx1⟩ := qcq HR0.out (kk : Int) (by omega) hltz
    cases e
    replace hx0 := (HB.out.cell (World.block_lt_of_cell? w _ hx0)).trans hx0; replace hx1 := (HB.out.cell (World.block_lt_of_cell? w _ hx1)).trans hx1; simp only [Int.toNat_natCast] at hx0 hx1; have hcall := HP.out wr (qab l0 (kk : Int)) (qm7 l0 kk hlt) HB.out
    cases hq : p (qab l0 (kk : Int)) with
    | true =>
      rw [hq] at hcall; have HQ := ak_ (qp8 hlt hq); clear hq
      go_wp2_with (go_at_fn g; refine hcall.mono ?_; rintro e w' ⟨rfl, hb'⟩)
      go_ret
      exact ⟨by rw [HI.out, HQ.out]; rfl, hb'⟩
    | false =>
      rw [hq] at hcall; have HQ := ak_ (qoS hlt hq); clear hq
      go_wp2_with (go_at_fn g; refine hcall.mono ?_; rintro e w' ⟨rfl, hb'⟩)
      go_roundg (l0.length - (kk + 1))
      case measure => omega
      case rel => exact ⟨kk + 1, by omega, by omega, by go_num, ⟨hb'⟩, ⟨by rw [HI.out, HQ.out]⟩⟩
theorem qc4 : (Tryz.prog.info? 33).map (fun i => (i.zero, i.size, i.bytes)) = some (some (.agg #[(.int .i64 0), (.int .i64 0)]), 2, 16) := by kernel_rfl
def qeZ (w0 w : World) (vo v : Value) (o : List (List qaj)) (W : World) : Prop :=
  Kd.S (Kd.slice 33 qa1) 24 W w0.heap.size (fun _ => True) v o ∧ Below w0.heap.size w0 W ∧ w.grownBy W vo.ownBlock ∧ (v.ownBlock = vo.ownBlock ∨ ∃ b, v.ownBlock = some b ∧ w.heap.size ≤ b)
theorem qej {w w1 w2 : World} {r r' : Option Nat} (h : w.grownBy w1 r) (h2 : w1.grownBy w2 r') (hr : r' = r ∨ ∃ b, r' = some b ∧ w.heap.size ≤ b) : w.grownBy w2 r :=
  ⟨h2.os.trans h.os, h2.tape.trans h.tape, h2.output.trans h.output, Nat.le_trans h.size h2.size, fun k hk hne => (h2.block k (Nat.lt_of_lt_of_le hk h.size) (fun e => by
    rcases hr with hr | ⟨b, hr, hb⟩
    ·exact hne (e.trans hr)
    rw [hr] at e; injection e with e; omega)).trans (h.block k hk hne)⟩
theorem qoM {w w1 w2 : World} {r : Option Nat} (h : Below w.heap.size w w1) (h2 : w1.grownBy w2 r) : w.grownBy w2 r := qej (qcc h r) h2 (.inl rfl)
theorem qeZ.refl {w0 w : World} {v : Value} {o : List (List qaj)} (hS : Kd.S (Kd.slice 33 qa1) 24 w w0.heap.size (fun _ => True) v o) (hB : Below w0.heap.size w0 w) : qeZ w0 w v v o w :=
  ⟨hS, hB, qcc (Below.refl _ _) _, .inl rfl⟩
theorem qeZ.below {w0 w : World} {vo v : Value} {o : List (List qaj)} {W W1 : World} (h : qeZ w0 w vo v o W) (hb : Below W.heap.size W W1) : qeZ w0 w vo v o W1 :=
  ⟨Kd.qdB h.1 hb, qac h.2.1 hb, qej h.2.2.1 (qcc hb vo.ownBlock) (.inl rfl), h.2.2.2⟩
theorem qeZ.trans {w0 w : World} {vo v v1 : Value} {o o1 : List (List qaj)} {W W1 : World} (h : qeZ w0 w vo v o W) (h2 : qeZ w0 W v v1 o1 W1) : qeZ w0 w vo v1 o1 W1 := by
  refine ⟨h2.1, h2.2.1, qej h.2.2.1 h2.2.2.1 h.2.2.2, ?_⟩
  rcases h2.2.2.2 with e | ⟨b, e, hb⟩
  ·rw [e]; exact h.2.2.2
  exact .inr ⟨b, e, Nat.le_trans h.2.2.1.size hb⟩
def fIx {α : Type} (p : α → Bool) : List α → Int → Int
  | [], _ => -1
  | x :: l, i => if p x = true then i else fIx p l (i + 1)
theorem qlq (p : qaj → Bool) : ∀ (l : List qaj) (i : Int), qd3 p l i = fIx p l i
  | [], _ => rfl
  | x :: l, i => by rw [qd3, fIx, qlq p l (i + 1)]
theorem qqO {α : Type} (p : α → Bool) : ∀ (l : List α) (i : Int), (fIx p l i = -1 ∧ l.filter (fun x => !p x) = l) ∨ ∃ k : Nat, k < l.length ∧ fIx p l i = i + k ∧ (l.take (k + 1)).filter (fun x => !p x) = l.take k
  | [], i => .inl ⟨rfl, rfl⟩
  | x :: l, i => by
    by_cases h : p x = true
    ·exact .inr ⟨0, by simp, by simp [fIx, h], by simp [h]⟩
    have hb : (!p x) = true := by simpa using h
    rcases qqO p l (i + 1) with ⟨e, f⟩ | ⟨k, hk, e, f⟩
    ·exact .inl ⟨by rw [fIx, if_neg h, e], by rw [List.filter_cons, if_pos hb, f]⟩
    refine .inr ⟨k + 1, by simpa using hk, by rw [fIx, if_neg h, e]; omega, ?_⟩; rw [List.take_succ_cons, List.filter_cons, if_pos hb, f, List.take_succ_cons]
structure KI {α : Type} (q : α → Bool) (xs ys : List α) (i j : Nat) : Prop where
  len : ys.length = xs.length
  lt : i < j
  le : j ≤ xs.length
  cnt : ((xs.take j).filter q).length = i
  low : ys.take i = (xs.take j).filter q
  high : ys.drop j = xs.drop j
theorem KI.start {α : Type} {q : α → Bool} {xs : List α} {k : Nat} (hk : k < xs.length) (h : (xs.take (k + 1)).filter q = xs.take k) : KI q xs xs k (k + 1) :=
  ⟨rfl, Nat.lt_succ_self _, hk, by rw [h, List.length_take]; omega, h.symm, rfl⟩
theorem KI.read {α : Type} {q : α → Bool} {xs ys : List α} {i j : Nat} (h : KI q xs ys i j) : ys[j]? = xs[j]? := by
  have h1 := congrArg (fun l => l[0]?) h.high
  simpa using h1
theorem KI.keep {α : Type} {q : α → Bool} {xs ys : List α} {i j : Nat} {x : α} (h : KI q xs ys i j) (hj : j < xs.length) (hx : xs[j]? = some x) (hq : q x = true) : KI q xs (ys.set i x) (i + 1) (j + 1) := by
  have e : xs.take (j + 1) = xs.take j ++ [x] := by rw [List.take_add_one, hx]; rfl
  have e2 : (xs.take (j + 1)).filter q = (xs.take j).filter q ++ [x] := by rw [e, List.filter_append, List.filter_cons, if_pos hq, List.filter_nil]
  have hi : i < ys.length := by have := h.lt; have := h.len; omega
  refine ⟨by simpa using h.len, by have := h.lt; omega, hj, by rw [e2, List.length_append, h.cnt]; rfl, ?_, ?_⟩
  ·rw [e2, ← h.low, List.take_succ_eq_append_getElem (by simpa using hi)]; simp only [List.take_set, List.getElem_set_self]; rw [List.set_eq_of_length_le (by simp; omega)]
  rw [List.drop_set_of_lt (by have := h.lt; omega), ← List.drop_drop, h.high, List.drop_drop]
theorem KI.skip {α : Type} {q : α → Bool} {xs ys : List α} {i j : Nat} {x : α} (h : KI q xs ys i j) (hj : j < xs.length) (hx : xs[j]? = some x) (hq : q x = false) : KI q xs ys i (j + 1) := by
  have e : xs.take (j + 1) = xs.take j ++ [x] := by rw [List.take_add_one, hx]; rfl
  have e2 : (xs.take (j + 1)).filter q = (xs.take j).filter q := by rw [e, List.filter_append, List.filter_cons, if_neg (by simp [hq]), List.filter_nil, List.append_nil]
  refine ⟨h.len, by have := h.lt; omega, hj, by rw [e2]; exact h.cnt, by rw [e2]; exact h.low, ?_⟩; rw [← List.drop_drop, h.high, List.drop_drop]
theorem KI.done {α : Type} {q : α → Bool} {xs ys : List α} {i : Nat} (h : KI q xs ys i xs.length) : ys.take i = xs.filter q ∧ i = (xs.filter q).length := by
  have h1 := h.low; have h2 := h.cnt; rw [List.take_length] at h1 h2; exact ⟨h1, h2.symm⟩
theorem qp4 {P : Program} {n : Nat} (w : World) (t e ty : TypeId) (z : Value) (ht : P.underlying t = some (.slice e)) (hv : ∀ w, (zeroValue e).run P w = .ok z w) (hz : ∀ u ∈ (Builtin.zeroCells z.cells n).toList, u.oneCell' = true) (b o c : Nat) (hn : 0 < n) (hne : 0 < z.cells.size)
    (hc : ∀ j, j < n * z.cells.size → (w.cell? ⟨b, o + j, none⟩).isSome = true) (hf : ∀ j, j < n * z.cells.size → w.frozen? ⟨b, o + j, none⟩ = false) :
    (Builtin.clear_ #[t] ty #[.slice (some ⟨b, o, none⟩) n c]).run P w = .ok (.tuple #[]) (w.setCells b o (Builtin.zeroCells z.cells n).toList) := by
  have hl : (Builtin.zeroCells z.cells n).toList.length = n * z.cells.size := by simp [Builtin.zeroCells]
  have hst := run_storeCells_cells (P := P) b o (Builtin.zeroCells z.cells n).toList 0 w (by rw [hl]; simpa using hc) (by rw [hl]; simpa using hf) hz; simp only [Nat.add_zero] at hst
  obtain ⟨m, rfl⟩ : ∃ m, n = m + 1 := ⟨n - 1, by omega⟩
  simp [Builtin.clear_, run_underlying ht, hv, hst]
theorem qjp (b : Nat) : ∀ (vs : List Value) (o : Nat) (w : World) (cur : Array Value) (e : TypeId) (fr : Nat × Nat), w.heap[b]? = some (.cells cur e fr) → ∃ cur', (w.setCells b o vs).heap[b]? = some (.cells cur' e fr) ∧ cur'.size = cur.size ∧ ∀ j, j < o → cur'[j]? = cur[j]?
  | [], _, _, cur, _, _, h => ⟨cur, h, rfl, fun _ _ => rfl⟩
  | v :: r, o, w, cur, e, fr, h => by
    have h1 : (w.setCell ⟨b, o, none⟩ v).heap[b]? = some (.cells (cur.setIfInBounds o v) e fr) := by simp [World.setCell, Array.getElem?_modify, h]
    obtain ⟨cur', h2, h3, h4⟩ := qjp b r (o + 1) _ _ _ _ h1; refine ⟨cur', h2, by simpa using h3, fun j hj => ?_⟩; rw [h4 j (by omega), Array.getElem?_setIfInBounds, if_neg (by omega)]
theorem R_clear {α : Type} {d : Kd α} {e base g n c : Nat} {ok : Nat → Prop} {w : World} {xs : List α} (h : d.R e w base ok (.slice (some ⟨g, 0, none⟩) n c) xs) (o : Nat) (vs : List Value) (ho : xs.length * d.sz ≤ o) : d.R e (w.setCells g o vs) base ok (.slice (some ⟨g, 0, none⟩) n c) xs := by
  obtain ⟨h0, inner, hown, hr⟩ := h; refine ⟨h0, inner, ⟨hown.1, ?_⟩, hr.qkF (fun p cs hp => d.M_move (fun k hk => qgS vs o k (fun e_ => hk.2 (by rw [e_]; rfl))) hp)⟩
  rcases hown.2 with ⟨hv, _⟩ | ⟨g', cap, cur, hv, hb, hh, hnc, hcm, hcs, ht⟩
  ·cases hv
  injection hv with ha hn hc
  injection ha with ha
  injection ha with hg
  subst hg; subst hc; obtain ⟨cur', h2, h3, h4⟩ := qjp g vs o w cur e (0, 0) hh; refine .inr ⟨g, c, cur', by rw [hn], hb, h2, hnc, hcm, by rw [h3]; exact hcs, ?_⟩; rw [← ht]; apply List.ext_getElem?; intro j; simp only [List.getElem?_take, Array.getElem?_toList]; split
  ·next hj => exact h4 j (by omega)
  rfl
theorem qmv (w : World) (g o : Nat) (vs : List Value) : w.grownBy (w.setCells g o vs) (some g) :=
  ⟨(qfj g vs o w).1, (qfj g vs o w).2.1, (qfj g vs o w).2.2.1, Nat.le_of_eq (qfj g vs o w).2.2.2.symm, fun k _ hk => qgS vs o k (fun e => hk (by rw [e]))⟩
theorem qsI {α : Type} {d : Kd α} {e base g n c : Nat} {ok : Nat → Prop} {w : World} {xs : List α} (h : d.R e w base ok (.slice (some ⟨g, 0, none⟩) n c) xs) (o : Nat) (ho : o < xs.length * d.sz) : (w.cell? ⟨g, o, none⟩).isSome = true ∧ w.frozen? ⟨g, o, none⟩ = false := by
  obtain ⟨h0, inner, hown, hr⟩ := h
  rcases hown.2 with ⟨hv, _⟩ | ⟨g', cap, cur, hv, hb, hh, hnc, hcm, hcs, ht⟩
  ·cases hv
  injection hv with ha hn hc
  injection ha with ha
  injection ha with hg
  subst hg; subst hc
  have hlt : o < cur.size := by
    rw [hcs]; exact Nat.lt_of_lt_of_le ho (Nat.mul_le_mul_right _ hnc)
  refine ⟨?_, qaU hh o⟩; rw [qaO hh o, Array.getElem?_eq_getElem hlt]; rfl
theorem add_off (g o n : Nat) : (⟨g, o, none⟩ : Addr).add n = ⟨g, o + n, none⟩ := qqG g o n
theorem zero_run {P : Program} {e : TypeId} {z : Value} {size bytes : Nat} (h : (P.info? e).map (fun i => (i.zero, i.size, i.bytes)) = some (some z, size, bytes)) (w : World) : (zeroValue e).run P w = .ok z w := by
  obtain ⟨i, hi, hz⟩ := Option.map_eq_some_iff.1 h; simp only [Prod.mk.injEq] at hz
  simp [zeroValue, typeInfo, hi, hz.1]
def kRaw (β : Type) : Kd (List Value × β) := Kd.iso (Kd.raw 1) Prod.fst
theorem qt9 (l : List Value) (j : Nat) (u : Value) (h : l[j]? = some u) : (l.drop (j * 1)).take 1 = [u] := by
  rw [Nat.mul_one]; obtain ⟨hj, rfl⟩ := List.getElem?_eq_some_iff.1 h; rw [List.drop_eq_getElem_cons hj]; rfl
theorem raw_of_S {β : Type} {d : Kd β} {e base : Nat} {ok : Nat → Prop} {w : World} {v : Value} {xs : List β} (h : Kd.S d e w base ok v xs) (hs : d.sz = 1) :
    ∃ (f : Nat → Nat) (zs : List (List Value × β)), zs.map Prod.snd = xs ∧ Kd.R (kRaw β) e w base ok v zs ∧ ∀ m z, zs[m]? = some z → (Kd.tag f d).M w base (fun k => ok k ∧ some k ≠ v.ownBlock) (z.2, m) z.1 := by
  obtain ⟨f, h0, inner, ho, hr⟩ := h; have hsz : (Kd.tag f d).sz = 1 := hs; rw [hsz] at ho hr; rw [List.length_zipIdx] at ho
  have hil : inner.length = xs.length := by have := hr.1; rw [List.length_zipIdx] at this; omega
  have hz : ∀ (m : Nat) (z : List Value × β), (List.zipWith (fun u x => ([u], x)) inner xs)[m]? = some z → ∃ (u : Value) (x : β), inner[m]? = some u ∧ xs[m]? = some x ∧ z = ([u], x) := by
    intro m z hm; rw [List.getElem?_zipWith] at hm
    cases h1 : inner[m]? with
    | none => rw [h1] at hm; simp at hm
    | some u =>
      cases h2 : xs[m]? with
      | none => rw [h1, h2] at hm; simp at hm
      | some x => rw [h1, h2] at hm; simp at hm; exact ⟨u, x, rfl, rfl, hm.symm⟩
  have hM : ∀ (m : Nat) (z : List Value × β), (List.zipWith (fun u x => ([u], x)) inner xs)[m]? = some z → (Kd.tag f d).M w base (fun k => ok k ∧ some k ≠ v.ownBlock) (z.2, m) z.1 := by
    intro m z hm; obtain ⟨u, x, h1, h2, rfl⟩ := hz m z hm; have h3 := hr.2 m (x, m) (Kd.zip_at h2); rwa [qt9 inner m u h1] at h3
  have hlen : (List.zipWith (fun u x => ([u], x)) inner xs).length = xs.length := by rw [List.length_zipWith]; omega
  refine ⟨f, List.zipWith (fun u x => ([u], x)) inner xs, ?_, ⟨h0, inner, by rw [hlen]; exact ho, by rw [hlen]; show inner.length = xs.length * 1; omega, fun m z hm => ?_⟩, hM⟩
  ·apply List.ext_getElem?; intro m; rw [List.getElem?_map, List.getElem?_zipWith]
   cases h2 : xs[m]? with
   | none => cases inner[m]? <;> rfl
   | some x =>
     have : m < inner.length := by rw [hil]; exact (List.getElem?_eq_some_iff.1 h2).1
     rw [List.getElem?_eq_getElem this]; rfl
  obtain ⟨u, x, h1, h2, rfl⟩ := hz m z hm
  show (kRaw β).M w base _ ([u], x) ((inner.drop (m * 1)).take 1)
  rw [qt9 inner m u h1]; exact ⟨rfl, rfl, (Kd.tag f d).K_one ((Kd.tag f d).K_of_M (hM m _ hm))⟩
theorem qlp {α : Type} (q : α → Bool) : ∀ (l : List α) (j : Nat) (z : α), (l.filter q)[j]? = some z → ∃ m, l[m]? = some z ∧ ((l.take m).filter q).length = j
  | [], j, z, h => by simp at h
  | x :: l, j, z, h => by
    by_cases hq : q x = true; rotate_left
    ·rw [List.filter_cons, if_neg hq] at h; obtain ⟨m, h1, h2⟩ := qlp q l j z h; exact ⟨m + 1, by simpa using h1, by rw [List.take_succ_cons, List.filter_cons, if_neg hq, h2]⟩
    rw [List.filter_cons, if_pos hq] at h
    cases j with
    | zero => exact ⟨0, by simpa using h, rfl⟩
    | succ j =>
      obtain ⟨m, h1, h2⟩ := qlp q l j z (by simpa using h); exact ⟨m + 1, by simpa using h1, by rw [List.take_succ_cons, List.filter_cons, if_pos hq, List.length_cons, h2]⟩
theorem S_of_raw {β : Type} {d : Kd β} (hs : d.sz = 1) {e base : Nat} {ok ok' : Nat → Prop} {w : World} {v : Value} {f : Nat → Nat} {zs : List (List Value × β)} (q : List Value × β → Bool)
    (hM : ∀ m z, zs[m]? = some z → (Kd.tag f d).M w base ok' (z.2, m) z.1) (hok : ∀ k, ok' k → ok k ∧ some k ≠ v.ownBlock) (h : Kd.R (kRaw β) e w base ok v (zs.filter q)) : Kd.S d e w base ok v ((zs.filter q).map Prod.snd) := by
  obtain ⟨h0, inner, ho, hr⟩ := h
  have hl : ((zs.filter q).map Prod.snd).zipIdx.length = (zs.filter q).length := by rw [List.length_zipIdx, List.length_map]
  refine ⟨fun k => ((zs.take (f k)).filter q).length, h0, inner, by rw [hl]; show w.ownsRow base e d.sz v _ inner; rw [hs]; exact ho, by rw [hl]; show inner.length = _ * d.sz; rw [hs]; exact hr.1, fun j y hj => ?_⟩; rw [List.getElem?_zipIdx, Nat.zero_add] at hj; obtain ⟨x, hx, rfl⟩ := Option.map_eq_some_iff.1 hj; rw [List.getElem?_map] at hx; obtain ⟨z, hz, rfl⟩ := Option.map_eq_some_iff.1 hx; obtain ⟨m, h1, h2⟩ := qlp q zs j z hz; have hraw : (inner.drop (j * 1)).take 1 = z.1 := (hr.2 j z hz).1
  show (Kd.tag _ d).M w base _ (z.2, j) ((inner.drop (j * d.sz)).take d.sz)
  rw [hs, hraw]; refine d.M_mono (fun k hk => ⟨hok k hk.1, ?_⟩) (hM m z h1); have h3 : f k = m := hk.2
  show ((zs.take (f k)).filter q).length = j
  rw [h3]; exact h2
mutual
def qbX.f : Nat → ByteArray → List qaj → List qaj → Int → List (List qaj) → Option (List (List qaj))
  | 0, _, _, _, _, _ => none
  | k + 1, p, fit, rules, left, out => if left = 0 then ((qbO.f k p rules).bind fun t => if t = true then (if out.length < 5864062014805 then (if rules.length < 8796093022207 then some (out ++ [rules]) else none) else none) else some out) else qbX.l0 k p fit rules left out 0
def qbX.l0 : Nat → ByteArray → List qaj → List qaj → Int → List (List qaj) → Nat → Option (List (List qaj))
  | 0, _, _, _, _, _, _ => none
  | k + 1, p, fit, rules, left, out, i => if i < fit.length then (if 300 < out.length then some out else (if rules.length < 8796093022207 then ((qbX.f k p (fit.drop (i + 1)) (rules ++ [qab fit i]) (wrap64 (left - 1)) out).bind fun o => qbX.l0 k p fit rules left o (i + 1)) else none)) else some out
end
theorem qrK : (Tryz.prog.info? 24).map (fun i => (i.zero, i.size, i.bytes)) = some (some (.slice none 0 0), 1, 24) := by kernel_rfl
theorem qbX.own (k : Nat) : ∀ (p : ByteArray) (fit rules : List qaj) (left : Int) (out r : List (List qaj)) (A1 : Option Addr) (c1 : Nat) (A2 : Option Addr) (c2 : Nat) (vo : Value) (w0 w : World)
    (_ : ∀ W', w.grownBy W' vo.ownBlock → Kd.C qa1 W' A1 fit.length fit) (_ : fit.length ≤ c1) (_ : ∀ W', w.grownBy W' vo.ownBlock → Kd.C qa1 W' A2 rules.length rules) (_ : rules.length ≤ c2)
    (_ : Kd.S (Kd.slice 33 qa1) 24 w w0.heap.size (fun _ => True) vo out) (_ : Below w0.heap.size w0 w) (_ : qbX.f k p fit rules left out = some r),
    Calls Tryz.prog 69 #[.string p, .slice A1 fit.length c1, .slice A2 rules.length c2, .int .i64 left, vo] w fun e w' => ∃ v1, e = .returned v1 ∧ qeZ w0 w vo v1 r w' := by
  induction k using Nat.strongRecOn with
  | ind k ih =>
  intro p fit rules left out r A1 c1 A2 c2 vo w0 w h1 hc1 h2 hc2 hS hB h; have IH := ak_ ih; have H1 := ak_ h1; have HC1 := ak_ hc1; have H2 := ak_ h2; have HC2 := ak_ hc2; have HP := ak_ (qeZ.refl hS hB); have HB := ak_ hB; have HS0 := ak_ (Kd.qdo (Kd.qhZ hS) (fun _ hk => hk.2.2.1)); have HVO := ak_ (Kd.S_lt hS); obtain ⟨Ao, co, eo⟩ := Kd.qcU hS; subst eo; clear ih h1 hc1 h2 hc2 hS hB
  cases k with
  | zero => exact absurd h (by simp [qbX.f])
  | succ k =>
    simp only [qbX.f] at h; by_cases c1_ : left = 0
    ·rw [if_pos c1_] at h; have c1b : (left == 0) = true := beq_iff_eq.mpr c1_; clear c1_; replace h := Option.bind_eq_some_iff.mp h; obtain ⟨t, A0_, h⟩ := h; have A_ := ak_ A0_; clear A0_
     cases t with
     | true =>
       rw [if_pos rfl] at h; by_cases c2_ : out.length < 5864062014805; rotate_left
       ·rw [if_neg c2_] at h; exact absurd h (by simp)
       rw [if_pos c2_] at h; have HLO := ak_ c2_; clear c2_; by_cases c3_ : rules.length < 8796093022207; rotate_left
       ·rw [if_neg c3_] at h; exact absurd h (by simp)
       rw [if_pos c3_] at h; have HLB := ak_ c3_; clear c3_; have HR := ak_ (Option.some.inj h); clear h; go_enter Tryz.func69, Tryz.ntmps69
       go_wp2_with (first | ((with_reducible refine qad (f := 60) rfl ?_); refine gl_ 17 Tryz.func60 #[.string p, .slice A2 rules.length c2] rfl qeX ?_; (with_reducible refine (qbO.calls k p _ _ rules true _ ?qaB ?qaC A_.out).mono ?_); (case qaB => exact H2.out _ (qcc (Below.refl _ _) _)); (case qaC => exact HC2.out); rintro e w1 ⟨rfl, hb⟩; refine ⟨_, rfl, ?_⟩; have HB1 := ak_ hb; have HS1 := ak_ (H2.out _ (qcc hb _)); clear hb) | ((with_reducible refine qas (N := 19) rfl ?_); refine Kd.qgM qa1 _ 33 ?hg (N := 19) ?hd (xs := ([] : List qaj)) (inner := []) (ok := fun _ => True) (okp := fun _ => True) ?hr ?hp (fun _ hk => hk) trivial (Below.refl _ _) (Nat.le_refl _) (by simp) ?_; (case hd => rfl); (case hg => rfl); (case hr => exact qa0); (case hp => exact qcj.none _ _); intro v19 w2 ho hb hg_ hnew_; clear hg_ hnew_; have HL0 := ak_ ho; have HB2 := ak_ hb; clear ho hb) | ((with_reducible refine qca (b := .append) (xs := #[.tmp 19, .tmp 20]) rfl ?_); at_builtin; refine Kd.qfJ qa1 (w0 := w1) w1.heap.size rfl (.tmp 19) (.tmp 20) 24 33 (.agg #[(.int .i64 0), (.int .i64 0)]) 16 rfl Tryz.underlying24 qc4 rfl (by decide) (by omega) v19 ([] : List qaj) rules _ _ _ (fun _ => True) (fun _ => False) rfl rfl ?aO ?aR (fun _ _ h => h) (fun _ h => h.elim) (fun _ _ => trivial) ?aB ?aS ?aL ?_; (case aO => exact HL0.out); (case aR => exact Kd.qer HS1.out HB2.out); (case aB => exact HB2.out); (case aS => exact qal HB2.out); (case aL => have h_ := HLB.out; simp only [List.length_nil]; omega); intro v21 w3 ho hb hg_ hat_; clear hg_ hat_; simp only [List.nil_append] at ho; have HL := ak_ ho; have HB3 := ak_ hb; clear HL0 HB2 ho hb; obtain ⟨A21, c21, e21⟩ := Kd.qbC HL.out; subst e21) | ((with_reducible refine qca (b := .append) (xs := #[.tmp 18, .tmp 22]) rfl ?_); at_builtin; refine Kd.qqF (Kd.slice 33 qa1) (w0 := w0) w0.heap.size rfl (.tmp 18) (.tmp 22) 25 24 (.slice none 0 0) 24 rfl Tryz.underlying25 qrK rfl (by decide) (by omega) (.slice Ao out.length co) out rules [.slice A21 rules.length c21] (fun _ => True) (fun k_ => some k_ = (.slice A21 rules.length c21 : Value).ownBlock) rfl rfl ?aP ?aK (fun _ _ => trivial) ?aO ?aB ?aS ?aL ?_; (case aP => exact Kd.M_row (Kd.qsM rfl (Kd.qby HL.out (Nat.le_trans HB.out.size HB1.out.size)))); (case aK => exact (fun k_ hk => ⟨trivial, fun e_ => by have h1_ := Kd.qc1 HL.out k_ hk.symm; have h2_ := HVO.out k_ e_.symm; have h3_ := HB1.out.size; omega⟩)); (case aO => exact Kd.qdo (Kd.qdB HS0.out (qac HB1.out HB3.out)) (fun k_ hk => ⟨trivial, fun e_ => by have h1_ := Kd.qc1 HL.out k_ e_.symm; have h3_ := HB1.out.size; omega⟩)); (case aB => exact qac (qac HB.out HB1.out) HB3.out); (case aS => exact qal (qac (qac HB.out HB1.out) HB3.out)); (case aL => have h_ := HLO.out; omega); intro v1 w4 ho hb hg hat; have HFIN := ak_ (show qeZ w0 w (.slice Ao out.length co) v1 (out ++ [rules]) w4 from ⟨ho, hb, qoM (qac HB1.out HB3.out) hg, hat.imp id (fun ⟨b_, e_, hb_⟩ => ⟨b_, e_, Nat.le_trans (qac HB1.out HB3.out).size hb_⟩)⟩); clear ho hb hg hat))
       go_ret
       exact ⟨_, rfl, by rw [← HR.out]; exact HFIN.out⟩
     | false =>
       rw [if_neg (by decide)] at h; have HR := ak_ (Option.some.inj h); clear h; go_enter Tryz.func69, Tryz.ntmps69
       go_wp2_with (((with_reducible refine qad (f := 60) rfl ?_); refine gl_ 17 Tryz.func60 #[.string p, .slice A2 rules.length c2] rfl qeX ?_; (with_reducible refine (qbO.calls k p _ _ rules false _ ?qaB ?qaC A_.out).mono ?_); (case qaB => exact H2.out _ (qcc (Below.refl _ _) _)); (case qaC => exact HC2.out); rintro e w1 ⟨rfl, hb⟩; refine ⟨_, rfl, ?_⟩; have HP1 := ak_ (qeZ.below HP.out hb); clear HP hb))
       go_ret
       exact ⟨_, rfl, by rw [← HR.out]; exact HP1.out⟩
    rw [if_neg c1_] at h; have c1b : (left == 0) = false := beq_eq_false_iff_ne.mpr c1_; clear c1_; have H' := ak_ h; clear h; go_enter Tryz.func69, Tryz.ntmps69; go_wp2
    go_loopg [4, 27] k (fun kq v4 v27 wx => ∃ (o : List (List qaj)) (i : Nat), v27 = .int .i64 i ∧ qah (qbX.l0 kq p fit rules left o i = some r) ∧ qah (kq ≤ k) ∧ qah (qeZ w0 w (.slice Ao out.length co) v4 o wx))
    case atStart => exact ⟨out, 0, rfl, H', ⟨Nat.le_refl _⟩, HP⟩
    case round =>
      clear H' HP; obtain ⟨o, i, rfl, HA_, HK, HPS⟩ := hrel
      cases gk with
      | zero => exact absurd HA_.out (by simp [qbX.l0])
      | succ k1 =>
        have H := HA_.out; clear HA_; simp only [qbX.l0] at H; by_cases c1_ : i < fit.length; rotate_left
        ·rw [if_neg c1_] at H; have c1b : decide ((i : Int) < (fit.length : Int)) = false := decide_eq_false (by omega); have c1c : decide (i < fit.length) = false := decide_eq_false c1_; clear c1_; have HR := ak_ (Option.some.inj H); clear H; go_wp2
         go_ret
         exact ⟨_, rfl, by rw [← HR.out]; exact HPS.out⟩
        rw [if_pos c1_] at H; have c1b : decide ((i : Int) < (fit.length : Int)) = true := decide_eq_true (by omega); have c1c : decide (i < fit.length) = true := decide_eq_true c1_; obtain ⟨ad, e_, hx0, hx1⟩ := qcq (H1.out _ HPS.out.2.2.1) (i : Int) (by omega) (by omega)
        cases e_
        simp only [Int.toNat_natCast] at hx0 hx1
        have c1z : (i : Int) < (fit.length : Int) := by omega
        by_cases c2_ : 300 < o.length
        ·rw [if_pos c2_] at H; have c2b : decide ((300 : Int) < (o.length : Int)) = true := decide_eq_true (by omega); have c2c : decide (300 < o.length) = true := decide_eq_true c2_; clear c2_; have HR := ak_ (Option.some.inj H); clear H; obtain ⟨Aq, cq, eq_⟩ := Kd.qcU HPS.out.1; subst eq_
         go_wp2_with ((with_reducible refine qas (N := 12) rfl ?_); refine bx_ 12 (cs := #[.int .i64 0, .int .i64 0]) (t := 33) qa0 ?_; intro g12 hg w20 hbox hb; have BK := ak_ hbox; have HBx0 := ak_ hb; have HG := ak_ (Nat.le_of_eq hg.symm); have qr5 : w20.cell? ⟨g12, 0, none⟩ = some (.int .i64 0) := (qaO hbox 0).trans rfl; have qr6 : w20.cell? ⟨g12, 1, none⟩ = some (.int .i64 0) := (qaO hbox 1).trans rfl; have qr7 := qaU hbox 0; have qr8 := qaU hbox 1; clear hbox hb hg)
         go_ret
         exact ⟨_, rfl, by rw [← HR.out]; exact qeZ.below HPS.out (qaw (qaw HBx0.out HG.out) HG.out)⟩
        rw [if_neg c2_] at H; have c2b : decide ((300 : Int) < (o.length : Int)) = false := decide_eq_false (by omega); have c2c : decide (300 < o.length) = false := decide_eq_false c2_; clear c2_; by_cases c3_ : rules.length < 8796093022207; rotate_left
        ·rw [if_neg c3_] at H; exact absurd H (by simp)
        rw [if_pos c3_] at H; have HLB := ak_ c3_; clear c3_; replace H := Option.bind_eq_some_iff.mp H; obtain ⟨o2, A0_, H⟩ := H
        obtain ⟨fd, hfd⟩ : ∃ l_, l_ = fit.drop (i + 1) := ⟨_, rfl⟩
        rw [← hfd] at A0_; have A_ := ak_ A0_; have H' := ak_ H; clear A0_ H; have HV := ak_ (Kd.S_lt HPS.out.1); obtain ⟨Aq, cq, eq_⟩ := Kd.qcU HPS.out.1; subst eq_; have hfl : fit.length ≤ 9223372036854775807 := Kd.qrl (H1.out _ HPS.out.2.2.1); have hil : (i : Int) < (fit.length : Int) := of_decide_eq_true c1b
        have hw_ : (wrap64 ((i : Int) + 1)).toNat = i + 1 := by unfold wrap64; omega
        have hw0_ : 0 ≤ wrap64 ((i : Int) + 1) := by unfold wrap64; omega
        have hw1_ : wrap64 ((i : Int) + 1) ≤ (fit.length : Int) := by unfold wrap64; omega
        obtain ⟨A39, hA39⟩ : ∃ a_, a_ = (if c1 = i + 1 then some ad else (some ad : Option Addr).map (·.add ((i + 1) * 2))) := ⟨_, rfl⟩
        obtain ⟨c39, hc39⟩ : ∃ a_, a_ = c1 - (i + 1) := ⟨_, rfl⟩
        obtain ⟨i0_, hi0_, _, hsz_, _⟩ := info_parts qc4
        have hcut : ∀ W : World, (Instr.slice 24 (.slice (some ad) fit.length c1) (some (.int .i64 (wrap64 ((i : Int) + 1)))) none none).run Tryz.prog W = .ok (.slice A39 fd.length c39) W := by
          intro W; have h := qqK (P := Tryz.prog) 24 33 .i64 Tryz.underlying24 hi0_ 2 hsz_ (some ad) fit.length c1 (wrap64 ((i : Int) + 1)) hw0_ hw1_ W; rw [hw_] at h; rw [h, hA39, hc39, hfd, List.length_drop]
        have HF2 := ak_ (show ∀ W' : World, Kd.C qa1 W' (some ad) fit.length fit → Kd.C qa1 W' A39 fd.length fd from fun W' h_ => by rw [hA39, hfd]; exact Kd.C_drop h_ (by omega) HC1.out); have HC39 := ak_ (show fd.length ≤ c39 by rw [hc39, hfd, List.length_drop]; have := HC1.out; omega); clear hw_ hw0_ hw1_ hA39 hc39 hi0_ hsz_ hfd
        go_wp2_with ((with_reducible refine qas (N := 12) rfl ?_); refine bx_ 12 (cs := #[.int .i64 0, .int .i64 0]) (t := 33) qa0 ?_; intro g12 hg w20 hbox hb; have BK := ak_ hbox; have HBx0 := ak_ hb; have HG := ak_ (Nat.le_of_eq hg.symm); have qr5 : w20.cell? ⟨g12, 0, none⟩ = some (.int .i64 0) := (qaO hbox 0).trans rfl; have qr6 : w20.cell? ⟨g12, 1, none⟩ = some (.int .i64 0) := (qaO hbox 1).trans rfl; have qr7 := qaU hbox 0; have qr8 := qaU hbox 1; clear hbox hb hg)
        have hk7_ := qaQ (qaQ BK.out 0 (.int .i64 (qab fit i).f0) rfl) 1 (.int .i64 (qab fit i).f1) rfl; have HX0 := ak_ (show (((w20.setCell ⟨g12, 0, none⟩ (.int .i64 (qab fit i).f0)).setCell ⟨g12, 1, none⟩ (.int .i64 (qab fit i).f1)).drew).cell? ⟨g12, 0, none⟩ = some (.int .i64 (qab fit i).f0) from (qaO (qae hk7_) 0).trans rfl); have HX1 := ak_ (show (((w20.setCell ⟨g12, 0, none⟩ (.int .i64 (qab fit i).f0)).setCell ⟨g12, 1, none⟩ (.int .i64 (qab fit i).f1)).drew).cell? ⟨g12, 1, none⟩ = some (.int .i64 (qab fit i).f1) from (qaO (qae hk7_) 1).trans rfl); have HBx := ak_ (show Below wr.heap.size wr ((w20.setCell ⟨g12, 0, none⟩ (.int .i64 (qab fit i).f0)).setCell ⟨g12, 1, none⟩ (.int .i64 (qab fit i).f1)).drew from qap (qaw (qaw HBx0.out HG.out) HG.out)); clear hk7_ qr5 qr6 qr7 qr8 BK HBx0 HG; refine qc7 (n := 16) (S := fun w' => w'.cell? ⟨g12, 0, none⟩ = some (.int .i64 (qab fit i).f0) ∧ w'.cell? ⟨g12, 1, none⟩ = some (.int .i64 (qab fit i).f1)) (ds := [14]) #[false, false, false, false, false, false, false, false, false, false, false, false, false, false, false, false] (by kernel_rfl) rfl rfl ⟨HX0.out, HX1.out⟩ (fun hHeld => ?_)
        generalize ((w20.setCell ⟨g12, 0, none⟩ (.int .i64 (qab fit i).f0)).setCell ⟨g12, 1, none⟩ (.int .i64 (qab fit i).f1)).drew = wS at HX0 HX1 HBx hHeld ⊢
        have HBc := ak_ (Below.refl wS.heap.size wS); refine qef (i := 0) (N := some 35) (v := ?_) (a' := ?_) #[true, false, false, false, false, false, false, false, false, false, false, false, false, false, false, false] rfl rfl (by kernel_rfl) (fun _ _ _ h => h) (Or.inl ⟨by rfl, ?_⟩) ?_ ?_; rotate_left
        · intro w'
          go_simp
          with_reducible rfl
        rotate_left
        · simp only [Act.put, List.setIfInBounds_toArray, List.set_cons_zero, List.set_cons_succ, qbL, qbQ]
          rfl
        refine qef (i := 1) (N := some 36) (v := ?_) (a' := ?_) #[true, true, false, false, false, false, false, false, false, false, false, false, false, false, false, false] rfl rfl (by kernel_rfl) (fun _ _ _ h => h) (Or.inl ⟨by rfl, ?_⟩) ?_ ?_; rotate_left
        · intro w'
          go_simp
          with_reducible rfl
        rotate_left
        · simp only [Act.put, List.setIfInBounds_toArray, List.set_cons_zero, List.set_cons_succ, qbL, qbQ]
          rfl
        refine qef (i := 2) (N := some 37) (v := ?_) (a' := ?_) #[true, true, true, false, false, false, false, false, false, false, false, false, false, false, false, false] rfl rfl (by kernel_rfl) (fun _ _ _ h => h) (Or.inl ⟨by rfl, ?_⟩) ?_ ?_; rotate_left
        · intro w'
          go_simp
          with_reducible rfl
        rotate_left
        · simp only [Act.put, List.setIfInBounds_toArray, List.set_cons_zero, List.set_cons_succ, qbL, qbQ]
          rfl
        refine qef (i := 3) (N := some 38) (v := ?_) (a' := ?_) #[true, true, true, true, false, false, false, false, false, false, false, false, false, false, false, false] rfl rfl (by kernel_rfl) (fun _ _ _ h => h) (Or.inl ⟨by rfl, ?_⟩) ?_ ?_; rotate_left
        · intro w'
          go_simp
          with_reducible rfl
        rotate_left
        · simp only [Act.put, List.setIfInBounds_toArray, List.set_cons_zero, List.set_cons_succ, qbL, qbQ]
          rfl
        refine qef (i := 4) (N := some 39) (v := ?_) (a' := ?_) #[true, true, true, true, true, false, false, false, false, false, false, false, false, false, false, false] rfl rfl (by kernel_rfl) (fun _ _ _ h => h) (Or.inl ⟨by rfl, ?_⟩) ?_ ?_; rotate_left
        · intro w'
          go_simp
          with_reducible rfl
        rotate_left
        · simp only [Act.put, List.setIfInBounds_toArray, List.set_cons_zero, List.set_cons_succ, qbL, qbQ]
          rfl
        refine qef (i := 6) (N := some 41) (v := ?_) (a' := ?_) #[true, true, true, true, true, false, true, false, false, false, false, false, false, false, false, false] rfl rfl (by kernel_rfl) (fun _ _ _ h => h) (Or.inl ⟨by rfl, ?_⟩) ?_ ?_; rotate_left
        · intro w'
          go_simp
          with_reducible rfl
        rotate_left
        · simp only [Act.put, List.setIfInBounds_toArray, List.set_cons_zero, List.set_cons_succ, qbL, qbQ]
          rfl
        refine qef (i := 11) (N := some 46) (v := ?_) (a' := ?_) #[true, true, true, true, true, false, true, false, false, false, false, true, false, false, false, false] rfl rfl (by kernel_rfl) (fun _ _ _ h => h) (Or.inl ⟨by rfl, ?_⟩) ?_ ?_; rotate_left
        · intro w'
          go_simp
          with_reducible rfl
        rotate_left
        · simp only [Act.put, List.setIfInBounds_toArray, List.set_cons_zero, List.set_cons_succ, qbL, qbQ]
          rfl
        refine qef (i := 12) (N := some 47) (v := ?_) (a' := ?_) #[true, true, true, true, true, false, true, false, false, false, false, true, true, false, false, false] rfl rfl (by kernel_rfl) (fun _ _ _ h => h) (Or.inl ⟨by rfl, ?_⟩) ?_ ?_; rotate_left
        · intro w'
          go_simp
          with_reducible rfl
        rotate_left
        · simp only [Act.put, List.setIfInBounds_toArray, List.set_cons_zero, List.set_cons_succ, qbL, qbQ]
          rfl
        refine qef (i := 13) (N := some 48) (v := ?_) (a' := ?_) #[true, true, true, true, true, false, true, false, false, false, false, true, true, true, false, false] rfl rfl (by kernel_rfl) (fun _ _ _ h => h) (Or.inl ⟨by rfl, ?_⟩) ?_ ?_; rotate_left
        · intro w'
          go_simp
          with_reducible rfl
        rotate_left
        · simp only [Act.put, List.setIfInBounds_toArray, List.set_cons_zero, List.set_cons_succ, qbL, qbQ]
          rfl
        refine qg9 (i := 8) (N := some 43) (v := ?_) (a' := ?_) #[true, true, true, true, true, false, true, false, true, false, false, true, true, true, false, false] rfl rfl (by kernel_rfl) (fun _ _ _ h => h) (Or.inl ⟨by rfl, ?_⟩) hHeld ?_ ?_; rotate_left
        · rintro w' ⟨s0, s1⟩
          go_simp
          with_reducible rfl
        rotate_left
        · simp only [Act.put, List.setIfInBounds_toArray, List.set_cons_zero, List.set_cons_succ, qbL, qbQ]
          rfl
        refine qtT (σ := Value × Value × Value) 3 #[true, true, true, true, true, true, true, true, true, true, false, true, true, true, false, false] (fun s_ => [(40, s_.1), (42, s_.2.1), (44, s_.2.2)]) (fun s_ w' => Kd.R qa1 33 w' wS.heap.size (fun _ => True) s_.2.1 rules ∧ Kd.R qa1 33 w' wS.heap.size (fun _ => True) s_.2.2 [qab fit i] ∧ Below wS.heap.size wS w') ?_ ?_; rotate_left
        · intro hCont
          refine two_ (i := 5) (j := 9) (Ni := some 40) (Nj := some 44) #[true, true, true, true, true, true, true, false, true, false, false, true, true, true, false, false] #[true, true, true, true, true, false, true, false, true, true, false, true, true, true, false, false] rfl rfl rfl rfl (by kernel_rfl) (by decide) (by decide) (fun K hK => ?_) (fun K hK => ?_)
          ·skip
           refine Kd.qde qa1 _ 33 ?hg (N := 40) ?hd (xs := ([] : List qaj)) (inner := []) (ok := fun _ => True) (okp := fun _ => True) ?hr ?hp (fun _ hk => hk) trivial (Below.refl _ _) (Nat.le_refl _) (by simp) ?_
           (case hd => rfl)
           (case hg => rfl)
           (case hr => exact qa0)
           (case hp => exact qcj.none _ _)
           intro v40 w5_0 ho hb hg_ hnew_; clear hg_ hnew_; have HL0 := ak_ (Kd.qby ho (qal HBc.out)); clear ho; have n9_ := ak_ (qac HBc.out hb); clear HBc hb; have HBc := n9_; clear n9_; refine hK.out _ _ ⟨(qay HBc.out HX0.out), (qay HBc.out HX1.out)⟩ (fun hHeld => ?_); clear hK K; refine qeN (a' := ?_) ?_ ?_; rotate_left
           · show Act.put _ (some 40) _ = _
             simp only [Act.put, List.setIfInBounds_toArray, List.set_cons_zero, List.set_cons_succ, qbL, qbQ]; rfl
           refine two_ (i := 7) (j := 9) (Ni := some 42) (Nj := some 44) #[true, true, true, true, true, true, true, true, true, false, false, true, true, true, false, false] #[true, true, true, true, true, true, true, false, true, true, false, true, true, true, false, false] rfl rfl rfl rfl (by kernel_rfl) (by decide) (by decide) (fun K hK => ?_) (fun K hK => ?_)
           ·skip
            refine Kd.qcP qa1 (w0 := wS) wS.heap.size (by rfl) (.tmp 40) (.tmp 41) 24 33 (.agg #[(.int .i64 0), (.int .i64 0)]) 16 rfl Tryz.underlying24 qc4 rfl (by decide) (by omega) v40 ([] : List qaj) rules _ _ _ (fun _ => True) (fun _ => False) rfl rfl HL0.out ?aR (fun _ _ h => h) (fun _ h => h.elim) (fun _ _ => trivial) HBc.out (qal HBc.out) ?aL ?_
            (case aR => exact H2.out _ (qeZ.below (qeZ.below HPS.out HBx.out) HBc.out).2.2.1)
            (case aL => have h_ := HLB.out; simp only [List.length_nil]; omega)
            intro v42 w7_1 ho hb hg hat_; simp only [List.nil_append] at ho; clear hg hat_ HL0 HBc; have HA := ak_ ho; have HBc := ak_ hb; clear ho hb; refine hK.out _ _ ⟨(qay HBc.out HX0.out), (qay HBc.out HX1.out)⟩ (fun hHeld => ?_); clear hK K; refine qeN (a' := ?_) ?_ ?_; rotate_left
            · show Act.put _ (some 42) _ = _
              simp only [Act.put, List.setIfInBounds_toArray, List.set_cons_zero, List.set_cons_succ, qbL, qbQ]; rfl
            refine qe2 (i := 9) (N := some 44) #[true, true, true, true, true, true, true, true, true, true, false, true, true, true, false, false] rfl rfl (by kernel_rfl) (by decide) (fun K hK => ?_); refine Kd.qde qa1 _ 33 ?hg (N := 44) ?hd (xs := ([qab fit i] : List qaj)) (inner := [.int .i64 (qab fit i).f0, .int .i64 (qab fit i).f1]) (ok := fun _ => True) (okp := fun _ => True) ?hr ?hp (fun _ hk => hk) trivial (Below.refl _ _) (Nat.le_refl _) (by simp) ?_
            (case hd => rfl)
            (case hg => rfl)
            (case hr => exact qa0)
            (case hp => exact qcj.front (qdp _ _ _ (qab fit i)) rfl (qcj.none _ _) rfl)
            intro v44 w9_2 ho hb hg_ hnew_; clear hg_ hnew_; have n1_ := ak_ (Kd.qbn HA.out hb); clear HA; have HA := n1_; clear n1_; have HL1 := ak_ (Kd.qby ho (qal HBc.out)); clear ho; have n9_ := ak_ (qac HBc.out hb); clear HBc hb; have HBc := n9_; clear n9_; refine hK.out _ _ ⟨(qay HBc.out HX0.out), (qay HBc.out HX1.out)⟩ (fun hHeld => ?_); clear hK K; refine qeN (a' := ?_) ?_ ?_; rotate_left
            · show Act.put _ (some 44) _ = _
              simp only [Act.put, List.setIfInBounds_toArray, List.set_cons_zero, List.set_cons_succ, qbL, qbQ]; rfl
            exact qeN qrR (hCont (v40, v42, v44) _ ⟨HA.out, Kd.qaT HL1.out (fun _ _ => trivial), HBc.out⟩)
           skip
           refine Kd.qde qa1 _ 33 ?hg (N := 44) ?hd (xs := ([qab fit i] : List qaj)) (inner := [.int .i64 (qab fit i).f0, .int .i64 (qab fit i).f1]) (ok := fun _ => True) (okp := fun _ => True) ?hr ?hp (fun _ hk => hk) trivial (Below.refl _ _) (Nat.le_refl _) (by simp) ?_
           (case hd => rfl)
           (case hg => rfl)
           (case hr => exact qa0)
           (case hp => exact qcj.front (qdp _ _ _ (qab fit i)) rfl (qcj.none _ _) rfl)
           intro v44 w9_1 ho hb hg_ hnew_; clear hg_ hnew_; have HL1 := ak_ (Kd.qaT (Kd.qby (Kd.R_new' ho (Kd.qkc HL0.out)) (qal HBc.out)) (fun _ hk => hk.2)); have n1_ := ak_ (Kd.qbn HL0.out hb); clear HL0 ho; have HL0 := n1_; clear n1_; have n9_ := ak_ (qac HBc.out hb); clear HBc hb; have HBc := n9_; clear n9_; refine hK.out _ _ ⟨(qay HBc.out HX0.out), (qay HBc.out HX1.out)⟩ (fun hHeld => ?_); clear hK K; refine qeN (a' := ?_) ?_ ?_; rotate_left
           · show Act.put _ (some 44) _ = _
             simp only [Act.put, List.setIfInBounds_toArray, List.set_cons_zero, List.set_cons_succ, qbL, qbQ]; rfl
           refine qe2 (i := 7) (N := some 42) #[true, true, true, true, true, true, true, true, true, true, false, true, true, true, false, false] rfl rfl (by kernel_rfl) (by decide) (fun K hK => ?_); refine Kd.qcP qa1 (w0 := wS) wS.heap.size (by rfl) (.tmp 40) (.tmp 41) 24 33 (.agg #[(.int .i64 0), (.int .i64 0)]) 16 rfl Tryz.underlying24 qc4 rfl (by decide) (by omega) v40 ([] : List qaj) rules _ _ _ (fun _ => True) (fun _ => False) rfl rfl HL0.out ?aR (fun _ _ h => h) (fun _ h => h.elim) (fun _ _ => trivial) HBc.out (qal HBc.out) ?aL ?_
           (case aR => exact H2.out _ (qeZ.below (qeZ.below HPS.out HBx.out) HBc.out).2.2.1)
           (case aL => have h_ := HLB.out; simp only [List.length_nil]; omega)
           intro v42 w7_2 ho hb hg hat_; simp only [List.nil_append] at ho; have n1_ := ak_ (Kd.qla HL1.out hg (fun _ hk => hk)); clear HL1; have HL1 := n1_; clear n1_; clear hg hat_ HL0 HBc; have HA := ak_ ho; have HBc := ak_ hb; clear ho hb; refine hK.out _ _ ⟨(qay HBc.out HX0.out), (qay HBc.out HX1.out)⟩ (fun hHeld => ?_); clear hK K; refine qeN (a' := ?_) ?_ ?_; rotate_left
           · show Act.put _ (some 42) _ = _
             simp only [Act.put, List.setIfInBounds_toArray, List.set_cons_zero, List.set_cons_succ, qbL, qbQ]; rfl
           exact qeN qrR (hCont (v40, v42, v44) _ ⟨HA.out, Kd.qaT HL1.out (fun _ _ => trivial), HBc.out⟩)
          skip
          refine Kd.qde qa1 _ 33 ?hg (N := 44) ?hd (xs := ([qab fit i] : List qaj)) (inner := [.int .i64 (qab fit i).f0, .int .i64 (qab fit i).f1]) (ok := fun _ => True) (okp := fun _ => True) ?hr ?hp (fun _ hk => hk) trivial (Below.refl _ _) (Nat.le_refl _) (by simp) ?_
          (case hd => rfl)
          (case hg => rfl)
          (case hr => exact qa0)
          (case hp => exact qcj.front (qdp _ _ _ (qab fit i)) rfl (qcj.none _ _) rfl)
          intro v44 w9_0 ho hb hg_ hnew_; clear hg_ hnew_; have HL1 := ak_ (Kd.qby ho (qal HBc.out)); clear ho; have n9_ := ak_ (qac HBc.out hb); clear HBc hb; have HBc := n9_; clear n9_; refine hK.out _ _ ⟨(qay HBc.out HX0.out), (qay HBc.out HX1.out)⟩ (fun hHeld => ?_); clear hK K; refine qeN (a' := ?_) ?_ ?_; rotate_left
          · show Act.put _ (some 44) _ = _
            simp only [Act.put, List.setIfInBounds_toArray, List.set_cons_zero, List.set_cons_succ, qbL, qbQ]; rfl
          refine qe2 (i := 5) (N := some 40) #[true, true, true, true, true, true, true, false, true, true, false, true, true, true, false, false] rfl rfl (by kernel_rfl) (by decide) (fun K hK => ?_); refine Kd.qde qa1 _ 33 ?hg (N := 40) ?hd (xs := ([] : List qaj)) (inner := []) (ok := fun _ => True) (okp := fun _ => True) ?hr ?hp (fun _ hk => hk) trivial (Below.refl _ _) (Nat.le_refl _) (by simp) ?_
          (case hd => rfl)
          (case hg => rfl)
          (case hr => exact qa0)
          (case hp => exact qcj.none _ _)
          intro v40 w5_1 ho hb hg_ hnew_; clear hg_ hnew_; have n1_ := ak_ (Kd.qaT (Kd.R_elder' HL1.out (Kd.qc1 ho) hb) (fun _ hk => hk.2)); clear HL1; have HL1 := n1_; clear n1_; have HL0 := ak_ (Kd.qby ho (qal HBc.out)); clear ho; have n9_ := ak_ (qac HBc.out hb); clear HBc hb; have HBc := n9_; clear n9_; refine hK.out _ _ ⟨(qay HBc.out HX0.out), (qay HBc.out HX1.out)⟩ (fun hHeld => ?_); clear hK K; refine qeN (a' := ?_) ?_ ?_; rotate_left
          · show Act.put _ (some 40) _ = _
            simp only [Act.put, List.setIfInBounds_toArray, List.set_cons_zero, List.set_cons_succ, qbL, qbQ]; rfl
          refine qe2 (i := 7) (N := some 42) #[true, true, true, true, true, true, true, true, true, true, false, true, true, true, false, false] rfl rfl (by kernel_rfl) (by decide) (fun K hK => ?_); refine Kd.qcP qa1 (w0 := wS) wS.heap.size (by rfl) (.tmp 40) (.tmp 41) 24 33 (.agg #[(.int .i64 0), (.int .i64 0)]) 16 rfl Tryz.underlying24 qc4 rfl (by decide) (by omega) v40 ([] : List qaj) rules _ _ _ (fun _ => True) (fun _ => False) rfl rfl HL0.out ?aR (fun _ _ h => h) (fun _ h => h.elim) (fun _ _ => trivial) HBc.out (qal HBc.out) ?aL ?_
          (case aR => exact H2.out _ (qeZ.below (qeZ.below HPS.out HBx.out) HBc.out).2.2.1)
          (case aL => have h_ := HLB.out; simp only [List.length_nil]; omega)
          intro v42 w7_2 ho hb hg hat_; simp only [List.nil_append] at ho; have n1_ := ak_ (Kd.qla HL1.out hg (fun _ hk => hk)); clear HL1; have HL1 := n1_; clear n1_; clear hg hat_ HL0 HBc; have HA := ak_ ho; have HBc := ak_ hb; clear ho hb; refine hK.out _ _ ⟨(qay HBc.out HX0.out), (qay HBc.out HX1.out)⟩ (fun hHeld => ?_); clear hK K; refine qeN (a' := ?_) ?_ ?_; rotate_left
          · show Act.put _ (some 42) _ = _
            simp only [Act.put, List.setIfInBounds_toArray, List.set_cons_zero, List.set_cons_succ, qbL, qbQ]; rfl
          exact qeN qrR (hCont (v40, v42, v44) _ ⟨HA.out, Kd.qaT HL1.out (fun _ _ => trivial), HBc.out⟩)
        rintro ⟨v40, v42, v44⟩ wJ ⟨ha_, hl_, hb_⟩; clear HBc; have HA := ak_ ha_; have HL1 := ak_ hl_; have HBc := ak_ hb_; clear ha_ hl_ hb_; obtain ⟨A44, c44, e44⟩ := Kd.qbC HL1.out; dsimp only at e44; subst e44; refine qeN (a' := ?_) ?_ ?_; rotate_left
        · simp only [qjw, Act.put, List.setIfInBounds_toArray, List.set_cons_zero, List.set_cons_succ]
          rfl
        refine qe2 (i := 10) (N := some 45) #[true, true, true, true, true, true, true, true, true, true, true, true, true, true, false, false] rfl rfl (by kernel_rfl) (by decide) (fun K hK => ?_); refine Kd.qcP qa1 (w0 := wS) wS.heap.size (by rfl) (.tmp 42) (.tmp 44) 24 33 (.agg #[(.int .i64 0), (.int .i64 0)]) 16 rfl Tryz.underlying24 qc4 rfl (by decide) (by omega) v42 rules [qab fit i] _ _ _ (fun _ => True) (fun _ => False) rfl rfl HA.out ?aR (fun _ _ h => h) (fun _ h => h.elim) (fun _ _ => trivial) HBc.out (qal HBc.out) ?aL ?_
        (case aR => exact (Kd.R_reads' HL1.out).2.2)
        (case aL => have h_ := HLB.out; simp only [List.length_singleton]; omega)
        intro v45 wB ho hb hg hat_; clear hg hat_ HA HL1 HBc; have HA := ak_ ho; have HBc := ak_ hb; clear ho hb; obtain ⟨A45, c45, e45⟩ := Kd.qbC HA.out; subst e45; refine hK.out _ _ ⟨(qay HBc.out HX0.out), (qay HBc.out HX1.out)⟩ (fun hHeld => ?_); clear hK K; refine qeN (a' := ?_) ?_ ?_; rotate_left
        · show Act.put _ (some 45) _ = _
          simp only [Act.put, List.setIfInBounds_toArray, List.set_cons_zero, List.set_cons_succ, qbL, qbQ]; rfl
        refine qpf (i := 14) (N := some 49) #[true, true, true, true, true, true, true, true, true, true, true, true, true, true, true, false] rfl rfl (by kernel_rfl) (by decide) (fun K hK => ?_); refine qdz Tryz.func69 (by kernel_rfl) rfl #[.string p, .slice A39 fd.length c39, .slice A45 (rules ++ [qab fit i]).length c45, .int .i64 (wrap64 (left - 1)), .slice Aq o.length cq] (by rfl) rfl rfl qeX ?_; have HPB := ak_ (qeZ.below (qeZ.below HPS.out HBx.out) HBc.out); refine (IH.out k1 (by have := HK.out; omega) p fd (rules ++ [qab fit i]) (wrap64 (left - 1)) o o2 A39 c39 _ _ (.slice Aq o.length cq) w0 _ ?s1 ?s2 ?s3 ?s4 ?s5 ?s6 A_.out).mono ?_
        (case s1 => exact (fun W' hg' => HF2.out W' (H1.out _ (qej HPB.out.2.2.1 hg' HPB.out.2.2.2))))
        (case s2 => exact HC39.out)
        (case s3 => exact (fun W' hg' => (Kd.R_reads' (Kd.qla (Kd.qfK HA.out) hg' (fun k_ hk e_ => by have h1_ := HV.out k_ e_.symm; have h2_ := hk.2.1; have h3_ := HBx.out.size; omega))).2.2))
        (case s4 => exact (Kd.R_reads' HA.out).2.1)
        (case s5 => exact HPB.out.1)
        (case s6 => exact HPB.out.2.1)
        rintro e wC ⟨v49, rfl, hp⟩; refine ⟨_, rfl, ?_⟩; have HPN := ak_ (qeZ.trans HPB.out hp); clear hp HPB; refine hK.out _ _ ?_; clear hK K; refine qeN (a' := ?_) ?_ ?_; rotate_left
        · show Act.put _ (some 49) _ = _
          simp only [Act.put, List.setIfInBounds_toArray, List.set_cons_zero, List.set_cons_succ, qbL, qbQ]; rfl
        refine qef (i := 15) (N := some 4) (v := ?_) (a' := ?_) #[true, true, true, true, true, true, true, true, true, true, true, true, true, true, true, true] rfl rfl (by kernel_rfl) (fun _ _ _ h => h) (Or.inl ⟨by rfl, ?_⟩) ?_ ?_; rotate_left
        · intro w'
          go_simp
          with_reducible rfl
        rotate_left
        · simp only [Act.put, List.setIfInBounds_toArray, List.set_cons_zero, List.set_cons_succ, qbL, qbQ]
          rfl
        refine qeI (by kernel_rfl) ?_; go_wp2
        go_roundg k1
        case measure => have := HK.out; omega
        case rel => exact ⟨o2, i + 1, by go_num, H', ⟨by have := HK.out; omega⟩, HPN⟩
theorem qbX.calls (k : Nat) (a0 : ByteArray) (A1 : Option Addr) (c1 : Nat) (l1 : List qaj) (A2 : Option Addr) (c2 : Nat) (l2 : List qaj) (a3 : Int) (A4 : Option Addr) (c4 : Nat) (l4 : List (List qaj)) (r : List (List qaj)) (w : World)
    (hr1 : Kd.C qa1 w A1 l1.length l1) (hc1 : l1.length ≤ c1) (hr2 : Kd.C qa1 w A2 l2.length l2) (hc2 : l2.length ≤ c2) (hr4 : Kd.C (Kd.slice 33 qa1) w A4 l4.length l4) (hc4 : l4.length ≤ c4) (h : qbX.f k a0 l1 l2 a3 l4 = some r) (hnil : A4 = none ∧ c4 = 0 := by exact ⟨rfl, rfl⟩) :
    Calls Tryz.prog 69 #[.string a0, .slice A1 l1.length c1, .slice A2 l2.length c2, .int .i64 a3, .slice A4 l4.length c4] w fun e w' => ∃ v0_ : Value, e = .returned (v0_) ∧ Kd.S (Kd.slice 33 qa1) 24 w' w.heap.size (fun _ => True) v0_ r ∧ Below w.heap.size w w' := by
  obtain ⟨rfl, rfl⟩ := hnil; obtain rfl : l4 = [] := List.eq_nil_of_length_eq_zero (by omega)
  have hb : ∀ W', w.grownBy W' (Value.slice none ([] : List (List qaj)).length 0).ownBlock → Below w.heap.size w W' := fun W' hg => ⟨hg.os, hg.tape, hg.output, hg.size, fun k hk => hg.block k hk (by simp [Value.ownBlock])⟩
  exact (qbX.own k a0 l1 l2 a3 [] r A1 c1 A2 c2 (.slice none 0 0) w w (fun W' hg => Kd.qer hr1 (hb W' hg)) hc1 (fun W' hg => Kd.qer hr2 (hb W' hg)) hc2 (Kd.S_nil _ _ _ _ _) (Below.refl _ _) h).mono fun e w' ⟨v1, he, hp⟩ => ⟨v1, he, hp.1, hp.2.1⟩
def qba.f (k : Nat) (qax : ByteArray) (qaZ : Int) : Option ((List (List (qaj))) × Bool) := (qbl.f k qax qaZ).bind fun qaF => (if qaF = true then ((qbA.f k qax).bind fun qaX => ((qbX.f k qax qaX ([] : List (qaj)) qaZ ([] : List (List (qaj)))).bind fun qgH => (if (qgH.length : Int) > 300 then (some (([] : List (List (qaj))), false)) else (some (qgH, true))))) else (some (([] : List (List (qaj))), false)))
def qba.T3 : Bool × List (List Nat × List Nat) := (true, [([], []), ([0], [0]), ([], []), ([2], [2]), ([3], [3]), ([], []), ([5], [5]), ([1, 4, 6, 4], [1, 4, 6]), ([7, 7, 0, 1, 2, 3, 4, 5, 6, 7], [7])])
def qba.B3 : List Nat := [0, 1, 0, 4, 12, 0, 32, 127, 255]
theorem qba.tab3 : qhD .any (opsOf Tryz.f36 3) = qba.T3 := by kernel_rfl
theorem qba.qry : qeE qba.T3.2 qba.B3 = true := by kernel_rfl
theorem qba.calls (k : Nat) (qax : ByteArray) (qaZ : Int) (r1 : List (List (qaj))) (r2 : Bool) (w : World) (h : qba.f k qax qaZ = some (r1, r2)) :
  Calls Tryz.prog 36 #[.agg #[.string qax, .int .i64 qaZ]] w fun e w' => ∃ v0_ : Value, e = .returned (.tuple #[v0_, .bool r2]) ∧ Kd.S (Kd.slice 33 qa1) 24 w' w.heap.size (fun _ => True) v0_ r1 ∧ Below w.heap.size w w' := by
 have qiv := Tryz.underlying23; have HB := ak_ (Below.refl w.heap.size w); have H : ((qbl.f k qax qaZ).bind fun qaF => (if qaF = true then ((qbA.f k qax).bind fun qaX => ((qbX.f k qax qaX ([] : List (qaj)) qaZ ([] : List (List (qaj)))).bind fun qgH => (if (qgH.length : Int) > 300 then (some (([] : List (List (qaj))), false)) else (some (qgH, true))))) else (some (([] : List (List (qaj))), false)))) = some (r1, r2) := h; clear h; obtain ⟨qaF, A2, H⟩ := qbh H; (try dsimp only at H); by_cases c3 : qaF = true; rotate_left
 ·replace c3 := Bool.eq_false_iff.mpr c3; subst c3; rw [if_neg (show ¬ (false = true) by decide)] at H; simp only [Option.some.injEq, Prod.mk.injEq] at H; obtain ⟨rfl, rfl⟩ := H; go_enter Tryz.func36, Tryz.ntmps36
  go_wp2_with (first | ((with_reducible refine qas (N := 1) rfl ?_); refine bx_ 1 (cs := #[.string qax, .int .i64 qaZ]) (t := 23) qa0 ?_; intro qaR hg w23 hbox hb; have qai := ak_ (hbox); have qcB := ak_ (HB.ge hg); have qcg := ak_ (HB.ge hg); replace HB := HB.mw hb; clear hb hbox hg; obtain ⟨hcz24_0, hcz24_1, hfz24_0, hfz24_1⟩ := qa2 qai.out) | ((with_reducible refine qad (f := 45) rfl ?_); refine gl_ 6 Tryz.func45 #[.agg #[.string qax, .int .i64 qaZ]] rfl qbK ?_; (with_reducible refine (qbl.calls k qax qaZ false _ A2.out).mono ?_); rintro e w25 ⟨rfl, hb⟩; refine ⟨_, rfl, ?_⟩; replace qai := qai.mw hb; replace HB := ak_ (qac qaM hb); (try clear hb)))
  go_ret2
  exact ⟨_, qbx, k83_, qaM⟩
 subst c3; rw [if_pos rfl] at H; obtain ⟨qaX, A4, H⟩ := qbh H; (try dsimp only at H); obtain ⟨qgH, A5, H⟩ := qbh H; (try dsimp only at H); by_cases c6 : (qgH.length : Int) > 300
 ·rw [if_pos c6] at H; have qkn : decide (300 < (qgH.length : Int)) = true := decide_eq_true c6; have qr4 : decide (300 < qgH.length) = true := decide_eq_true (by omega); clear c6; simp only [Option.some.injEq, Prod.mk.injEq] at H; obtain ⟨rfl, rfl⟩ := H; go_enter Tryz.func36, Tryz.ntmps36
  try go_wp2_with (first | ((with_reducible refine qas (N := 1) rfl ?_); refine bx_ 1 (cs := #[.string qax, .int .i64 qaZ]) (t := 23) qa0 ?_; intro qaR hg w7 hbox hb; have qai := ak_ (hbox); have qcB := ak_ (HB.ge hg); have qcg := ak_ (HB.ge hg); replace HB := HB.mw hb; clear hb hbox hg; obtain ⟨qgg, qgh, qgz, qgi⟩ := qa2 qai.out) | ((with_reducible refine qad (f := 45) rfl ?_); refine gl_ 6 Tryz.func45 #[.agg #[.string qax, .int .i64 qaZ]] rfl qbK ?_; (with_reducible refine (qbl.calls k qax qaZ true _ A2.out).mono ?_); rintro e w9 ⟨rfl, hb⟩; refine ⟨_, rfl, ?_⟩; replace qai := qai.mw hb; replace HB := ak_ (qac qaM hb); (try clear hb)))
  replace qai := ak_ (qae qai.out); replace HB := ak_ (qap HB.out); refine qc7 (n := 9) (S := fun w' => w'.cell? ⟨qaR, 0, none⟩ = some (.string qax) ∧ w'.cell? ⟨qaR, 1, none⟩ = some (.int .i64 qaZ)) (ds := []) (rA_ [0, 9]) (by kernel_rfl) rfl rfl ⟨qbj qai.out, qbm qai.out⟩ (fun hHeld => ?_); refine qb1 qba.tab3 qba.qry (fun HT_ HW_ => ?_)
  generalize w9.drew = w10 at qai HB hHeld ⊢
  refine pu_ 0 8 [1, 8] ?_; refine pu_ 2 10 [1, 1, 1, 6] ?_; refine pu_ 5 13 [1, 1, 1, 2, 1, 3] ?_; refine qip 1 9 [3, 2, 1, 3] ?_; refine qip 3 11 [4, 1, 1, 3] ?_; refine qip 6 14 [4, 1, 2, 2] ?_; refine qe2 (i := 4) (N := some 12) (rA_ [7, 2]) rfl rfl (qcn HT_.out (by kernel_rfl)) (by decide) (fun K hK => ?_); refine qdz Tryz.func46 (by kernel_rfl) rfl #[.string qax] (by rfl) rfl rfl qbK ?_
  with_reducible refine (qbA.calls k qax qaX _ A4.out).mono ?_
  rintro e w11 ⟨v104, rfl, ho0, hb⟩; refine ⟨_, rfl, ?_⟩; have qfF := ak_ (Kd.qby ho0 (qal qaM)); replace qai := qai.mw hb; replace HB := ak_ (qac qaM hb); (try clear hb); (try clear hb2); (try clear hk); (try clear hi); (try clear ho0); obtain ⟨Ao12, co12, eo12⟩ := Kd.qbC qfF.out; (first | subst eo12 | (injection eo12 with f1_ f2_ f3_; have f4_ := f1_.symm; have f5_ := f3_.symm; clear f1_ f2_ f3_; subst f4_; subst f5_)); refine hK.out _ _ ⟨qbj qai.out, qbm qai.out⟩ (fun hHeld => ?_); clear hK K; refine nm_ 12 ?_; refine qe2 (i := 7) (N := some 15) (rA_ [8, 1]) rfl rfl (qcn HT_.out (by kernel_rfl)) (by decide) (fun K hK => ?_); refine qdz Tryz.func69 (by kernel_rfl) rfl #[.string qax, .slice Ao12 qaX.length co12, .slice none 0 0, .int .i64 qaZ, .slice none 0 0] (by rfl) rfl rfl qbK ?_; refine (qbX.calls k qax _ _ qaX _ _ ([] : List (qaj)) qaZ _ _ ([] : List (List (qaj))) qgH _ ?qaB ?qaC ?qdC ?qdD ?qhq ?side6 A5.out).mono ?_
  (case qaB => repeat (first | exact (Kd.R_reads' qfF.out).2.2 | (with_reducible refine Kd.qbV ?_ _) | (with_reducible refine Kd.qbW ?_ _) | (with_reducible refine Kd.qcs ?_)))
  (case qaC => exact (Kd.R_reads' qfF.out).2.1)
  (case qdC => exact Kd.qrm _ _)
  (case qdD => exact Nat.le_refl _)
  (case qhq => exact Kd.qrm _ _)
  (case side6 => exact Nat.le_refl _)
  rintro e w13 ⟨v107, rfl, ho0, hb⟩; refine ⟨_, rfl, ?_⟩; have HO108 := ak_ (Kd.qeV (Kd.S_new' ho0 (Kd.qkc (by apply_rules only [qfF.out, Kd.qaA, Kd.qaz, Kd.qaL]))) (qal qaM)); replace qfF := qfF.mw hb; replace qai := qai.mw hb; replace HB := ak_ (qac qaM hb); (try clear hb); (try clear hb2); (try clear hk); (try clear hi); (try clear ho0); refine hK.out _ _ ⟨qbj qai.out, qbm qai.out⟩ (fun hHeld => ?_); clear hK K; refine nm_ 15 ?_; refine pu_ 8 4 [9] ?_; refine qeI (qc3 HT_.out (by kernel_rfl)) ?_; obtain ⟨Ao14, co14, eo14⟩ := Kd.qcU HO108.out; subst eo14
  try go_wp2
  go_ret2
  exact ⟨_, qbx, k83_, qaM⟩
 rw [if_neg c6] at H; have qkn : decide (300 < (qgH.length : Int)) = false := decide_eq_false c6; have qr4 : decide (300 < qgH.length) = false := decide_eq_false (by omega); clear c6; simp only [Option.some.injEq, Prod.mk.injEq] at H; obtain ⟨rfl, rfl⟩ := H; go_enter Tryz.func36, Tryz.ntmps36
 try go_wp2_with (first | ((with_reducible refine qas (N := 1) rfl ?_); refine bx_ 1 (cs := #[.string qax, .int .i64 qaZ]) (t := 23) qa0 ?_; intro qaR hg w15 hbox hb; have qai := ak_ (hbox); have qcB := ak_ (HB.ge hg); have qcg := ak_ (HB.ge hg); replace HB := HB.mw hb; clear hb hbox hg; obtain ⟨qqf, qqg, qqj, qqk⟩ := qa2 qai.out) | ((with_reducible refine qad (f := 45) rfl ?_); refine gl_ 6 Tryz.func45 #[.agg #[.string qax, .int .i64 qaZ]] rfl qbK ?_; (with_reducible refine (qbl.calls k qax qaZ true _ A2.out).mono ?_); rintro e w17 ⟨rfl, hb⟩; refine ⟨_, rfl, ?_⟩; replace qai := qai.mw hb; replace HB := ak_ (qac qaM hb); (try clear hb)))
 replace qai := ak_ (qae qai.out); replace HB := ak_ (qap HB.out); refine qc7 (n := 9) (S := fun w' => w'.cell? ⟨qaR, 0, none⟩ = some (.string qax) ∧ w'.cell? ⟨qaR, 1, none⟩ = some (.int .i64 qaZ)) (ds := []) (rA_ [0, 9]) (by kernel_rfl) rfl rfl ⟨qbj qai.out, qbm qai.out⟩ (fun hHeld => ?_); refine qb1 qba.tab3 qba.qry (fun HT_ HW_ => ?_)
 generalize w17.drew = w18 at qai HB hHeld ⊢
 refine pu_ 0 8 [1, 8] ?_; refine pu_ 2 10 [1, 1, 1, 6] ?_; refine pu_ 5 13 [1, 1, 1, 2, 1, 3] ?_; refine qip 1 9 [3, 2, 1, 3] ?_; refine qip 3 11 [4, 1, 1, 3] ?_; refine qip 6 14 [4, 1, 2, 2] ?_; refine qe2 (i := 4) (N := some 12) (rA_ [7, 2]) rfl rfl (qcn HT_.out (by kernel_rfl)) (by decide) (fun K hK => ?_); refine qdz Tryz.func46 (by kernel_rfl) rfl #[.string qax] (by rfl) rfl rfl qbK ?_
 with_reducible refine (qbA.calls k qax qaX _ A4.out).mono ?_
 rintro e w19 ⟨v104, rfl, ho0, hb⟩; refine ⟨_, rfl, ?_⟩; have qfF := ak_ (Kd.qby ho0 (qal qaM)); replace qai := qai.mw hb; replace HB := ak_ (qac qaM hb); (try clear hb); (try clear hb2); (try clear hk); (try clear hi); (try clear ho0); obtain ⟨Ao20, co20, eo20⟩ := Kd.qbC qfF.out; (first | subst eo20 | (injection eo20 with f1_ f2_ f3_; have f4_ := f1_.symm; have f5_ := f3_.symm; clear f1_ f2_ f3_; subst f4_; subst f5_)); refine hK.out _ _ ⟨qbj qai.out, qbm qai.out⟩ (fun hHeld => ?_); clear hK K; refine nm_ 12 ?_; refine qe2 (i := 7) (N := some 15) (rA_ [8, 1]) rfl rfl (qcn HT_.out (by kernel_rfl)) (by decide) (fun K hK => ?_); refine qdz Tryz.func69 (by kernel_rfl) rfl #[.string qax, .slice Ao20 qaX.length co20, .slice none 0 0, .int .i64 qaZ, .slice none 0 0] (by rfl) rfl rfl qbK ?_; refine (qbX.calls k qax _ _ qaX _ _ ([] : List (qaj)) qaZ _ _ ([] : List (List (qaj))) qgH _ ?qaB ?qaC ?qdC ?qdD ?qhq ?side6 A5.out).mono ?_
 (case qaB => repeat (first | exact (Kd.R_reads' qfF.out).2.2 | (with_reducible refine Kd.qbV ?_ _) | (with_reducible refine Kd.qbW ?_ _) | (with_reducible refine Kd.qcs ?_)))
 (case qaC => exact (Kd.R_reads' qfF.out).2.1)
 (case qdC => exact Kd.qrm _ _)
 (case qdD => exact Nat.le_refl _)
 (case qhq => exact Kd.qrm _ _)
 (case side6 => exact Nat.le_refl _)
 rintro e w21 ⟨v107, rfl, ho0, hb⟩; refine ⟨_, rfl, ?_⟩; have HO108 := ak_ (Kd.qeV (Kd.S_new' ho0 (Kd.qkc (by apply_rules only [qfF.out, Kd.qaA, Kd.qaz, Kd.qaL]))) (qal qaM)); replace qfF := qfF.mw hb; replace qai := qai.mw hb; replace HB := ak_ (qac qaM hb); (try clear hb); (try clear hb2); (try clear hk); (try clear hi); (try clear ho0); refine hK.out _ _ ⟨qbj qai.out, qbm qai.out⟩ (fun hHeld => ?_); clear hK K; refine nm_ 15 ?_; refine pu_ 8 4 [9] ?_; refine qeI (qc3 HT_.out (by kernel_rfl)) ?_; obtain ⟨Ao22, co22, eo22⟩ := Kd.qcU HO108.out; subst eo22
 try go_wp2
 go_ret2
 exact ⟨_, qbx, by (with_reducible repeat (first | apply Kd.qdk | apply Kd.qdl | apply Kd.qdy)); exact Kd.qdo HO108.out (fun _ hk => trivial), qaM⟩
def qck.f (k : Nat) (qax : ByteArray) (qaZ : Int) : Option ((List (qaj)) × Bool) := (qba.f k qax qaZ).bind fun qa5 => (if qa5.2 = true then (if (qa5.1.length : Int) = 0 then (some (([] : List (qaj)), false)) else (if 0 < (qa5.1.length : Int) then (some (qar qa5.1 0, true)) else (none))) else (some (([] : List (qaj)), false)))
theorem qck.calls (k : Nat) (qax : ByteArray) (qaZ : Int) (r1 : List (qaj)) (r2 : Bool) (w : World) (h : qck.f k qax qaZ = some (r1, r2)) :
  Calls Tryz.prog 10 #[.agg #[.string qax, .int .i64 qaZ]] w fun e w' => ∃ v0_ : Value, e = .returned (.tuple #[v0_, .bool r2]) ∧ Kd.R qa1 33 w' w.heap.size (fun _ => True) v0_ r1 ∧ Below w.heap.size w w' := by
 have qiv := Tryz.underlying23; have HB := ak_ (Below.refl w.heap.size w); have H : ((qba.f k qax qaZ).bind fun qa5 => (if qa5.2 = true then (if (qa5.1.length : Int) = 0 then (some (([] : List (qaj)), false)) else (if 0 < (qa5.1.length : Int) then (some (qar qa5.1 0, true)) else (none))) else (some (([] : List (qaj)), false)))) = some (r1, r2) := h; clear h; obtain ⟨⟨qaF, t105⟩, A2, H⟩ := qbh H; (try dsimp only at H); by_cases c3 : t105 = true; rotate_left
 ·replace c3 := Bool.eq_false_iff.mpr c3; subst c3; rw [if_neg (show ¬ (false = true) by decide)] at H; simp only [Option.some.injEq, Prod.mk.injEq] at H; obtain ⟨rfl, rfl⟩ := H; go_enter Tryz.func10, Tryz.ntmps10
  go_wp2_with (first | ((with_reducible refine qas (N := 1) rfl ?_); (try (refine qav (by rfl) ?_; dsimp only)); refine bx_ 1 (cs := #[.string qax, .int .i64 qaZ]) (t := 23) qa0 ?_; intro qaR hg w14 hbox hb; have qai := ak_ (hbox); have qcB := ak_ (HB.ge hg); have qcg := ak_ (HB.ge hg); replace HB := HB.mw hb; clear hb hbox hg; obtain ⟨qiN, qiO, qiV, qiW⟩ := qa2 qai.out) | ((with_reducible refine qad (f := 36) rfl ?_); refine gl_ 8 Tryz.func36 #[.agg #[.string qax, .int .i64 qaZ]] rfl qbK ?_; (with_reducible refine (qba.calls k qax qaZ qaF false _ A2.out).mono ?_); rintro e w16 ⟨qsf, rfl, ho0, hb⟩; refine ⟨_, rfl, ?_⟩; have qfE := ak_ (Kd.qeV ho0 (qal qaM)); replace qai := qai.mw hb; replace HB := ak_ (qac qaM hb); (try clear hb ho0)))
  go_ret2
  exact ⟨_, qbx, qsa, qaM⟩
 subst c3; rw [if_pos rfl] at H; by_cases c4 : (qaF.length : Int) = 0
 ·rw [if_pos c4] at H; have qhF : ((qaF.length : Int) == 0) = true := beq_iff_eq.mpr c4; have c4b1 : ((qaF.length : Int) != 0) = false := bne_eq_false_iff_eq.mpr c4; clear c4; simp only [Option.some.injEq, Prod.mk.injEq] at H; obtain ⟨rfl, rfl⟩ := H; go_enter Tryz.func10, Tryz.ntmps10
  go_wp2_with (first | ((with_reducible refine qas (N := 1) rfl ?_); (try (refine qav (by rfl) ?_; dsimp only)); refine bx_ 1 (cs := #[.string qax, .int .i64 qaZ]) (t := 23) qa0 ?_; intro qaR hg w5 hbox hb; have qai := ak_ (hbox); have qcB := ak_ (HB.ge hg); have qcg := ak_ (HB.ge hg); replace HB := HB.mw hb; clear hb hbox hg; obtain ⟨qjn, qjo, qkd, qjq⟩ := qa2 qai.out) | ((with_reducible refine qad (f := 36) rfl ?_); refine gl_ 8 Tryz.func36 #[.agg #[.string qax, .int .i64 qaZ]] rfl qbK ?_; (with_reducible refine (qba.calls k qax qaZ qaF true _ A2.out).mono ?_); rintro e w7 ⟨qsf, rfl, ho0, hb⟩; refine ⟨_, rfl, ?_⟩; have qfE := ak_ (Kd.qeV ho0 (qal qaM)); replace qai := qai.mw hb; replace HB := ak_ (qac qaM hb); (try clear hb ho0); obtain ⟨Ao8, co8, eo8⟩ := Kd.qcU qfE.out; subst eo8))
  go_ret2
  exact ⟨_, qbx, qsa, qaM⟩
 rw [if_neg c4] at H; have qhF : ((qaF.length : Int) == 0) = false := beq_eq_false_iff_ne.mpr c4; have c4b1 : ((qaF.length : Int) != 0) = true := bne_iff_ne.mpr c4
 have c4b2 : ¬ (qaF = []) := fun h_ => c4 (by rw [h_]; rfl)
 by_cases c9 : 0 < (qaF.length : Int); rotate_left
 ·rw [if_neg c9] at H; exact absurd H (by simp)
 rw [if_pos c9] at H; have qqJ : decide (0 < (qaF.length : Int)) = true := decide_eq_true c9; have c9b1 : decide (0 < qaF.length) = true := decide_eq_true (by omega); clear c9; simp only [Option.some.injEq, Prod.mk.injEq] at H; obtain ⟨rfl, rfl⟩ := H; go_enter Tryz.func10, Tryz.ntmps10
 go_wp2_with (first | ((with_reducible refine qas (N := 1) rfl ?_); (try (refine qav (by rfl) ?_; dsimp only)); refine bx_ 1 (cs := #[.string qax, .int .i64 qaZ]) (t := 23) qa0 ?_; intro qaR hg w10 hbox hb; have qai := ak_ (hbox); have qcB := ak_ (HB.ge hg); have qcg := ak_ (HB.ge hg); replace HB := HB.mw hb; clear hb hbox hg; obtain ⟨qgv, qgw, qgx, qgy⟩ := qa2 qai.out) | ((with_reducible refine qad (f := 36) rfl ?_); refine gl_ 8 Tryz.func36 #[.agg #[.string qax, .int .i64 qaZ]] rfl qbK ?_; (with_reducible refine (qba.calls k qax qaZ qaF true _ A2.out).mono ?_); rintro e w12 ⟨qsf, rfl, ho0, hb⟩; refine ⟨_, rfl, ?_⟩; have qfE := ak_ (Kd.qeV ho0 (qal qaM)); replace qai := qai.mw hb; replace HB := ak_ (qac qaM hb); (try clear hb ho0); obtain ⟨Ao13, co13, eo13⟩ := Kd.qcU qfE.out; subst eo13; have qkw : 0 ≤ (0 : Int) := (by omega); have qkx : 0 < (qaF.length : Int) := of_decide_eq_true qa8; obtain ⟨qnx, A106_0, c106_0, qtj, qdc, qlS, qlO⟩ := qfL (Kd.S_reads' qfE.out).2.2 0 qkw qkx; cases qtj; obtain ⟨ce106, qts, qtq, qo3⟩ := Kd.S_get qfE.out [] 0 qkw (by first | exact qkx | exact of_decide_eq_true qa8 | (have e_ := (Kd.S_reads' qfE.out).1; omega)); obtain ⟨ve106_0, rfl, qiK⟩ := qtq; have qgB := qo3 0 _ rfl; rw [Nat.add_zero, show ((Kd.slice 33 qa1)).sz = 1 from rfl, Nat.mul_one] at qgB; replace qgB := Option.some.inj (qgB.symm.trans qdc); rw [qgB] at qiK; have qpP := ak_ (show Kd.R qa1 33 _ _ _ _ (qar qaF 0) from qiK); clear qgB qiK; clear qo3 qts; have qi106 : (0 < qaF.length) = True := eq_true (by omega); (try rw [show ((0 : Int)).toNat = 0 from rfl] at qdc); (try rw [Addr.add_zero'] at qdc); have HR106_0 := ak_ qlO; have HC106_0 := ak_ qlS; clear qlO qlS; replace qkw := eq_true qkw; replace qkx := eq_true qkx))
 go_ret2
 exact ⟨_, qbx, by (with_reducible repeat (first | apply Kd.qaA | apply Kd.qaz | apply Kd.qaL)); exact Kd.qaT qpP.out (fun _ hk => trivial), qaM⟩
def qqr : Go.Shelf.Ren := ⟨fun | 160 => 73 | 232 => 95 | 231 => 94 | 227 => 96 | 234 => 98 | 233 => 97 | 236 => 100 | 235 => 99 | 228 => 110 | 271 => 113 | 151 => 112 | 197 => 111 | 120 => 126 | 152 => 125 | 260 => 124 | 137 => 139 | 119 => 140 | 224 => 133 | 225 => 132 | 217 => 131 | 266 => 146 | n => n, fun | 9 => 9 | 4 => 4 | 3 => 3 | 5 => 5 | 117 => 107 | 116 => 106 | 0 => 0 | 124 => 110 | 21 => 21 | 105 => 116 | 46 => 113 | 119 => 140 | 139 => 143 | 138 => 142 | n => n, fun | 3 => 3 | 4 => 4 | n => n⟩
theorem lays160 : Go.Proofs.Lays.n160 Tryz.prog qqr := {
  mixed := by kernel_rfl
  f119 := Tryz.func140.trans (congrArg some (by kernel_rfl))
  f120 := Tryz.func126.trans (congrArg some (by kernel_rfl))
  f137 := Tryz.func139.trans (congrArg some (by kernel_rfl))
  f151 := Tryz.func112.trans (congrArg some (by kernel_rfl))
  f152 := Tryz.func125.trans (congrArg some (by kernel_rfl))
  f160 := Tryz.func73.trans (congrArg some (by kernel_rfl))
  f197 := Tryz.func111.trans (congrArg some (by kernel_rfl))
  f217 := Tryz.func131.trans (congrArg some (by kernel_rfl))
  f224 := Tryz.func133.trans (congrArg some (by kernel_rfl))
  f225 := Tryz.func132.trans (congrArg some (by kernel_rfl))
  f227 := Tryz.func96.trans (congrArg some (by kernel_rfl))
  f228 := Tryz.func110.trans (congrArg some (by kernel_rfl))
  f231 := Tryz.func94.trans (congrArg some (by kernel_rfl))
  f232 := Tryz.func95.trans (congrArg some (by kernel_rfl))
  f233 := Tryz.func97.trans (congrArg some (by kernel_rfl))
  f234 := Tryz.func98.trans (congrArg some (by kernel_rfl))
  f235 := Tryz.func99.trans (congrArg some (by kernel_rfl))
  f236 := Tryz.func100.trans (congrArg some (by kernel_rfl))
  f260 := Tryz.func124.trans (congrArg some (by kernel_rfl))
  f266 := Tryz.func146.trans (congrArg some (by kernel_rfl))
  f271 := Tryz.func113.trans (congrArg some (by kernel_rfl))
  t0 := Tryz.underlying0
  a0 := Tryz.isAgg0
  z0 := Tryz.sizeOf0
  v0 := Tryz.zeroValue0
  t3 := Tryz.underlying3
  a3 := Tryz.isAgg3
  z3 := Tryz.sizeOf3
  v3 := Tryz.zeroValue3
  t4 := Tryz.underlying4
  a4 := Tryz.isAgg4
  z4 := Tryz.sizeOf4
  v4 := Tryz.zeroValue4
  t5 := Tryz.underlying5
  a5 := Tryz.isAgg5
  z5 := Tryz.sizeOf5
  v5 := Tryz.zeroValue5
  t9 := Tryz.underlying9
  a9 := Tryz.isAgg9
  z9 := Tryz.sizeOf9
  v9 := Tryz.zeroValue9
  t21 := Tryz.underlying21
  a21 := Tryz.isAgg21
  z21 := Tryz.sizeOf21
  v21 := Tryz.zeroValue21
  t46 := Tryz.underlying113
  a46 := Tryz.isAgg113
  z46 := Tryz.sizeOf113
  v46 := Tryz.zeroValue113
  t105 := Tryz.underlying116
  a105 := Tryz.isAgg116
  z105 := Tryz.sizeOf116
  v105 := Tryz.zeroValue116
  t116 := Tryz.underlying106
  a116 := Tryz.isAgg106
  z116 := Tryz.sizeOf106
  t117 := Tryz.underlying107
  a117 := Tryz.isAgg107
  z117 := Tryz.sizeOf107
  v117 := Tryz.zeroValue107
  t119 := Tryz.underlying140
  a119 := Tryz.isAgg140
  z119 := Tryz.sizeOf140
  t124 := Tryz.underlying110
  a124 := Tryz.isAgg110
  z124 := Tryz.sizeOf110
  v124 := Tryz.zeroValue110
  t138 := Tryz.underlying142
  a138 := Tryz.isAgg142
  z138 := Tryz.sizeOf142
  v138 := Tryz.zeroValue142
  t139 := Tryz.underlying143
  a139 := Tryz.isAgg143
  z139 := Tryz.sizeOf143
  v139 := Tryz.zeroValue143
  g3 := by kernel_rfl
  g4 := by kernel_rfl }
def qdY.f (a0 a1 : ByteArray) : Option ByteArray := if a0.size ≤ 9223372036854775807 ∧ a1 = (⟨#[111, 120, 63]⟩ : ByteArray) then some ⟨(Lib.trimS a0.data.toList [111, 120, 63]).toArray⟩ else none
theorem qdY.calls (a0 : ByteArray) (a1 : ByteArray) (r : ByteArray) (w : World) (h : qdY.f a0 a1 = some r) :
    Calls Tryz.prog 73 #[.string a0, .string a1] w fun e w' => e = .returned (.string r) ∧ Below w.heap.size w w' := by
  unfold qdY.f at h; by_cases hc : a0.size ≤ 9223372036854775807 ∧ a1 = (⟨#[111, 120, 63]⟩ : ByteArray)
  ·rw [if_pos hc] at h; obtain rfl := Option.some.inj h; obtain ⟨hs, rfl⟩ := hc; exact Any.strings_Trim_laid lays160 (by kernel_rfl) a0 ⟨#[111, 120, 63]⟩ w hs (by decide) (ascii_of_all (by decide))
  rw [if_neg hc] at h; exact absurd h (by simp)
def qa7.f (qax : ByteArray) (qaZ : Int) : Option (Bool) := if (qax.size : Int) ≥ 1 then (if (qax.size : Int) ≤ 48 then ((qdY.f qax (⟨#[111, 120, 63]⟩ : ByteArray)).bind fun qaF => (if qaF.toList = ([] : List UInt8) then (if qaZ ≥ 0 then (some (decide (qaZ ≤ 3))) else (some false)) else (some false))) else (some false)) else (some false)
theorem qa7.calls (qax : ByteArray) (qaZ : Int) (r : Bool) (w : World) (h : qa7.f qax qaZ = some r) :
  Calls Tryz.prog 43 #[.agg #[.string qax, .int .i64 qaZ]] w fun e w' => e = .returned (.bool r) ∧ Below w.heap.size w w' := by
 have qiv := Tryz.underlying23; have HB := ak_ (Below.refl w.heap.size w); have H : (if (qax.size : Int) ≥ 1 then (if (qax.size : Int) ≤ 48 then ((qdY.f qax (⟨#[111, 120, 63]⟩ : ByteArray)).bind fun qaF => (if qaF.toList = ([] : List UInt8) then (if qaZ ≥ 0 then (some (decide (qaZ ≤ 3))) else (some false)) else (some false))) else (some false)) else (some false)) = some r := h; clear h; by_cases c2 : (qax.size : Int) ≥ 1; rotate_left
 ·rw [if_neg c2] at H; have qkC : decide (1 ≤ (qax.size : Int)) = false := decide_eq_false c2; have c2b1 : decide (1 ≤ qax.size) = false := decide_eq_false (by omega); clear c2; obtain rfl := Option.some.inj H; go_enter Tryz.func43, Tryz.ntmps43
  go_wp2_with (first | ((with_reducible refine qas (N := 1) rfl ?_); (try (refine qav (by rfl) ?_; dsimp only)); refine bx_ 1 (cs := #[.string qax, .int .i64 qaZ]) (t := 23) qa0 ?_; intro qaR hg w20 hbox hb; have qai := ak_ (hbox); have qcB := ak_ (HB.ge hg); have qcg := ak_ (HB.ge hg); replace HB := HB.mw hb; clear hb hbox hg; obtain ⟨hcz21_0, hcz21_1, hfz21_0, hfz21_1⟩ := qa2 qai.out))
  go_ret
  exact ⟨qbx, qaM⟩
 rw [if_pos c2] at H; have qkC : decide (1 ≤ (qax.size : Int)) = true := decide_eq_true c2; have c2b1 : decide (1 ≤ qax.size) = true := decide_eq_true (by omega); clear c2; by_cases c3 : (qax.size : Int) ≤ 48; rotate_left
 ·rw [if_neg c3] at H; have qil : decide ((qax.size : Int) ≤ 48) = false := decide_eq_false c3; have qr3 : decide (qax.size ≤ 48) = false := decide_eq_false (by omega); clear c3; obtain rfl := Option.some.inj H; go_enter Tryz.func43, Tryz.ntmps43
  go_wp2_with (first | ((with_reducible refine qas (N := 1) rfl ?_); (try (refine qav (by rfl) ?_; dsimp only)); refine bx_ 1 (cs := #[.string qax, .int .i64 qaZ]) (t := 23) qa0 ?_; intro qaR hg w18 hbox hb; have qai := ak_ (hbox); have qcB := ak_ (HB.ge hg); have qcg := ak_ (HB.ge hg); replace HB := HB.mw hb; clear hb hbox hg; obtain ⟨qnT, qnU, qob, qoc⟩ := qa2 qai.out))
  go_ret
  exact ⟨qbx, qaM⟩
 rw [if_pos c3] at H; have qil : decide ((qax.size : Int) ≤ 48) = true := decide_eq_true c3; have qr3 : decide (qax.size ≤ 48) = true := decide_eq_true (by omega); clear c3; obtain ⟨qaF, A4, H⟩ := qbh H; (try dsimp only at H); by_cases c5 : qaF.toList = ([] : List UInt8); rotate_left
 ·rw [if_neg c5] at H; have qi9 : (qaF.toList == ([] : List UInt8)) = false := beq_eq_false_iff_ne.mpr c5; have c5b1 : (qaF.toList != ([] : List UInt8)) = true := bne_iff_ne.mpr c5; obtain rfl := Option.some.inj H; go_enter Tryz.func43, Tryz.ntmps43
  go_wp2_with (first | ((with_reducible refine qas (N := 1) rfl ?_); (try (refine qav (by rfl) ?_; dsimp only)); refine bx_ 1 (cs := #[.string qax, .int .i64 qaZ]) (t := 23) qa0 ?_; intro qaR hg w15 hbox hb; have qai := ak_ (hbox); have qcB := ak_ (HB.ge hg); have qcg := ak_ (HB.ge hg); replace HB := HB.mw hb; clear hb hbox hg; obtain ⟨qqf, qqg, qqj, qqk⟩ := qa2 qai.out) | (go_at_call 73; (with_reducible refine (qdY.calls qax (⟨#[111, 120, 63]⟩ : ByteArray) qaF _ A4.out).mono ?_); rintro e w17 ⟨rfl, hb⟩; replace qai := qai.mw hb; replace HB := ak_ (qac qaM hb); (try clear hb)))
  go_ret
  exact ⟨qbx, qaM⟩
 rw [if_pos c5] at H; have qi9 : (qaF.toList == ([] : List UInt8)) = true := beq_iff_eq.mpr c5; have c5b1 : (qaF.toList != ([] : List UInt8)) = false := bne_eq_false_iff_eq.mpr c5; clear c5; by_cases c6 : qaZ ≥ 0
 ·rw [if_pos c6] at H; have qkn : decide (0 ≤ qaZ) = true := decide_eq_true c6; clear c6; obtain rfl := Option.some.inj H; go_enter Tryz.func43, Tryz.ntmps43
  go_wp2_with (first | ((with_reducible refine qas (N := 1) rfl ?_); (try (refine qav (by rfl) ?_; dsimp only)); refine bx_ 1 (cs := #[.string qax, .int .i64 qaZ]) (t := 23) qa0 ?_; intro qaR hg w7 hbox hb; have qai := ak_ (hbox); have qcB := ak_ (HB.ge hg); have qcg := ak_ (HB.ge hg); replace HB := HB.mw hb; clear hb hbox hg; obtain ⟨qgg, qgh, qgz, qgi⟩ := qa2 qai.out) | (go_at_call 73; (with_reducible refine (qdY.calls qax (⟨#[111, 120, 63]⟩ : ByteArray) qaF _ A4.out).mono ?_); rintro e w9 ⟨rfl, hb⟩; replace qai := qai.mw hb; replace HB := ak_ (qac qaM hb); (try clear hb); obtain ⟨qiL, qiM, qiT, qiU⟩ := qa2 qai.out))
  go_ret
  exact ⟨qbx, qaM⟩
 rw [if_neg c6] at H; have qkn : decide (0 ≤ qaZ) = false := decide_eq_false c6; clear c6; obtain rfl := Option.some.inj H; go_enter Tryz.func43, Tryz.ntmps43
 go_wp2_with (first | ((with_reducible refine qas (N := 1) rfl ?_); (try (refine qav (by rfl) ?_; dsimp only)); refine bx_ 1 (cs := #[.string qax, .int .i64 qaZ]) (t := 23) qa0 ?_; intro qaR hg w11 hbox hb; have qai := ak_ (hbox); have qcB := ak_ (HB.ge hg); have qcg := ak_ (HB.ge hg); replace HB := HB.mw hb; clear hb hbox hg; obtain ⟨qqd, qqe, qqh, qqi⟩ := qa2 qai.out) | (go_at_call 73; (with_reducible refine (qdY.calls qax (⟨#[111, 120, 63]⟩ : ByteArray) qaF _ A4.out).mono ?_); rintro e w13 ⟨rfl, hb⟩; replace qai := qai.mw hb; replace HB := ak_ (qac qaM hb); (try clear hb); obtain ⟨qjL, qjM, qjR, qjS⟩ := qa2 qai.out))
 go_ret
 exact ⟨qbx, qaM⟩
mutual
def qaW.l0 : Nat → ByteArray → List (qaj) → Int → Option ((List (qaj)))
 | 0, _, _, _ => none
 | k + 1, x0, x3, x4 => if x4 ≤ 10 then (qaW.l1 k x0 x3 x4 x4 0) else (some x3)
def qaW.l1 : Nat → ByteArray → List (qaj) → Int → Int → Int → Option ((List (qaj)))
 | 0, _, _, _, _, _ => none
 | k + 1, x0, x3, x4, x13, x14 => if x14 < x13 then (qaW.l2 k x0 x3 x4 x14 true x13 x14 (x0.size : Int) 0) else (qaW.l0 k x0 x3 (wrap64 (x4 + 1)))
def qaW.l2 : Nat → ByteArray → List (qaj) → Int → Int → Bool → Int → Int → Int → Int → Option ((List (qaj)))
 | 0, _, _, _, _, _, _, _, _, _ => none
 | k + 1, x0, x3, x4, x5, x6, x13, x14, x18, x19 => if x19 < x18 then (if x6 = true then (if 0 ≤ x19 then (if x19 < (x0.size : Int) then (if (bt x0 x19) = 111 then (if x4 = 0 then (none) else (qaW.l2 k x0 x3 x4 x5 ((Int.tmod (wrap64 (x19 + 1)) x4) != x5) x13 x14 x18 (wrap64 (x19 + 1)))) else (qaW.l2 k x0 x3 x4 x5 true x13 x14 x18 (wrap64 (x19 + 1)))) else (none)) else (none)) else (qaW.l2 k x0 x3 x4 x5 false x13 x14 x18 (wrap64 (x19 + 1)))) else (if x6 = true then (if x3.length < 8796093022208 then (qaW.l1 k x0 (x3 ++ [(⟨x4, x5⟩ : qaj)]) x4 x13 (wrap64 (x14 + 1))) else (none)) else (qaW.l1 k x0 x3 x4 x13 (wrap64 (x14 + 1))))
end
def qaW.f (k : Nat) (a0 : ByteArray) : Option ((List (qaj))) := qaW.l0 k a0 (([] : List (qaj))) 2
theorem qaW.calls (k : Nat) (a0 : ByteArray) (r : List (qaj)) (w : World) (h : qaW.f k a0 = some r) :
  Calls Tryz.prog 44 #[.string a0] w fun e w' => ∃ v0_ : Value, e = .returned (v0_) ∧ Kd.R qa1 33 w' w.heap.size (fun _ => True) v0_ r ∧ Below w.heap.size w w' := by
 have qkE := Tryz.underlying33; have HB := ak_ (Below.refl w.heap.size w); have H : (qaW.l0 k a0 (([] : List (qaj))) 2) = some r := h; clear h
 obtain ⟨y101, hy_⟩ : ∃ y_ : List (qaj), y_ = (([] : List (qaj))) := ⟨_, rfl⟩
 replace H : (qaW.l0 k a0 y101 2) = some r := qkG; have qpT := ak_ hy_; clear hy_; have H' := ak_ H; clear H; go_enter Tryz.func44, Tryz.ntmps44
 go_wp2_with (first | ((with_reducible refine qas (N := 8) rfl ?_); refine Kd.qgM qa1 _ 33 ?hg (N := 8) ?hd (xs := ([] : List (qaj))) (inner := []) (ok := fun _ => True) (okp := fun _ => True) ?hr ?hp (fun _ hk => hk) trivial (Below.refl _ _) (Nat.le_refl _) (by simp) ?_; (case hd => rfl); (case hg => rfl); (case hr => exact qa0); (case hp => exact (qcj.none _ _)); intro v102 w2 ho3 hb hg_ hnew_; clear hg_ hnew_; (first | rw [← qpT.out] at ho3 | (simp only [Int.reduceToNat] at ho3; rw [← qpT.out] at ho3)); have qoI := ak_ (Kd.qby ho3 (qal qcw)); replace HB := HB.mw hb; clear hb ho3))
 go_loopg [3, 4] k (fun kq v3 v4 w' => ∃ (qc9 : List (qaj)) (qe0 : Int), v4 = .int .i64 qe0 ∧ qah (qaW.l0 kq a0 qc9 qe0 = some r) ∧ qah (kq ≤ k) ∧ qah (Kd.R qa1 33 w' w.heap.size (fun _ => True) v3 qc9) ∧ qah (Below w.heap.size w w'))
 case atStart => exact ⟨(y101), (2), qbg, H', ⟨Nat.le_refl _⟩, ⟨by apply_rules only [qoI.out, Kd.qaA, Kd.qaz, Kd.qaL]⟩, ⟨qcw⟩⟩
 case round =>
  clear H'; obtain ⟨qc9, qe0, rfl, HA, HK1, qf4, HB⟩ := hrel
  cases gk with
  | zero => exact absurd HA.out (by simp [qaW.l0])
  | succ k1 =>
   have H := HA.out; clear HA; simp only [qaW.l0] at H; by_cases c4 : qe0 ≤ 10; rotate_left
   ·rw [if_neg c4] at H; have qhF : decide (qe0 ≤ 10) = false := decide_eq_false c4; clear c4; obtain rfl := Option.some.inj H; go_wp2
    go_ret
    exact ⟨_, qbx, k94_, qcw⟩
   rw [if_pos c4] at H; have qhF : decide (qe0 ≤ 10) = true := decide_eq_true c4; clear c4; have H' := ak_ H; clear H; go_wp2
   go_loopg [3, 14] k1 (fun kq v3 v14 w' => ∃ (qhE : List (qaj)) (qiz : Int), v14 = .int .i64 qiz ∧ qah (qaW.l1 kq a0 qhE qe0 qe0 qiz = some r) ∧ qah (kq ≤ k1) ∧ qah (Kd.R qa1 33 w' w.heap.size (fun _ => True) v3 qhE) ∧ qah (Below w.heap.size w w'))
   case atStart => exact ⟨(qc9), (0), qbg, H', ⟨Nat.le_refl _⟩, ⟨qfp⟩, ⟨qcw⟩⟩
   case round =>
    clear H'; (try clear c4); (try clear qhF); obtain ⟨qhE, qiz, rfl, HA, HK2, qf4, HB⟩ := hrel
    cases gk with
    | zero => exact absurd HA.out (by simp [qaW.l1])
    | succ k2 =>
     have H := HA.out; clear HA; simp only [qaW.l1] at H; by_cases c5 : qiz < qe0; rotate_left
     ·rw [if_neg c5] at H; have qi9 : decide (qiz < qe0) = false := decide_eq_false c5; clear c5; have H' := ak_ H; clear H; go_wp2
      go_roundg k2
      case measure => have := HK1.out; have := HK2.out; omega
      case rel => exact ⟨(qhE), (wrap64 (qe0 + 1)), qbg, H', ⟨by have := HK1.out; have := HK2.out; omega⟩, ⟨qfp⟩, ⟨qcw⟩⟩
     rw [if_pos c5] at H; have qi9 : decide (qiz < qe0) = true := decide_eq_true c5; clear c5; have H' := ak_ H; clear H; go_wp2
     go_loopg [6, 19] k2 (fun kq v6 v19 w' => ∃ (x6_3 : Bool) (qge : Int), v6 = .bool x6_3 ∧ v19 = .int .i64 qge ∧ qah (qaW.l2 kq a0 qhE qe0 qiz x6_3 qe0 qiz (a0.size : Int) qge = some r) ∧ qah (kq ≤ k2) ∧ qah (Kd.R qa1 33 w' w.heap.size (fun _ => True) u3 qhE) ∧ qah (Below w.heap.size w w'))
     case atStart => exact ⟨(true), (0), qbg, qbg, H', ⟨Nat.le_refl _⟩, ⟨qfp⟩, ⟨qcw⟩⟩
     case round =>
      clear H'; (try clear c4); (try clear qhF); (try clear c5); (try clear qi9); obtain ⟨x6_3, qge, rfl, rfl, HA, HK3, qf4, HB⟩ := hrel
      cases gk with
      | zero => exact absurd HA.out (by simp [qaW.l2])
      | succ k3 =>
       have H := HA.out; clear HA; simp only [qaW.l2] at H; by_cases c6 : qge < (a0.size : Int); rotate_left
       ·rw [if_neg c6] at H; have qkn : decide (qge < (a0.size : Int)) = false := decide_eq_false c6; clear c6; by_cases c13 : x6_3 = true; rotate_left
        ·replace c13 := Bool.eq_false_iff.mpr c13; subst c13; rw [if_neg (show ¬ (false = true) by decide)] at H; have H' := ak_ H; clear H; go_wp2
         go_roundg k3
         case measure => have := HK1.out; have := HK2.out; have := HK3.out; omega
         case rel => exact ⟨(qhE), (wrap64 (qiz + 1)), qbg, H', ⟨by have := HK1.out; have := HK2.out; have := HK3.out; omega⟩, ⟨qfp⟩, ⟨qcw⟩⟩
        subst c13; rw [if_pos rfl] at H; by_cases c14 : qhE.length < 8796093022208; rotate_left
        ·rw [if_neg c14] at H; exact absurd H (by simp)
        rw [if_pos c14] at H; have LMc14 := ak_ c14; clear c14
        obtain ⟨y104, hy_⟩ : ∃ y_ : List (qaj), y_ = (qhE ++ [(⟨qe0, qiz⟩ : qaj)]) := ⟨_, rfl⟩
        replace H : (qaW.l1 k3 a0 y104 qe0 qe0 (wrap64 (qiz + 1))) = some r := qkG; have qru := ak_ hy_; clear hy_; have H' := ak_ H; clear H
        go_wp2_with (first | ((with_reducible refine qca (b := .append) (xs := #[.tmp 39, .tmp 43]) rfl ?_); at_builtin; refine Kd.qfc qa1 (w0 := w) w.heap.size rfl (.tmp 39) (.tmp 43) 24 33 (.agg #[(.int .i64 0), (.int .i64 0)]) 16 rfl Tryz.underlying24 qjt rfl (by decide) (by omega) u3 qhE (⟨qe0, qiz⟩ : qaj) [.int .i64 qe0, .int .i64 qiz] (fun _ => True) (fun _ => False) rfl rfl ?aP (fun _ hk => hk.elim) ?aF ?aO ?aB ?aS ?aL ?_; (case aP => exact qdp _ _ _ (⟨qe0, qiz⟩ : qaj)); (case aB => exact qcw); (case aF => exact (fun _ _ => trivial)); (case aO => exact qfp); (case aS => exact (qal qcw)); (case aL => have := LMc14.out; omega); intro v105 w15 ho hb hg hat; rw [← qru.out] at ho; replace HB := ak_ (hb); have qkk := ak_ (ho); clear qf4; clear ho hb hg hat))
        go_roundg k3
        case measure => have := HK1.out; have := HK2.out; have := HK3.out; omega
        case rel => exact ⟨(y104), (wrap64 (qiz + 1)), qbg, H', ⟨by have := HK1.out; have := HK2.out; have := HK3.out; omega⟩, ⟨by apply_rules only [qkk.out, Kd.qaA, Kd.qaz, Kd.qaL]⟩, ⟨qcw⟩⟩
       rw [if_pos c6] at H; have qkn : decide (qge < (a0.size : Int)) = true := decide_eq_true c6; clear c6; by_cases c7 : x6_3 = true; rotate_left
       ·replace c7 := Bool.eq_false_iff.mpr c7; subst c7; rw [if_neg (show ¬ (false = true) by decide)] at H; have H' := ak_ H; clear H; go_wp2
        go_roundg k3
        case measure => have := HK1.out; have := HK2.out; have := HK3.out; omega
        case rel => exact ⟨(false), (wrap64 (qge + 1)), qbg, qbg, H', ⟨by have := HK1.out; have := HK2.out; have := HK3.out; omega⟩, ⟨qfp⟩, ⟨qcw⟩⟩
       subst c7; rw [if_pos rfl] at H; by_cases c8 : 0 ≤ qge; rotate_left
       ·rw [if_neg c8] at H; exact absurd H (by simp)
       rw [if_pos c8] at H; have c8b0 : decide (0 ≤ qge) = true := decide_eq_true c8; clear c8; by_cases c9 : qge < (a0.size : Int); rotate_left
       ·rw [if_neg c9] at H; exact absurd H (by simp)
       rw [if_pos c9] at H; have qqJ : decide (qge < (a0.size : Int)) = true := decide_eq_true c9; clear c9; by_cases c11 : (bt a0 qge) = 111; rotate_left
       ·rw [if_neg c11] at H; have qlj : ((bt a0 qge) == 111) = false := beq_eq_false_iff_ne.mpr c11; have qmt : ((bt a0 qge) != 111) = true := bne_iff_ne.mpr c11; have H' := ak_ H; clear H; have p10 : 0 ≤ (qge : Int) := of_decide_eq_true qa8; have q10 : qge < (a0.size : Int) := of_decide_eq_true qa8; have hx10 := qea a0 qge; replace p10 := eq_true p10; replace q10 := eq_true q10; go_wp2
        go_roundg k3
        case measure => have := HK1.out; have := HK2.out; have := HK3.out; omega
        case rel => exact ⟨(true), (wrap64 (qge + 1)), qbg, qbg, H', ⟨by have := HK1.out; have := HK2.out; have := HK3.out; omega⟩, ⟨qfp⟩, ⟨qcw⟩⟩
       rw [if_pos c11] at H; have qlj : ((bt a0 qge) == 111) = true := beq_iff_eq.mpr c11; have qmt : ((bt a0 qge) != 111) = false := bne_eq_false_iff_eq.mpr c11; clear c11; by_cases c12 : qe0 = 0
       ·rw [if_pos c12] at H; exact absurd H (by simp)
       rw [if_neg c12] at H; have qrD : (qe0 == 0) = false := beq_eq_false_iff_ne.mpr c12; have c12b1 : (qe0 != 0) = true := bne_iff_ne.mpr c12; have H' := ak_ H; clear H; have p10 : 0 ≤ (qge : Int) := of_decide_eq_true qa8; have q10 : qge < (a0.size : Int) := of_decide_eq_true qa8; have hx10 := qea a0 qge; replace p10 := eq_true p10; replace q10 := eq_true q10; go_wp2
       go_roundg k3
       case measure => have := HK1.out; have := HK2.out; have := HK3.out; omega
       case rel => exact ⟨(((Int.tmod (wrap64 (qge + 1)) qe0) != qiz)), (wrap64 (qge + 1)), qbg, qbg, H', ⟨by have := HK1.out; have := HK2.out; have := HK3.out; omega⟩, ⟨qfp⟩, ⟨qcw⟩⟩
def qjs.f (a0 : Int) (a1 : Int) : Option (Int) := if a1 = 0 then (none) else (some (Int.tmod (wrap64 ((Int.tmod a0 a1) + a1)) a1))
theorem qjs.calls (a0 : Int) (a1 : Int) (r : Int) (w : World) (h : qjs.f a0 a1 = some r) :
  Calls Tryz.prog 116 #[.int .i64 a0, .int .i64 a1] w fun e w' => e = .returned (.int .i64 r) ∧ qd0 w w' := by
 have H : (if a1 = 0 then (none) else (some (Int.tmod (wrap64 ((Int.tmod a0 a1) + a1)) a1))) = some r := h; clear h; by_cases c3 : a1 = 0
 ·rw [if_pos c3] at H; exact absurd H (by simp)
 rw [if_neg c3] at H; have qil : (a1 == 0) = false := beq_eq_false_iff_ne.mpr c3; have qr3 : (a1 != 0) = true := bne_iff_ne.mpr c3; obtain rfl := Option.some.inj H; go_enter Tryz.func116, Tryz.ntmps116; go_wp2
 go_ret
 exact ⟨qbg, qdT⟩
theorem qiJ (p : qaj → Bool) : ∀ (l : List qaj) (i : Int), 0 ≤ i → decide (0 ≤ qd3 p l i) = l.any p
  | [], _, _ => by simp [qd3]
  | x :: l, i, hi => by
    rw [qd3, List.any_cons]
    cases hx : p x with
    | true => simp [hi]
    | false => simpa using qiJ p l (i + 1) (by omega)
set_option maxHeartbeats 2000000 in
theorem qtf (p : qaj → Bool) (g : Nat) (lb : Array Value) (eg : ∀ args w, (callFunc g args).run Tryz.prog w = .ok (.enter g args) w)
    (A0 : Option Addr) (c0 : Nat) (l0 : List qaj) (w : World) (hp : PredR g lb p l0 w) (hr0 : Kd.C qa1 w A0 l0.length l0) :
    Calls Tryz.prog 77 #[.slice A0 l0.length c0, .func (.func g) #[] lb] w fun e w' => e = .returned (.bool (l0.any p)) ∧ Below w.heap.size w w' := by
  rw [← qiJ p l0 0 (by omega)]; have hcall := ql3 p g lb eg A0 c0 l0 w hp hr0; go_enter Tryz.func77, Tryz.ntmps77
  go_wp2_with (go_at_call 70; refine hcall.mono ?_; rintro e w' ⟨rfl, hb'⟩)
  go_ret
  exact ⟨rfl, hb'⟩
def qft.f (qax : Int) (qaZ : Int) : Option (Bool) := if qax ≥ 2 then (if qax ≤ 60 then (if qaZ ≥ 0 then (some (decide (qaZ < qax))) else (some false)) else (some false)) else (some false)
theorem qft.calls (qax : Int) (qaZ : Int) (r : Bool) (w : World) (h : qft.f qax qaZ = some r) :
  Calls Tryz.prog 79 #[.agg #[.int .i64 qax, .int .i64 qaZ]] w fun e w' => e = .returned (.bool r) ∧ Below w.heap.size w w' := by
 have qkE := Tryz.underlying33; have HB := ak_ (Below.refl w.heap.size w); have H : (if qax ≥ 2 then (if qax ≤ 60 then (if qaZ ≥ 0 then (some (decide (qaZ < qax))) else (some false)) else (some false)) else (some false)) = some r := h; clear h; by_cases c2 : qax ≥ 2; rotate_left
 ·rw [if_neg c2] at H; have qkC : decide (2 ≤ qax) = false := decide_eq_false c2; clear c2; obtain rfl := Option.some.inj H; go_enter Tryz.func79, Tryz.ntmps79
  go_wp2_with (first | ((with_reducible refine qas (N := 1) rfl ?_); refine bx_ 1 (cs := #[.int .i64 qax, .int .i64 qaZ]) (t := 33) qa0 ?_; intro qaR hg w11 hbox hb; have qai := ak_ (hbox); have qcB := ak_ (HB.ge hg); have qcg := ak_ (HB.ge hg); replace HB := HB.mw hb; clear hb hbox hg; obtain ⟨qqd, qqe, qqh, qqi⟩ := qa2 qai.out))
  go_ret
  exact ⟨qbx, qaM⟩
 rw [if_pos c2] at H; have qkC : decide (2 ≤ qax) = true := decide_eq_true c2; clear c2; by_cases c3 : qax ≤ 60; rotate_left
 ·rw [if_neg c3] at H; have qil : decide (qax ≤ 60) = false := decide_eq_false c3; clear c3; obtain rfl := Option.some.inj H; go_enter Tryz.func79, Tryz.ntmps79
  go_wp2_with (first | ((with_reducible refine qas (N := 1) rfl ?_); refine bx_ 1 (cs := #[.int .i64 qax, .int .i64 qaZ]) (t := 33) qa0 ?_; intro qaR hg w9 hbox hb; have qai := ak_ (hbox); have qcB := ak_ (HB.ge hg); have qcg := ak_ (HB.ge hg); replace HB := HB.mw hb; clear hb hbox hg; obtain ⟨qiL, qiM, qiT, qiU⟩ := qa2 qai.out))
  go_ret
  exact ⟨qbx, qaM⟩
 rw [if_pos c3] at H; have qil : decide (qax ≤ 60) = true := decide_eq_true c3; clear c3; by_cases c4 : qaZ ≥ 0
 ·rw [if_pos c4] at H; have qhF : decide (0 ≤ qaZ) = true := decide_eq_true c4; clear c4; obtain rfl := Option.some.inj H; go_enter Tryz.func79, Tryz.ntmps79
  go_wp2_with (first | ((with_reducible refine qas (N := 1) rfl ?_); refine bx_ 1 (cs := #[.int .i64 qax, .int .i64 qaZ]) (t := 33) qa0 ?_; intro qaR hg w5 hbox hb; have qai := ak_ (hbox); have qcB := ak_ (HB.ge hg); have qcg := ak_ (HB.ge hg); replace HB := HB.mw hb; clear hb hbox hg; obtain ⟨qjn, qjo, qkd, qjq⟩ := qa2 qai.out))
  go_ret
  exact ⟨qbx, qaM⟩
 rw [if_neg c4] at H; have qhF : decide (0 ≤ qaZ) = false := decide_eq_false c4; clear c4; obtain rfl := Option.some.inj H; go_enter Tryz.func79, Tryz.ntmps79
 go_wp2_with (first | ((with_reducible refine qas (N := 1) rfl ?_); refine bx_ 1 (cs := #[.int .i64 qax, .int .i64 qaZ]) (t := 33) qa0 ?_; intro qaR hg w7 hbox hb; have qai := ak_ (hbox); have qcB := ak_ (HB.ge hg); have qcg := ak_ (HB.ge hg); replace HB := HB.mw hb; clear hb hbox hg; obtain ⟨qgg, qgh, qgz, qgi⟩ := qa2 qai.out))
 go_ret
 exact ⟨qbx, qaM⟩
def qfa.f (qax : Int) (qaZ : Int) : Option (Bool) := (qft.f qax qaZ).bind fun qaF => (some (!qaF))
theorem qfa.calls (qax : Int) (qaZ : Int) (r : Bool) (w : World) (h : qfa.f qax qaZ = some r) :
  Calls Tryz.prog 78 #[.agg #[.int .i64 qax, .int .i64 qaZ]] w fun e w' => e = .returned (.bool r) ∧ Below w.heap.size w w' := by
 have qkE := Tryz.underlying33; have HB := ak_ (Below.refl w.heap.size w); have H : ((qft.f qax qaZ).bind fun qaF => (some (!qaF))) = some r := h; clear h; obtain ⟨qaF, A2, H⟩ := qbh H; (try dsimp only at H); obtain rfl := Option.some.inj H; go_enter Tryz.func78, Tryz.ntmps78
 go_wp2_with (first | ((with_reducible refine qas (N := 1) rfl ?_); refine bx_ 1 (cs := #[.int .i64 qax, .int .i64 qaZ]) (t := 33) qa0 ?_; intro qaR hg w3 hbox hb; have qai := ak_ (hbox); have qcB := ak_ (HB.ge hg); have qcg := ak_ (HB.ge hg); replace HB := HB.mw hb; clear hb hbox hg; obtain ⟨qmY, qmZ, qm0, qm1⟩ := qa2 qai.out) | ((with_reducible refine qad (f := 79) rfl ?_); refine gl_ 4 Tryz.func79 #[.agg #[.int .i64 qax, .int .i64 qaZ]] rfl qbK ?_; (with_reducible refine (qft.calls qax qaZ qaF _ A2.out).mono ?_); rintro e w5 ⟨rfl, hb⟩; refine ⟨_, rfl, ?_⟩; replace qai := qai.mw hb; replace HB := ak_ (qac qaM hb); (try clear hb)))
 go_ret
 exact ⟨qbx, qaM⟩
def qci (x : qaj) : Bool := decide (2 ≤ x.f0) && (decide (x.f0 ≤ 60) && (decide (0 ≤ x.f1) && decide (x.f1 < x.f0)))
theorem qtS (x : qaj) : qft.f x.f0 x.f1 = some (qci x) := by
  unfold qft.f qci; simp only [ge_iff_le]; by_cases h1 : 2 ≤ x.f0
  ·by_cases h2 : x.f0 ≤ 60
   ·by_cases h3 : 0 ≤ x.f1 <;> simp [h1, h2, h3]
   simp [h1, h2]
  simp [h1]
theorem qmP : ∀ l : List qaj, l.all qci = !(l.any fun x => !qci x)
  | [] => rfl
  | x :: l => by rw [List.all_cons, List.any_cons, qmP l]; cases qci x <;> simp
theorem qnA (x : qaj) : qfa.f x.f0 x.f1 = some (!qci x) := by
  unfold qfa.f; rw [qtS]
  cases qci x <;> simp
def qcZ.f (l0 : List (qaj)) : Option (Bool) := some (decide (l0.length ≤ 12) && l0.all qci)
set_option maxHeartbeats 2000000 in
theorem qcZ.calls (A0 : Option Addr) (c0 : Nat) (l0 : List (qaj)) (r : Bool) (w : World) (hr0 : Kd.C qa1 w A0 l0.length l0) (hc0 : l0.length ≤ c0) (h : qcZ.f l0 = some r) :
    Calls Tryz.prog 51 #[.slice A0 l0.length c0] w fun e w' => e = .returned (.bool r) ∧ Below w.heap.size w w' := by
  obtain rfl := Option.some.inj h; clear h
  have hcall := fun (W : World) (hb : Below w.heap.size w W) => qtf (fun x => !qci x) 78 #[] (enters_of Tryz.func78 (by kernel_rfl) rfl) A0 c0 l0 W
    (fun W' x _ hb' => (qfa.calls x.f0 x.f1 _ W' (qnA x)).mono fun e w' ⟨he, hb2⟩ => ⟨he, hb'.trans (hb2.mono hb'.size)⟩) (Kd.qer hr0 hb)
  have HC := ak_ hcall; have hb0 := Below.refl w.heap.size w; clear hcall hr0; by_cases c2 : l0.length ≤ 12
  ·have d1 : decide (l0.length ≤ 12) = true := decide_eq_true c2; have d2 : decide ((l0.length : Int) ≤ 12) = true := decide_eq_true (by omega); rw [d1, Bool.true_and, qmP]; clear c2; go_enter Tryz.func51, Tryz.ntmps51
   go_wp2_with (go_at_call 77; refine (HC.out _ hb0).mono ?_; rintro e w' ⟨rfl, hb'⟩)
   go_ret
   exact ⟨rfl, hb'⟩
  have d1 : decide (l0.length ≤ 12) = false := decide_eq_false c2; have d2 : decide ((l0.length : Int) ≤ 12) = false := decide_eq_false (by omega); rw [d1, Bool.false_and]; go_enter Tryz.func51, Tryz.ntmps51; go_wp2
  go_ret
  exact ⟨rfl, hb0⟩
def qfr (n : Int) (x : qaj) : Bool := n % x.f0 == x.f1
theorem mod_ok (n b : Int) (h1 : 2 ≤ b) (h2 : b ≤ 60) : qjs.f n b = some (n % b) := by
  unfold qjs.f; rw [if_neg (by omega)]; have a1 := Int.tmod_lt_of_pos n (b := b) (by omega); have a2 := Int.lt_tmod_of_pos n (b := b) (by omega); rw [show wrap64 (Int.tmod n b + b) = Int.tmod n b + b by unfold wrap64; omega]; rw [Int.tmod_eq_emod_of_nonneg (by omega : 0 ≤ Int.tmod n b + b), Int.add_emod_right]
  congr 1
  rw [Int.tmod_eq_emod]; split
  ·simp
  rw [Int.sub_emod, Int.emod_emod_of_dvd _ (Int.dvd_refl _)]
  have : ((b.natAbs : Int)) % b = 0 := by rw [show (b.natAbs : Int) = b by omega]; exact Int.emod_self
  rw [this]; simp
def qel.f (l0 : List (qaj)) (a1 : Int) : Option (Int) := if l0.all qci = true then some (qd3 (qfr a1) l0 0) else none
set_option maxHeartbeats 2000000 in
theorem qjJ (n : Int) (B : Nat) (x : qaj) (W : World) (hx : qci x = true) (hB : B < W.heap.size) (hn : W.cell? ⟨B, 0, none⟩ = some (.int .i64 n)) :
    Calls Tryz.prog 115 #[.agg #[.int .i64 x.f0, .int .i64 x.f1], .pointer (some ⟨B, 0, none⟩)] W fun e w' => e = .returned (.bool (qfr n x)) ∧ Below W.heap.size W w' := by
  have hu := Tryz.underlying33
  have h1 : 2 ≤ x.f0 ∧ x.f0 ≤ 60 := by unfold qci at hx; simp at hx; omega
  have HM := ak_ (fun W => qjs.calls n x.f0 _ W (mod_ok n x.f0 h1.1 h1.2)); clear hx h1; unfold qfr; go_enter Tryz.func115, Tryz.ntmps115; go_wp2
  go_quiet ((go_at_call 116; exact Calls.quiet_of ((HM.out _).mono (fun e w' h => ⟨h.1, h.2.out⟩))))
  go_wp2
  go_ret
  exact ⟨rfl, qao (qau (Below.refl _ _) _) _⟩
set_option maxHeartbeats 2000000 in
theorem qel.calls (A0 : Option Addr) (c0 : Nat) (l0 : List (qaj)) (a1 : Int) (r : Int) (w : World) (hr0 : Kd.C qa1 w A0 l0.length l0) (hc0 : l0.length ≤ c0) (h : qel.f l0 a1 = some r) :
    Calls Tryz.prog 103 #[.slice A0 l0.length c0, .int .i64 a1] w fun e w' => e = .returned (.int .i64 r) ∧ Below w.heap.size w w' := by
  unfold qel.f at h; by_cases hl : l0.all qci = true; rotate_left
  ·rw [if_neg hl] at h; exact absurd h (by simp)
  rw [if_pos hl] at h; obtain rfl := Option.some.inj h; clear h; have hb := qau (Below.refl w.heap.size w) (.cells #[.int .i64 a1] 3 (0, 0)); have hcall := ql3 (qfr a1) 115 #[.pointer (some ⟨w.heap.size, 0, none⟩)] (enters_of Tryz.func115 (by kernel_rfl) rfl) A0 c0 l0 (w.alloc (.cells #[.int .i64 a1] 3 (0, 0)))
    (fun W' x hx hb' => (qjJ a1 w.heap.size x W' (List.all_eq_true.mp hl x hx) (by have := hb'.size; simp at this; omega) ((hb'.cell (p := ⟨w.heap.size, 0, none⟩) (by simp)).trans (by simp))).mono fun e w' ⟨he, hb2⟩ => ⟨he, hb'.trans (hb2.mono hb'.size)⟩) (Kd.qer hr0 hb)
  have HC := ak_ hcall; have HB := ak_ hb; clear hcall hr0 hl hb; go_enter Tryz.func103, Tryz.ntmps103
  go_wp2_with (go_at_call 70; refine HC.out.mono ?_; rintro e w' ⟨rfl, hb'⟩)
  go_ret
  exact ⟨rfl, HB.out.trans (hb'.mono HB.out.size)⟩
def qem.f (l0 : List (qaj)) (a1 : Int) : Option (Bool) := (qel.f l0 a1).bind fun qco => (some (decide (qco < 0)))
theorem qem.calls (A0 : Option Addr) (c0 : Nat) (l0 : List (qaj)) (a1 : Int) (r : Bool) (w : World) (hr0 : Kd.C qa1 w A0 l0.length l0) (hc0 : l0.length ≤ c0) (h : qem.f l0 a1 = some r) :
  Calls Tryz.prog 82 #[.slice A0 l0.length c0, .int .i64 a1] w fun e w' => e = .returned (.bool r) ∧ Below w.heap.size w w' := by
 have HR0 := ak_ hr0; have HC0 := ak_ hc0; clear hr0 hc0; have HB := ak_ (Below.refl w.heap.size w); have H : ((qel.f l0 a1).bind fun qco => (some (decide (qco < 0)))) = some r := h; clear h; obtain ⟨qco, A3, H⟩ := qbh H; (try dsimp only at H); obtain rfl := Option.some.inj H; go_enter Tryz.func82, Tryz.ntmps82
 go_wp2_with (first | ((with_reducible refine qad (f := 103) rfl ?_); refine gl_ 7 Tryz.func103 #[.slice A0 l0.length c0, .int .i64 a1] rfl qbK ?_; (with_reducible refine (qel.calls _ _ l0 a1 qco _ ?qaB ?qaC A3.out).mono ?_); (case qaB => exact k80_); (case qaC => exact HC0.out); rintro e w4 ⟨rfl, hb⟩; refine ⟨_, rfl, ?_⟩; replace HB := HB.mw hb; (try clear hb)))
 go_ret
 exact ⟨qbx, qcw⟩
def qbr.l0 : Nat → ByteArray → List (qaj) → Int → Int → Option (Bool)
 | 0, _, _, _, _ => none
 | k + 1, x0, x1, x7, x8 => if x8 < x7 then (if 0 ≤ x8 then (if x8 < (x0.size : Int) then (if (bt x0 x8) = 63 then (qbr.l0 k x0 x1 x7 (wrap64 (x8 + 1))) else ((qem.f x1 (wrap64 (x8 + 1))).bind fun qco => (if (qco != ((bt x0 x8) == 111)) = true then (some false) else (qbr.l0 k x0 x1 x7 (wrap64 (x8 + 1)))))) else (none)) else (none)) else (some true)
def qbr.f (k : Nat) (a0 : ByteArray) (l1 : List (qaj)) : Option (Bool) := qbr.l0 k a0 l1 (a0.size : Int) 0
def qbr.T4 : Bool × List (List Nat × List Nat) := (true, [([], []), ([], []), ([0, 1], [0, 1]), ([2], [2]), ([3], [3]), ([4], [4]), ([4], [4]), ([6, 4], [4, 6]), ([5, 7, 4, 4], [4, 5, 7]), ([4], [4]), ([4], [4]), ([9, 10, 4], [4, 9, 10]), ([11, 4], [4, 11]), ([8, 12, 4], [4, 8, 12]), ([4, 13], [4, 13])])
def qbr.B4 : List Nat := [0, 0, 3, 7, 15, 31, 31, 95, 255, 31, 31, 1567, 3615, 8191, 16383]
theorem qbr.tab4 : qhD .any (opsOf Tryz.f53 4) = qbr.T4 := by kernel_rfl
theorem qbr.qrz : qeE qbr.T4.2 qbr.B4 = true := by kernel_rfl
theorem qbr.calls (k : Nat) (a0 : ByteArray) (A1 : Option Addr) (c1 : Nat) (l1 : List (qaj)) (r : Bool) (w : World) (hr1 : Kd.C qa1 w A1 l1.length l1) (hc1 : l1.length ≤ c1) (h : qbr.f k a0 l1 = some r) :
  Calls Tryz.prog 53 #[.string a0, .slice A1 l1.length c1] w fun e w' => e = .returned (.bool r) ∧ Below w.heap.size w w' := by
 have HR1 := ak_ hr1; have HC1 := ak_ hc1; clear hr1 hc1; have HB := ak_ (Below.refl w.heap.size w); have H : (qbr.l0 k a0 l1 (a0.size : Int) 0) = some r := h; clear h; have H' := ak_ H; clear H; go_enter Tryz.func53, Tryz.ntmps53; go_wp2
 go_loopg [8] k (fun kq v8 w' => ∃ (qdP : Int), v8 = .int .i64 qdP ∧ qah (qbr.l0 kq a0 l1 (a0.size : Int) qdP = some r) ∧ qah (kq ≤ k) ∧ qah (Below w.heap.size w w'))
 case atStart => exact ⟨(0), qbg, H', ⟨Nat.le_refl _⟩, ⟨qcw⟩⟩
 case round =>
  clear H'; obtain ⟨qdP, rfl, HA, HK1, HB⟩ := hrel
  cases gk with
  | zero => exact absurd HA.out (by simp [qbr.l0])
  | succ k1 =>
   have H := HA.out; clear HA; simp only [qbr.l0] at H; by_cases c3 : qdP < (a0.size : Int); rotate_left
   ·rw [if_neg c3] at H; have qil : decide (qdP < (a0.size : Int)) = false := decide_eq_false c3; clear c3; obtain rfl := Option.some.inj H; go_wp2
    go_ret
    exact ⟨qbx, qcw⟩
   rw [if_pos c3] at H; have qil : decide (qdP < (a0.size : Int)) = true := decide_eq_true c3; clear c3; by_cases c4 : 0 ≤ qdP; rotate_left
   ·rw [if_neg c4] at H; exact absurd H (by simp)
   rw [if_pos c4] at H; have qhF : decide (0 ≤ qdP) = true := decide_eq_true c4; clear c4; by_cases c5 : qdP < (a0.size : Int); rotate_left
   ·rw [if_neg c5] at H; exact absurd H (by simp)
   rw [if_pos c5] at H; have qi9 : decide (qdP < (a0.size : Int)) = true := decide_eq_true c5; clear c5; by_cases c7 : (bt a0 qdP) = 63
   ·rw [if_pos c7] at H; have qiI : ((bt a0 qdP) == 63) = true := beq_iff_eq.mpr c7; have qmR : ((bt a0 qdP) != 63) = false := bne_eq_false_iff_eq.mpr c7; clear c7; have H' := ak_ H; clear H
    try go_wp2
    replace HB := ak_ (qap HB.out); have p6 : 0 ≤ (qdP : Int) := of_decide_eq_true qa8; have q6 : qdP < (a0.size : Int) := of_decide_eq_true qa8; have hx6 := qea a0 qdP; replace p6 := eq_true p6; replace q6 := eq_true q6; refine qc7 (n := 15) (S := fun w' => True) (ds := []) (rA_ [0, 15]) (by kernel_rfl) rfl rfl trivial (fun hHeld => ?_); refine qb1 qbr.tab4 qbr.qrz (fun HT_ HW_ => ?_)
    generalize wr.drew = w8 at HB hHeld ⊢
    refine pu_ 0 11 [1, 14] ?_; refine pu_ 1 12 [2, 13] ?_; refine ta_ 2 13 [3, 12] ?_; refine pu_ 3 14 [4, 11] ?_; refine pu_ 4 15 [5, 10] ?_; refine pz_ 5 16 [6, 9] ?_; refine pz_ 6 17 [7, 8] ?_; refine pz_ 7 18 [8, 7] ?_; refine pz_ 8 19 [9, 6] ?_; refine pz_ 9 20 [10, 5] ?_; refine pz_ 10 21 [11, 4] ?_; refine pz_ 11 22 [12, 3] ?_; refine pz_ 12 23 [13, 2] ?_; refine pz_ 13 24 [14, 1] ?_; refine pu_ 14 25 [15] ?_; refine qeI (qc3 HT_.out (by kernel_rfl)) ?_
    try go_wp2
    go_roundg k1
    case measure => have := HK1.out; omega
    case rel => exact ⟨(wrap64 (qdP + 1)), qbg, H', ⟨qgl⟩, ⟨qcw⟩⟩
   rw [if_neg c7] at H; have qiI : ((bt a0 qdP) == 63) = false := beq_eq_false_iff_ne.mpr c7; have qmR : ((bt a0 qdP) != 63) = true := bne_iff_ne.mpr c7; obtain ⟨qco, A9, H⟩ := qbh H; (try dsimp only at H); by_cases c11 : (qco != ((bt a0 qdP) == 111)) = true
   ·rw [if_pos c11] at H; have qlj : (qco != ((bt a0 qdP) == 111)) = true := c11; (try (have qmt : decide (qco = ((bt a0 qdP) == 111)) = false := by simpa using c11)); (try (have c11b2 : (qco == ((bt a0 qdP) == 111)) = false := by simpa using c11)); (try (have c11b3 : ¬ (qco = ((bt a0 qdP) == 111)) := by simpa using c11)); clear c11; obtain rfl := Option.some.inj H
    try go_wp2
    replace HB := ak_ (qap HB.out); have p6 : 0 ≤ (qdP : Int) := of_decide_eq_true qa8; have q6 : qdP < (a0.size : Int) := of_decide_eq_true qa8; have hx6 := qea a0 qdP; replace p6 := eq_true p6; replace q6 := eq_true q6; have p10 : 0 ≤ (qdP : Int) := of_decide_eq_true qa8; have q10 : qdP < (a0.size : Int) := of_decide_eq_true qa8; have hx10 := qea a0 qdP; replace p10 := eq_true p10; replace q10 := eq_true q10; refine qc7 (n := 15) (S := fun w' => True) (ds := []) (rA_ [0, 15]) (by kernel_rfl) rfl rfl trivial (fun hHeld => ?_); refine qb1 qbr.tab4 qbr.qrz (fun HT_ HW_ => ?_)
    generalize wr.drew = w12 at HB hHeld ⊢
    refine pu_ 0 11 [1, 14] ?_; refine pu_ 1 12 [2, 13] ?_; refine ta_ 2 13 [3, 12] ?_; refine pu_ 3 14 [4, 11] ?_; refine pu_ 4 15 [5, 10] ?_; refine pu_ 5 16 [6, 9] ?_; refine pu_ 6 17 [7, 8] ?_; refine pu_ 7 18 [8, 7] ?_; refine pu_ 9 20 [8, 1, 1, 5] ?_; refine pu_ 10 21 [8, 1, 2, 4] ?_; refine ta_ 11 22 [8, 1, 3, 3] ?_; refine pu_ 12 23 [8, 1, 4, 2] ?_; refine qe2 (i := 8) (N := some 19) (rA_ [13, 2]) rfl rfl (qcn HT_.out (by kernel_rfl)) (by decide) (fun K hK => ?_); refine qdz Tryz.func82 (by kernel_rfl) rfl #[.slice A1 l1.length c1, .int .i64 (wrap64 (qdP + 1))] (by rfl) rfl rfl qbK ?_
    with_reducible refine (qem.calls _ _ l1 (wrap64 (qdP + 1)) qco _ ?qaB ?qaC A9.out).mono ?_
    (case qaB => exact k71_)
    (case qaC => exact HC1.out)
    rintro e w13 ⟨rfl, hb⟩; refine ⟨_, rfl, ?_⟩; replace HB := HB.mw hb; (try clear hb); (try clear hb2); (try clear hk); (try clear hi); refine hK.out _ _ trivial (fun hHeld => ?_); clear hK K; refine nm_ 19 ?_; refine pu_ 13 24 [14, 1] ?_; refine pu_ 14 25 [15] ?_; refine qeI (qc3 HT_.out (by kernel_rfl)) ?_
    try go_wp2
    go_ret
    exact ⟨qbx, qcw⟩
   rw [if_neg c11] at H
   have qlj : (qco != ((bt a0 qdP) == 111)) = false := by simpa using c11
   (try (have qmt : decide (qco = ((bt a0 qdP) == 111)) = true := by simpa using c11)); (try (have c11b2 : (qco == ((bt a0 qdP) == 111)) = true := by simpa using c11)); clear c11; have H' := ak_ H; clear H
   try go_wp2
   replace HB := ak_ (qap HB.out); have p6 : 0 ≤ (qdP : Int) := of_decide_eq_true qa8; have q6 : qdP < (a0.size : Int) := of_decide_eq_true qa8; have hx6 := qea a0 qdP; replace p6 := eq_true p6; replace q6 := eq_true q6; have p10 : 0 ≤ (qdP : Int) := of_decide_eq_true qa8; have q10 : qdP < (a0.size : Int) := of_decide_eq_true qa8; have hx10 := qea a0 qdP; replace p10 := eq_true p10; replace q10 := eq_true q10; refine qc7 (n := 15) (S := fun w' => True) (ds := []) (rA_ [0, 15]) (by kernel_rfl) rfl rfl trivial (fun hHeld => ?_); refine qb1 qbr.tab4 qbr.qrz (fun HT_ HW_ => ?_)
   generalize wr.drew = w14 at HB hHeld ⊢
   refine pu_ 0 11 [1, 14] ?_; refine pu_ 1 12 [2, 13] ?_; refine ta_ 2 13 [3, 12] ?_; refine pu_ 3 14 [4, 11] ?_; refine pu_ 4 15 [5, 10] ?_; refine pu_ 5 16 [6, 9] ?_; refine pu_ 6 17 [7, 8] ?_; refine pu_ 7 18 [8, 7] ?_; refine pu_ 9 20 [8, 1, 1, 5] ?_; refine pu_ 10 21 [8, 1, 2, 4] ?_; refine ta_ 11 22 [8, 1, 3, 3] ?_; refine pu_ 12 23 [8, 1, 4, 2] ?_; refine qe2 (i := 8) (N := some 19) (rA_ [13, 2]) rfl rfl (qcn HT_.out (by kernel_rfl)) (by decide) (fun K hK => ?_); refine qdz Tryz.func82 (by kernel_rfl) rfl #[.slice A1 l1.length c1, .int .i64 (wrap64 (qdP + 1))] (by rfl) rfl rfl qbK ?_
   with_reducible refine (qem.calls _ _ l1 (wrap64 (qdP + 1)) qco _ ?qaB ?qaC A9.out).mono ?_
   (case qaB => exact k71_)
   (case qaC => exact HC1.out)
   rintro e w15 ⟨rfl, hb⟩; refine ⟨_, rfl, ?_⟩; replace HB := HB.mw hb; (try clear hb); (try clear hb2); (try clear hk); (try clear hi); refine hK.out _ _ trivial (fun hHeld => ?_); clear hK K; refine nm_ 19 ?_; refine pu_ 13 24 [14, 1] ?_; refine pu_ 14 25 [15] ?_; refine qeI (qc3 HT_.out (by kernel_rfl)) ?_
   try go_wp2
   go_roundg k1
   case measure => have := HK1.out; omega
   case rel => exact ⟨(wrap64 (qdP + 1)), qbg, H', ⟨qgl⟩, ⟨qcw⟩⟩
mutual
def qbb.f : Nat → ByteArray → Int → Int → List qaj → List qaj → Int → List (List qaj) → Option (List (List qaj))
  | 0, _, _, _, _, _, _, _ => none
  | k + 1, p, R, most, rules, list, frm, out => if (out.length : Int) = most then some out else (if (list.length : Int) = R then ((qbr.f k p list).bind fun t => if t = true then (if out.length < 5864062014805 then some (out ++ [list]) else none) else some out) else qbb.l0 k p R most rules list out frm)
def qbb.l0 : Nat → ByteArray → Int → Int → List qaj → List qaj → List (List qaj) → Int → Option (List (List qaj))
  | 0, _, _, _, _, _, _, _ => none
  | k + 1, p, R, most, rules, list, out, i => if i < (rules.length : Int) then (if 0 ≤ i then (if list.length < 8796093022207 then ((qbb.f k p R most rules (list ++ [qab rules i]) (wrap64 (i + 1)) out).bind fun o => qbb.l0 k p R most rules list o (wrap64 (i + 1))) else none) else none) else some out
end
theorem goesV_ {P : Program} {ops : Array Oper} {Q : Exit → Act → World → Prop} {oi : Oper} {N : Option Tmp} {a : Act} {w : World} {K : Act → World → Prop} {f : FuncId} {fn : Func} {fv : Operand} {xs : Array Operand} {ts : Array TypeId} (lb : Array Value) (hf : P.funcs[f]? = some fn) (hname : (fn.name == "runtime.NumGoroutine") = false) (hb : fn.body.isSome = true) (args : Array Value)
    (hw : Region.wanted oi (yielded ops a.tmps) = true) (hN : oi.dst = N) (hop : oi.op = .call { callee := .value fv, args := xs, argTypes := ts }) (hv : a.eval fv = .func (.func f) #[] lb) (hargs : xs.map a.eval = args)
    (h : Calls P f (args ++ lb) w fun e w' => ∃ v, e = .returned v ∧ K (a.put N v) w') : if Region.wanted oi (yielded ops a.tmps) = true then Oper.wp P oi a w K Q else K (a.put N undef) w := by
  refine call_ f (args ++ lb) hw hN ?_ h; have he := qp6 hf hname hb (args ++ lb) w; unfold execOp
  simp [hop, resolve, Deferred.ofValue, invoke, hv, hargs, he]
structure qfU (g : Nat) (row : Option Nat) (w w' : World) : Prop where
  os : w'.os = w.os
  tape : w'.tape = w.tape
  output : w'.output = w.output
  size : w.heap.size ≤ w'.heap.size
  block : ∀ k, k < w.heap.size → k ≠ g → some k ≠ row → w'.heap[k]? = w.heap[k]?
section
variable {g : Nat} {row row' : Option Nat} {w w1 w2 : World}
theorem qfU.qbG (h : Below w.heap.size w w1) : qfU g row w w1 := ⟨h.os, h.tape, h.output, h.size, fun k hk _ _ => h.block k hk⟩
theorem qfU.qgm (h : w.grownBy w1 row) : qfU g row w w1 := ⟨h.os, h.tape, h.output, h.size, fun k hk _ hr => h.block k hk hr⟩
theorem qfU.refl (w : World) : qfU g row w w := qfU.qbG (Below.refl _ _)
theorem qfU.trans (h : qfU g row w w1) (h2 : qfU g row' w1 w2) (hr : ∀ k, row' = some k → row = some k ∨ w.heap.size ≤ k) : qfU g row w w2 :=
  ⟨h2.os.trans h.os, h2.tape.trans h.tape, h2.output.trans h.output, Nat.le_trans h.size h2.size, fun k hk hg hne => (h2.block k (Nat.lt_of_lt_of_le hk h.size) hg (fun e => by
    rcases hr k e.symm with hr | hb
    ·exact hne hr.symm
    omega)).trans (h.block k hk hg hne)⟩
theorem qfU.qeU (h : qfU g row w w1) (hb : Below w1.heap.size w1 w2) : qfU g row w w2 := qfU.trans h (qfU.qbG (row := none) hb) (fun k hk => by simp at hk)
theorem qfU.set (h : qfU g row w w1) (u : Value) : qfU g row w (w1.setCell ⟨g, 0, none⟩ u) :=
  ⟨h.os, h.tape, h.output, by simpa [World.setCell] using h.size, fun k hk hg hr => (Below.heap_setCell w1 ⟨g, 0, none⟩ u k hg).trans (h.block k hk hg hr)⟩
theorem qfU.blk {b gL : Nat} {o : Obj} (h : qfU g (some gL) w w1) (hb : w.heap[b]? = some o) (hne : b ≠ g ∧ b ≠ gL) : w1.heap[b]? = some o := (h.block b (qdN hb) hne.1 (by simpa using hne.2)).trans hb
end
def ChFix (w0 : World) (bs gL g gM gP gR gC : Nat) (p : ByteArray) (R most : Int) (AR : Option Addr) (cR : Nat) (rules : List qaj) : Prop :=
  (g < w0.heap.size ∧ g ≠ gL ∧ bs ≤ w0.heap.size) ∧ ((gM ≠ g ∧ gM ≠ gL) ∧ (gP ≠ g ∧ gP ≠ gL) ∧ (gR ≠ g ∧ gR ≠ gL) ∧ (gC ≠ g ∧ gC ≠ gL)) ∧ w0.heap[gM]? = some (.cells #[.int .i64 most] 3 (0, 0)) ∧ w0.heap[gP]? = some (.cells #[.string p, .int .i64 R] 23 (0, 0)) ∧ w0.heap[gR]? = some (.cells #[.slice AR rules.length cR] 24 (0, 0)) ∧ w0.heap[gC]? = some (.cells #[.func (.func 83) #[] #[.pointer (some ⟨g, 0, none⟩), .pointer (some ⟨gM, 0, none⟩), .pointer (some ⟨gP, 0, none⟩), .pointer (some ⟨gR, 0, none⟩), .pointer (some ⟨gC, 0, none⟩)]] 90 (0, 0)) ∧ rules.length ≤ cR ∧ (∀ W', qfU g (some gL) w0 W' → Kd.C qa1 W' AR rules.length rules)
def ChSt (w0 : World) (bs gL g : Nat) (vo : Value) (out : List (List qaj)) (W : World) : Prop :=
  W.heap[g]? = some (.cells #[vo] 25 (0, 0)) ∧ Kd.S (Kd.slice 33 qa1) 24 W bs (fun k => k = gL ∨ w0.heap.size ≤ k) vo out ∧ qfU g (some gL) w0 W
theorem ChSt.below {w0 : World} {bs gL g : Nat} {vo : Value} {out : List (List qaj)} {W W1 : World} (h : ChSt w0 bs gL g vo out W) (hb : Below W.heap.size W W1) : ChSt w0 bs gL g vo out W1 :=
  ⟨qam h.1 hb, Kd.qdB h.2.1 hb, qfU.qeU h.2.2 hb⟩
def ChRo (W : World) (vo v : Value) : Prop := ∀ k, v.ownBlock = some k → vo.ownBlock = some k ∨ W.heap.size ≤ k
theorem ch_list {w0 : World} {bs gL g b' : Nat} {ok' : Nat → Prop} {vo : Value} {out : List (List qaj)} {W W1 : World} {A : Option Addr} {c : Nat} {l : List qaj} (hS : ChSt w0 bs gL g vo out W) (h : Kd.R qa1 33 W b' ok' (.slice A l.length c) l) (hm : qfU g vo.ownBlock W W1) : Kd.C qa1 W1 A l.length l :=
  (Kd.R_reads' (Kd.qmN (Kd.qfK h) (fun k hk hlt => hm.block k hlt (fun e => by
    obtain ⟨_, _, _, q, hq, cells', hc'⟩ := hk; rw [e, hS.1] at hc'
    injection hc' with hc'
    injection hc' with _ hq'
    subst hq'
    revert hq
    decide) (fun e => by
    obtain ⟨cells, hc⟩ := Kd.S_typed hS.2.1 k e.symm; obtain ⟨_, _, _, q, hq, cells', hc'⟩ := hk; rw [hc] at hc'
    injection hc' with hc'
    injection hc' with _ hq'
    subst hq'
    revert hq
    decide)))).2.2
theorem ch_rules {gL g b' : Nat} {ok' : Nat → Prop} {W W1 : World} {cs : Array Value} {A : Option Addr} {c : Nat} {l : List qaj} (hG : W.heap[g]? = some (.cells cs 25 (0, 0))) (hL : ∃ cells, W.heap[gL]? = some (.cells cells 24 (0, 0))) (h : Kd.R qa1 33 W b' ok' (.slice A l.length c) l) (hm : qfU g (some gL) W W1) : Kd.C qa1 W1 A l.length l :=
  (Kd.R_reads' (Kd.qmN (Kd.qfK h) (fun k hk hlt => hm.block k hlt (fun e => by
    obtain ⟨_, _, _, q, hq, cells', hc'⟩ := hk; rw [e, hG] at hc'
    injection hc' with hc'
    injection hc' with _ hq'
    subst hq'
    revert hq
    decide) (fun e => by
    obtain ⟨cells, hc⟩ := hL; obtain ⟨_, _, _, q, hq, cells', hc'⟩ := hk
    injection e with e
    rw [e, hc] at hc'
    injection hc' with hc'
    injection hc' with _ hq'
    subst hq'
    revert hq
    decide)))).2.2
theorem qqp : (Tryz.prog.info? 24).map (fun i => (i.zero, i.size, i.bytes)) = some (some (.slice none 0 0), 1, 24) := by kernel_rfl
theorem qbb.own (w0 : World) (bs gL g gM gP gR gC : Nat) (p : ByteArray) (R most : Int) (AR : Option Addr) (cR : Nat) (rules : List qaj) (hfix : qah (ChFix w0 bs gL g gM gP gR gC p R most AR cR rules)) (k : Nat) : ∀ (list : List qaj) (frm : Int) (out r : List (List qaj)) (Al : Option Addr) (cl : Nat) (vo : Value) (W : World)
    (_ : ChSt w0 bs gL g vo out W) (_ : list.length ≤ cl) (_ : Kd.R qa1 33 W w0.heap.size (fun _ => True) (.slice Al list.length cl) list) (_ : Kd.S (Kd.slice 33 qa1) 24 W bs (fun k => (k = gL ∨ w0.heap.size ≤ k) ∧ some k ≠ (Value.slice Al list.length cl).ownBlock) vo out) (_ : qbb.f k p R most rules list frm out = some r),
    Calls Tryz.prog 83 (#[.slice Al list.length cl, .int .i64 frm] ++ #[.pointer (some ⟨g, 0, none⟩), .pointer (some ⟨gM, 0, none⟩), .pointer (some ⟨gP, 0, none⟩), .pointer (some ⟨gR, 0, none⟩), .pointer (some ⟨gC, 0, none⟩)]) W fun e w' => e = .returned (.tuple #[]) ∧ ∃ v1, ChSt w0 bs gL g v1 r w' ∧ qfU g vo.ownBlock W w' ∧ ChRo W vo v1 := by
  induction k using Nat.strongRecOn with
  | ind k ih =>
  intro list frm out r Al cl vo W hst hlc hown hap h; have hcM : W.cell? ⟨gM, 0, none⟩ = some (.int .i64 most) := (qaO (qfU.blk hst.2.2 hfix.out.2.2.1 hfix.out.2.1.1) 0).trans rfl; have hcP0 : W.cell? ⟨gP, 0, none⟩ = some (.string p) := (qaO (qfU.blk hst.2.2 hfix.out.2.2.2.1 hfix.out.2.1.2.1) 0).trans rfl; have hcP1 : W.cell? ⟨gP, 1, none⟩ = some (.int .i64 R) := (qaO (qfU.blk hst.2.2 hfix.out.2.2.2.1 hfix.out.2.1.2.1) 1).trans rfl; have hS0 := hst.2.1; obtain ⟨Ao, co, eo⟩ := Kd.qcU hS0; subst eo; have hcG : W.cell? ⟨g, 0, none⟩ = some (.slice Ao out.length co) := (qaO hst.1 0).trans rfl; have HLC := ak_ (show ∀ W1, qfU g (Value.slice Ao out.length co).ownBlock W W1 → Kd.C qa1 W1 Al list.length list from fun W1 hm => ch_list hst hown hm); have IH := ak_ ih; have HST0 := ak_ hst; have HLE := ak_ hlc; have HOWN := ak_ hown; have HAP := ak_ hap; have HG := ak_ hfix.out.1; clear ih hst hlc hown hap hS0
  cases k with
  | zero => exact absurd h (by simp [qbb.f])
  | succ k =>
    simp only [qbb.f] at h; by_cases c1_ : (out.length : Int) = most
    ·rw [if_pos c1_] at h; have c1b : ((out.length : Int) == most) = true := beq_iff_eq.mpr c1_; have HR := ak_ (Option.some.inj h); clear c1_ h; go_enter Tryz.func83, Tryz.ntmps83; go_wp2; (first | (refine bodyPost_ret (results_none rfl _ _ _) rfl ?_) | go_end0); exact ⟨rfl, _, by rw [← HR.out]; exact HST0.out, qfU.refl _, fun _ h_ => .inl h_⟩
    rw [if_neg c1_] at h; have c1b : ((out.length : Int) == most) = false := beq_eq_false_iff_ne.mpr c1_; clear c1_; by_cases c2_ : (list.length : Int) = R
    ·rw [if_pos c2_] at h; have c2b : ((list.length : Int) == R) = true := beq_iff_eq.mpr c2_; clear c2_; replace h := Option.bind_eq_some_iff.mp h; obtain ⟨t, A0_, h⟩ := h; have A_ := ak_ A0_; clear A0_
     cases t with
     | true =>
       rw [if_pos rfl] at h; by_cases c3_ : out.length < 5864062014805; rotate_left
       ·rw [if_neg c3_] at h; exact absurd h (by simp)
       rw [if_pos c3_] at h; have HLO := ak_ c3_; have HR := ak_ (Option.some.inj h); clear c3_ h; go_enter Tryz.func83, Tryz.ntmps83
       go_wp2_with (first | ((with_reducible refine qad (f := 53) rfl ?_); refine gl_ 22 Tryz.func53 #[.string p, .slice Al list.length cl] rfl qeX ?_; (with_reducible refine (qbr.calls k p _ _ list true _ ?qaB ?qaC A_.out).mono ?_); (case qaB => exact HLC.out _ (qfU.refl _)); (case qaC => exact HLE.out); rintro e w1 ⟨rfl, hb⟩; refine ⟨_, rfl, ?_⟩; have HB1 := ak_ hb; have hcG1 : w1.cell? ⟨g, 0, none⟩ = some (.slice Ao out.length co) := (qaO (qam HST0.out.1 hb) 0).trans rfl; clear hb) | ((with_reducible refine qca (b := .append) (xs := #[.tmp 23, .tmp 25]) rfl ?_); at_builtin; refine Kd.qqF (Kd.slice 33 qa1) (w0 := w1) bs rfl (.tmp 23) (.tmp 25) 25 24 (.slice none 0 0) 24 rfl Tryz.underlying25 qqp rfl (by decide) (by omega) (.slice Ao out.length co) out list [.slice Al list.length cl] (fun k_ => k_ = gL ∨ w0.heap.size ≤ k_) (fun k_ => some k_ = (.slice Al list.length cl : Value).ownBlock) rfl rfl ?aP ?aK ?aF ?aO ?aB ?aS ?aL ?_; (case aP => exact Kd.M_row (Kd.qsM rfl (Kd.qby (Kd.qbn HOWN.out HB1.out) HG.out.2.2))); (case aF => exact (fun k_ hk => .inr (Nat.le_trans (Nat.le_trans HST0.out.2.2.size HB1.out.size) hk))); (case aK => exact (fun k_ hk => ⟨.inr (Kd.qc1 HOWN.out k_ hk.symm), fun e_ => ((Kd.S_R HAP.out).1 k_ e_.symm).2 hk⟩)); (case aO => exact Kd.qdB HAP.out HB1.out); (case aB => exact Below.refl _ _); (case aS => exact Nat.le_trans HG.out.2.2 (Nat.le_trans HST0.out.2.2.size HB1.out.size)); (case aL => have h_ := HLO.out; omega); intro v1 w4 ho hb hg hat; rw [HR.out] at ho; obtain ⟨A1v, c1v, e1v⟩ := Kd.qcU ho; subst e1v; have HO4 := ak_ ho; have HG4 := ak_ hg; have HAT := ak_ hat; have hbk4 := qey (qam HST0.out.1 HB1.out) hg (fun e_ => by have h1_ := (Kd.S_R HST0.out.2.1).1 g e_.symm; have h2_ := HG.out; omega); have HK4 := ak_ hbk4; have hcG4 : w4.cell? ⟨g, 0, none⟩ = some (.slice Ao out.length co) := (qaO hbk4 0).trans rfl; have hfG4 := qaU hbk4 0; clear ho hb hg hat hbk4))
       (first | (refine bodyPost_ret (results_none rfl _ _ _) rfl ?_) | go_end0); refine ⟨rfl, (.slice A1v r.length c1v), ?_, ?_, ?_⟩
       ·refine ⟨qaQ HK4.out 0 (.slice A1v r.length c1v) rfl, ?_, ?_⟩
        ·exact Kd.qdo (Kd.qiG (p := ⟨g, 0, none⟩) (Kd.qhZ HO4.out) (fun k_ hk => by have h1_ := hk.1; have h2_ := HG.out; show k_ ≠ g; omega) (.slice A1v r.length c1v)) (fun _ hk => hk.1)
        exact qfU.set (qfU.trans (qfU.qeU HST0.out.2.2 HB1.out) (qfU.qgm HG4.out) (fun k_ hk => ((Kd.S_R HST0.out.2.1).1 k_ hk).imp (fun e_ => by rw [e_]) id)) _
       ·exact qfU.set (qfU.trans (qfU.qbG HB1.out) (qfU.qgm HG4.out) (fun _ h_ => .inl h_)) _
       exact (fun k_ hk => HAT.out.elim (fun e_ => .inl (e_ ▸ hk)) (fun ⟨b_, e_, hb_⟩ => .inr (by rw [e_] at hk; injection hk with hk; have := HB1.out.size; omega)))
     | false =>
       rw [if_neg (by decide)] at h; have HR := ak_ (Option.some.inj h); clear h; go_enter Tryz.func83, Tryz.ntmps83
       go_wp2_with (((with_reducible refine qad (f := 53) rfl ?_); refine gl_ 22 Tryz.func53 #[.string p, .slice Al list.length cl] rfl qeX ?_; (with_reducible refine (qbr.calls k p _ _ list false _ ?qaB ?qaC A_.out).mono ?_); (case qaB => exact HLC.out _ (qfU.refl _)); (case qaC => exact HLE.out); rintro e w1 ⟨rfl, hb⟩; refine ⟨_, rfl, ?_⟩; have HB1 := ak_ hb; clear hb))
       (first | (refine bodyPost_ret (results_none rfl _ _ _) rfl ?_) | go_end0); exact ⟨rfl, _, by rw [← HR.out]; exact ChSt.below HST0.out HB1.out, qfU.qbG HB1.out, fun _ h_ => .inl h_⟩
    rw [if_neg c2_] at h; have c2b : ((list.length : Int) == R) = false := beq_eq_false_iff_ne.mpr c2_; clear c2_; have H' := ak_ h; clear h; have HMV0 := ak_ (qfU.refl (g := g) (row := (Value.slice Ao out.length co).ownBlock) W); have HRO0 := ak_ (show ChRo W (Value.slice Ao out.length co) (Value.slice Ao out.length co) from fun _ h_ => .inl h_); go_enter Tryz.func83, Tryz.ntmps83; go_wp2
    go_loopg [9] k (fun kq v9 wx => ∃ (o : List (List qaj)) (i : Int) (vq : Value), v9 = .int .i64 i ∧ qah (qbb.l0 kq p R most rules list o i = some r) ∧ qah (kq ≤ k) ∧ qah (ChSt w0 bs gL g vq o wx) ∧ qah (qfU g (Value.slice Ao out.length co).ownBlock W wx) ∧ qah (ChRo W (Value.slice Ao out.length co) vq))
    case atStart => exact ⟨out, frm, _, rfl, H', ⟨Nat.le_refl _⟩, HST0, HMV0, HRO0⟩
    case round =>
      clear H' HMV0 HRO0 hcG hcM hcP0 hcP1; obtain ⟨o, i, vq, rfl, HA_, HK, HST, HMV, HRO⟩ := hrel
      cases gk with
      | zero => exact absurd HA_.out (by simp [qbb.l0])
      | succ k1 =>
        have H := HA_.out; clear HA_; simp only [qbb.l0] at H; have hcR : wr.cell? ⟨gR, 0, none⟩ = some (.slice AR rules.length cR) := (qaO (qfU.blk HST.out.2.2 hfix.out.2.2.2.2.1 hfix.out.2.1.2.2.1) 0).trans rfl; by_cases c1_ : i < (rules.length : Int); rotate_left
        ·rw [if_neg c1_] at H; have c1b_ : decide (i < (rules.length : Int)) = false := decide_eq_false c1_; clear c1_; have HR := ak_ (Option.some.inj H); clear H; go_wp2; (first | (refine bodyPost_ret (results_none rfl _ _ _) rfl ?_) | go_end0); exact ⟨rfl, _, by rw [← HR.out]; exact HST.out, HMV.out, HRO.out⟩
        rw [if_pos c1_] at H; have c1b_ : decide (i < (rules.length : Int)) = true := decide_eq_true c1_; by_cases c2_ : 0 ≤ i; rotate_left
        ·rw [if_neg c2_] at H; exact absurd H (by simp)
        rw [if_pos c2_] at H; have c2b_ : decide (0 ≤ i) = true := decide_eq_true c2_; by_cases c3_ : list.length < 8796093022207; rotate_left
        ·rw [if_neg c3_] at H; exact absurd H (by simp)
        rw [if_pos c3_] at H; have HLB := ak_ c3_; clear c3_; replace H := Option.bind_eq_some_iff.mp H; obtain ⟨o2, A0_, H⟩ := H; have A_ := ak_ A0_; have H' := ak_ H; clear A0_ H; obtain ⟨Aq, cq, eq_⟩ := Kd.qcU HST.out.2.1; subst eq_; obtain ⟨ad, e_, hx0, hx1⟩ := qcq (hfix.out.2.2.2.2.2.2.2 _ HST.out.2.2) i c2_ c1_; subst e_; have hcC : wr.cell? ⟨gC, 0, none⟩ = some (.func (.func 83) #[] #[.pointer (some ⟨g, 0, none⟩), .pointer (some ⟨gM, 0, none⟩), .pointer (some ⟨gP, 0, none⟩), .pointer (some ⟨gR, 0, none⟩), .pointer (some ⟨gC, 0, none⟩)]) := (qaO (qfU.blk HST.out.2.2 hfix.out.2.2.2.2.2.1 hfix.out.2.1.2.2.2) 0).trans rfl; have HXc := ak_ (show wr.drew.cell? ⟨gC, 0, none⟩ = _ from hcC); have HXr := ak_ (show wr.drew.cell? ⟨gR, 0, none⟩ = _ from hcR); have HX0 := ak_ (show wr.drew.cell? (ad.add (i.toNat * 2)) = _ from hx0); have HX1 := ak_ (show wr.drew.cell? ⟨(ad.add (i.toNat * 2)).block, (ad.add (i.toNat * 2)).off + 1, none⟩ = _ from hx1); have HBx := ak_ (qap (Below.refl wr.heap.size wr)); clear hx0 hx1 hcC; go_wp2; refine qc7 (n := 13) (S := fun w' => w'.cell? ⟨gC, 0, none⟩ = some (.func (.func 83) #[] #[.pointer (some ⟨g, 0, none⟩), .pointer (some ⟨gM, 0, none⟩), .pointer (some ⟨gP, 0, none⟩), .pointer (some ⟨gR, 0, none⟩), .pointer (some ⟨gC, 0, none⟩)]) ∧ w'.cell? ⟨gR, 0, none⟩ = some (.slice (some ad) rules.length cR) ∧ w'.cell? (ad.add (i.toNat * 2)) = some (.int .i64 (qab rules i).f0) ∧ w'.cell? ⟨(ad.add (i.toNat * 2)).block, (ad.add (i.toNat * 2)).off + 1, none⟩ = some (.int .i64 (qab rules i).f1)) (ds := [12]) #[false, false, false, false, false, false, false, false, false, false, false, false, false] (by kernel_rfl) rfl rfl ⟨HXc.out, HXr.out, HX0.out, HX1.out⟩ (fun hHeld => ?_)
        generalize wr.drew = wS at HXc HXr HX0 HX1 HBx hHeld ⊢
        have HBc := ak_ (Below.refl wS.heap.size wS); refine qef (i := 2) (N := some 36) (v := ?_) (a' := ?_) #[false, false, true, false, false, false, false, false, false, false, false, false, false] rfl rfl (by kernel_rfl) (fun _ _ _ h => h) (Or.inl ⟨by rfl, ?_⟩) ?_ ?_; rotate_left
        · intro w'
          go_simp
          with_reducible rfl
        rotate_left
        · simp only [Act.put, List.setIfInBounds_toArray, List.set_cons_zero, List.set_cons_succ, qbL, qbQ]
          rfl
        refine qef (i := 5) (N := some 39) (v := ?_) (a' := ?_) #[false, false, true, false, false, true, false, false, false, false, false, false, false] rfl rfl (by kernel_rfl) (fun _ _ _ h => h) (Or.inl ⟨by rfl, ?_⟩) ?_ ?_; rotate_left
        · intro w'
          go_simp
          with_reducible rfl
        rotate_left
        · simp only [Act.put, List.setIfInBounds_toArray, List.set_cons_zero, List.set_cons_succ, qbL, qbQ]
          rfl
        refine qef (i := 10) (N := some 44) (v := ?_) (a' := ?_) #[false, false, true, false, false, true, false, false, false, false, true, false, false] rfl rfl (by kernel_rfl) (fun _ _ _ h => h) (Or.inl ⟨by rfl, ?_⟩) ?_ ?_; rotate_left
        · intro w'
          go_simp
          with_reducible rfl
        rotate_left
        · simp only [Act.put, List.setIfInBounds_toArray, List.set_cons_zero, List.set_cons_succ, qbL, qbQ]
          rfl
        refine qef (i := 11) (N := some 45) (v := ?_) (a' := ?_) #[false, false, true, false, false, true, false, false, false, false, true, true, false] rfl rfl (by kernel_rfl) (fun _ _ _ h => h) (Or.inl ⟨by rfl, ?_⟩) ?_ ?_; rotate_left
        · intro w'
          go_simp
          with_reducible rfl
        rotate_left
        · simp only [Act.put, List.setIfInBounds_toArray, List.set_cons_zero, List.set_cons_succ, qbL, qbQ]
          rfl
        refine qg9 (i := 0) (N := some 34) (v := ?_) (a' := ?_) #[true, false, true, false, false, true, false, false, false, false, true, true, false] rfl rfl (by kernel_rfl) (fun _ _ _ h => h) (Or.inl ⟨by rfl, ?_⟩) hHeld ?_ ?_; rotate_left
        · rintro w' ⟨s0, s1, s2, s3⟩
          go_simp
          with_reducible rfl
        rotate_left
        · simp only [Act.put, List.setIfInBounds_toArray, List.set_cons_zero, List.set_cons_succ, qbL, qbQ]
          rfl
        refine qg9 (i := 4) (N := some 38) (v := ?_) (a' := ?_) #[true, false, true, false, true, true, false, false, false, false, true, true, false] rfl rfl (by kernel_rfl) (fun _ _ _ h => h) (Or.inl ⟨by rfl, ?_⟩) hHeld ?_ ?_; rotate_left
        · rintro w' ⟨s0, s1, s2, s3⟩
          go_simp
          with_reducible rfl
        rotate_left
        · simp only [Act.put, List.setIfInBounds_toArray, List.set_cons_zero, List.set_cons_succ, qbL, qbQ]
          rfl
        refine qef (i := 6) (N := some 40) (v := ?_) (a' := ?_) #[true, false, true, false, true, true, true, false, false, false, true, true, false] rfl rfl (by kernel_rfl) (fun _ _ _ h => h) (Or.inl ⟨by rfl, ?_⟩) ?_ ?_; rotate_left
        · intro w'
          go_simp
          with_reducible rfl
        rotate_left
        · simp only [Act.put, List.setIfInBounds_toArray, List.set_cons_zero, List.set_cons_succ, qbL, qbQ]
          rfl
        refine qg9 (i := 7) (N := some 41) (v := ?_) (a' := ?_) #[true, false, true, false, true, true, true, true, false, false, true, true, false] rfl rfl (by kernel_rfl) (fun _ _ _ h => h) (Or.inl ⟨by rfl, ?_⟩) hHeld ?_ ?_; rotate_left
        · rintro w' ⟨s0, s1, s2, s3⟩
          go_simp
          with_reducible rfl
        rotate_left
        · simp only [Act.put, List.setIfInBounds_toArray, List.set_cons_zero, List.set_cons_succ, qbL, qbQ]
          rfl
        refine qtT (σ := Value × Value × Value) 2 #[true, true, true, true, true, true, true, true, true, false, true, true, false] (fun s_ => [(35, s_.1), (37, s_.2.1), (42, s_.2.2)]) (fun s_ w' => Kd.R qa1 33 w' wS.heap.size (fun _ => True) s_.2.1 list ∧ Kd.R qa1 33 w' wS.heap.size (fun _ => True) s_.2.2 [qab rules i] ∧ Below wS.heap.size wS w') ?_ ?_; rotate_left
        · intro hCont
          refine two_ (i := 1) (j := 8) (Ni := some 35) (Nj := some 42) #[true, true, true, false, true, true, true, true, false, false, true, true, false] #[true, false, true, false, true, true, true, true, true, false, true, true, false] rfl rfl rfl rfl (by kernel_rfl) (by decide) (by decide) (fun K hK => ?_) (fun K hK => ?_)
          ·skip
           refine Kd.qde qa1 _ 33 ?hg (N := 35) ?hd (xs := ([] : List qaj)) (inner := []) (ok := fun _ => True) (okp := fun _ => True) ?hr ?hp (fun _ hk => hk) trivial (Below.refl _ _) (Nat.le_refl _) (by simp) ?_
           (case hd => rfl)
           (case hg => rfl)
           (case hr => exact qa0)
           (case hp => exact qcj.none _ _)
           intro v35 w1_0 ho hb hg_ hnew_; clear hg_ hnew_; have HL0 := ak_ (Kd.qby ho (qal HBc.out)); clear ho; have n9_ := ak_ (qac HBc.out hb); clear HBc hb; have HBc := n9_; clear n9_; refine hK.out _ _ ⟨(qay HBc.out HXc.out), (qay HBc.out HXr.out), (qay HBc.out HX0.out), (qay HBc.out HX1.out)⟩ (fun hHeld => ?_); clear hK K; refine qeN (a' := ?_) ?_ ?_; rotate_left
           · show Act.put _ (some 35) _ = _
             simp only [Act.put, List.setIfInBounds_toArray, List.set_cons_zero, List.set_cons_succ, qbL, qbQ]; rfl
           refine two_ (i := 3) (j := 8) (Ni := some 37) (Nj := some 42) #[true, true, true, true, true, true, true, true, false, false, true, true, false] #[true, true, true, false, true, true, true, true, true, false, true, true, false] rfl rfl rfl rfl (by kernel_rfl) (by decide) (by decide) (fun K hK => ?_) (fun K hK => ?_)
           ·skip
            refine Kd.qcP qa1 (w0 := wS) wS.heap.size (by rfl) (.tmp 35) (.tmp 36) 24 33 (.agg #[(.int .i64 0), (.int .i64 0)]) 16 rfl Tryz.underlying24 qc4 rfl (by decide) (by omega) v35 ([] : List qaj) list _ _ _ (fun _ => True) (fun _ => False) rfl rfl HL0.out ?aR (fun _ _ h => h) (fun _ h => h.elim) (fun _ _ => trivial) HBc.out (qal HBc.out) ?aL ?_
            (case aR => exact HLC.out _ (qfU.qeU (qfU.qeU HMV.out HBx.out) HBc.out))
            (case aL => have h_ := HLB.out; simp only [List.length_nil]; omega)
            intro v37 w3_1 ho hb hg hat_; simp only [List.nil_append] at ho; clear hg hat_ HL0 HBc; have HA := ak_ ho; have HBc := ak_ hb; clear ho hb; refine hK.out _ _ ⟨(qay HBc.out HXc.out), (qay HBc.out HXr.out), (qay HBc.out HX0.out), (qay HBc.out HX1.out)⟩ (fun hHeld => ?_); clear hK K; refine qeN (a' := ?_) ?_ ?_; rotate_left
            · show Act.put _ (some 37) _ = _
              simp only [Act.put, List.setIfInBounds_toArray, List.set_cons_zero, List.set_cons_succ, qbL, qbQ]; rfl
            refine qe2 (i := 8) (N := some 42) #[true, true, true, true, true, true, true, true, true, false, true, true, false] rfl rfl (by kernel_rfl) (by decide) (fun K hK => ?_); refine Kd.qde qa1 _ 33 ?hg (N := 42) ?hd (xs := ([qab rules i] : List qaj)) (inner := [.int .i64 (qab rules i).f0, .int .i64 (qab rules i).f1]) (ok := fun _ => True) (okp := fun _ => True) ?hr ?hp (fun _ hk => hk) trivial (Below.refl _ _) (Nat.le_refl _) (by simp) ?_
            (case hd => rfl)
            (case hg => rfl)
            (case hr => exact qa0)
            (case hp => exact qcj.front (qdp _ _ _ (qab rules i)) rfl (qcj.none _ _) rfl)
            intro v42 w8_2 ho hb hg_ hnew_; clear hg_ hnew_; have n1_ := ak_ (Kd.qbn HA.out hb); clear HA; have HA := n1_; clear n1_; have HL1 := ak_ (Kd.qby ho (qal HBc.out)); clear ho; have n9_ := ak_ (qac HBc.out hb); clear HBc hb; have HBc := n9_; clear n9_; refine hK.out _ _ ⟨(qay HBc.out HXc.out), (qay HBc.out HXr.out), (qay HBc.out HX0.out), (qay HBc.out HX1.out)⟩ (fun hHeld => ?_); clear hK K; refine qeN (a' := ?_) ?_ ?_; rotate_left
            · show Act.put _ (some 42) _ = _
              simp only [Act.put, List.setIfInBounds_toArray, List.set_cons_zero, List.set_cons_succ, qbL, qbQ]; rfl
            exact qeN qrR (hCont (v35, v37, v42) _ ⟨HA.out, Kd.qaT HL1.out (fun _ _ => trivial), HBc.out⟩)
           skip
           refine Kd.qde qa1 _ 33 ?hg (N := 42) ?hd (xs := ([qab rules i] : List qaj)) (inner := [.int .i64 (qab rules i).f0, .int .i64 (qab rules i).f1]) (ok := fun _ => True) (okp := fun _ => True) ?hr ?hp (fun _ hk => hk) trivial (Below.refl _ _) (Nat.le_refl _) (by simp) ?_
           (case hd => rfl)
           (case hg => rfl)
           (case hr => exact qa0)
           (case hp => exact qcj.front (qdp _ _ _ (qab rules i)) rfl (qcj.none _ _) rfl)
           intro v42 w8_1 ho hb hg_ hnew_; clear hg_ hnew_; have HL1 := ak_ (Kd.qaT (Kd.qby (Kd.R_new' ho (Kd.qkc HL0.out)) (qal HBc.out)) (fun _ hk => hk.2)); have n1_ := ak_ (Kd.qbn HL0.out hb); clear HL0 ho; have HL0 := n1_; clear n1_; have n9_ := ak_ (qac HBc.out hb); clear HBc hb; have HBc := n9_; clear n9_; refine hK.out _ _ ⟨(qay HBc.out HXc.out), (qay HBc.out HXr.out), (qay HBc.out HX0.out), (qay HBc.out HX1.out)⟩ (fun hHeld => ?_); clear hK K; refine qeN (a' := ?_) ?_ ?_; rotate_left
           · show Act.put _ (some 42) _ = _
             simp only [Act.put, List.setIfInBounds_toArray, List.set_cons_zero, List.set_cons_succ, qbL, qbQ]; rfl
           refine qe2 (i := 3) (N := some 37) #[true, true, true, true, true, true, true, true, true, false, true, true, false] rfl rfl (by kernel_rfl) (by decide) (fun K hK => ?_); refine Kd.qcP qa1 (w0 := wS) wS.heap.size (by rfl) (.tmp 35) (.tmp 36) 24 33 (.agg #[(.int .i64 0), (.int .i64 0)]) 16 rfl Tryz.underlying24 qc4 rfl (by decide) (by omega) v35 ([] : List qaj) list _ _ _ (fun _ => True) (fun _ => False) rfl rfl HL0.out ?aR (fun _ _ h => h) (fun _ h => h.elim) (fun _ _ => trivial) HBc.out (qal HBc.out) ?aL ?_
           (case aR => exact HLC.out _ (qfU.qeU (qfU.qeU HMV.out HBx.out) HBc.out))
           (case aL => have h_ := HLB.out; simp only [List.length_nil]; omega)
           intro v37 w3_2 ho hb hg hat_; simp only [List.nil_append] at ho; have n1_ := ak_ (Kd.qla HL1.out hg (fun _ hk => hk)); clear HL1; have HL1 := n1_; clear n1_; clear hg hat_ HL0 HBc; have HA := ak_ ho; have HBc := ak_ hb; clear ho hb; refine hK.out _ _ ⟨(qay HBc.out HXc.out), (qay HBc.out HXr.out), (qay HBc.out HX0.out), (qay HBc.out HX1.out)⟩ (fun hHeld => ?_); clear hK K; refine qeN (a' := ?_) ?_ ?_; rotate_left
           · show Act.put _ (some 37) _ = _
             simp only [Act.put, List.setIfInBounds_toArray, List.set_cons_zero, List.set_cons_succ, qbL, qbQ]; rfl
           exact qeN qrR (hCont (v35, v37, v42) _ ⟨HA.out, Kd.qaT HL1.out (fun _ _ => trivial), HBc.out⟩)
          skip
          refine Kd.qde qa1 _ 33 ?hg (N := 42) ?hd (xs := ([qab rules i] : List qaj)) (inner := [.int .i64 (qab rules i).f0, .int .i64 (qab rules i).f1]) (ok := fun _ => True) (okp := fun _ => True) ?hr ?hp (fun _ hk => hk) trivial (Below.refl _ _) (Nat.le_refl _) (by simp) ?_
          (case hd => rfl)
          (case hg => rfl)
          (case hr => exact qa0)
          (case hp => exact qcj.front (qdp _ _ _ (qab rules i)) rfl (qcj.none _ _) rfl)
          intro v42 w8_0 ho hb hg_ hnew_; clear hg_ hnew_; have HL1 := ak_ (Kd.qby ho (qal HBc.out)); clear ho; have n9_ := ak_ (qac HBc.out hb); clear HBc hb; have HBc := n9_; clear n9_; refine hK.out _ _ ⟨(qay HBc.out HXc.out), (qay HBc.out HXr.out), (qay HBc.out HX0.out), (qay HBc.out HX1.out)⟩ (fun hHeld => ?_); clear hK K; refine qeN (a' := ?_) ?_ ?_; rotate_left
          · show Act.put _ (some 42) _ = _
            simp only [Act.put, List.setIfInBounds_toArray, List.set_cons_zero, List.set_cons_succ, qbL, qbQ]; rfl
          refine qe2 (i := 1) (N := some 35) #[true, true, true, false, true, true, true, true, true, false, true, true, false] rfl rfl (by kernel_rfl) (by decide) (fun K hK => ?_); refine Kd.qde qa1 _ 33 ?hg (N := 35) ?hd (xs := ([] : List qaj)) (inner := []) (ok := fun _ => True) (okp := fun _ => True) ?hr ?hp (fun _ hk => hk) trivial (Below.refl _ _) (Nat.le_refl _) (by simp) ?_
          (case hd => rfl)
          (case hg => rfl)
          (case hr => exact qa0)
          (case hp => exact qcj.none _ _)
          intro v35 w1_1 ho hb hg_ hnew_; clear hg_ hnew_; have n1_ := ak_ (Kd.qaT (Kd.R_elder' HL1.out (Kd.qc1 ho) hb) (fun _ hk => hk.2)); clear HL1; have HL1 := n1_; clear n1_; have HL0 := ak_ (Kd.qby ho (qal HBc.out)); clear ho; have n9_ := ak_ (qac HBc.out hb); clear HBc hb; have HBc := n9_; clear n9_; refine hK.out _ _ ⟨(qay HBc.out HXc.out), (qay HBc.out HXr.out), (qay HBc.out HX0.out), (qay HBc.out HX1.out)⟩ (fun hHeld => ?_); clear hK K; refine qeN (a' := ?_) ?_ ?_; rotate_left
          · show Act.put _ (some 35) _ = _
            simp only [Act.put, List.setIfInBounds_toArray, List.set_cons_zero, List.set_cons_succ, qbL, qbQ]; rfl
          refine qe2 (i := 3) (N := some 37) #[true, true, true, true, true, true, true, true, true, false, true, true, false] rfl rfl (by kernel_rfl) (by decide) (fun K hK => ?_); refine Kd.qcP qa1 (w0 := wS) wS.heap.size (by rfl) (.tmp 35) (.tmp 36) 24 33 (.agg #[(.int .i64 0), (.int .i64 0)]) 16 rfl Tryz.underlying24 qc4 rfl (by decide) (by omega) v35 ([] : List qaj) list _ _ _ (fun _ => True) (fun _ => False) rfl rfl HL0.out ?aR (fun _ _ h => h) (fun _ h => h.elim) (fun _ _ => trivial) HBc.out (qal HBc.out) ?aL ?_
          (case aR => exact HLC.out _ (qfU.qeU (qfU.qeU HMV.out HBx.out) HBc.out))
          (case aL => have h_ := HLB.out; simp only [List.length_nil]; omega)
          intro v37 w3_2 ho hb hg hat_; simp only [List.nil_append] at ho; have n1_ := ak_ (Kd.qla HL1.out hg (fun _ hk => hk)); clear HL1; have HL1 := n1_; clear n1_; clear hg hat_ HL0 HBc; have HA := ak_ ho; have HBc := ak_ hb; clear ho hb; refine hK.out _ _ ⟨(qay HBc.out HXc.out), (qay HBc.out HXr.out), (qay HBc.out HX0.out), (qay HBc.out HX1.out)⟩ (fun hHeld => ?_); clear hK K; refine qeN (a' := ?_) ?_ ?_; rotate_left
          · show Act.put _ (some 37) _ = _
            simp only [Act.put, List.setIfInBounds_toArray, List.set_cons_zero, List.set_cons_succ, qbL, qbQ]; rfl
          exact qeN qrR (hCont (v35, v37, v42) _ ⟨HA.out, Kd.qaT HL1.out (fun _ _ => trivial), HBc.out⟩)
        rintro ⟨v35, v37, v42⟩ wJ ⟨ha_, hl_, hb_⟩; clear HBc; have HA := ak_ ha_; have HL1 := ak_ hl_; have HBc := ak_ hb_; clear ha_ hl_ hb_; obtain ⟨A42, c42, e42⟩ := Kd.qbC HL1.out; dsimp only at e42; subst e42; refine qeN (a' := ?_) ?_ ?_; rotate_left
        · simp only [qjw, Act.put, List.setIfInBounds_toArray, List.set_cons_zero, List.set_cons_succ]
          rfl
        refine qe2 (i := 9) (N := some 43) #[true, true, true, true, true, true, true, true, true, true, true, true, false] rfl rfl (by kernel_rfl) (by decide) (fun K hK => ?_); refine Kd.qcP qa1 (w0 := wS) wS.heap.size (by rfl) (.tmp 37) (.tmp 42) 24 33 (.agg #[(.int .i64 0), (.int .i64 0)]) 16 rfl Tryz.underlying24 qc4 rfl (by decide) (by omega) v37 list [qab rules i] _ _ _ (fun _ => True) (fun _ => False) rfl rfl HA.out ?aR (fun _ _ h => h) (fun _ h => h.elim) (fun _ _ => trivial) HBc.out (qal HBc.out) ?aL ?_
        (case aR => exact (Kd.R_reads' HL1.out).2.2)
        (case aL => have h_ := HLB.out; simp only [List.length_singleton]; omega)
        intro v43 wB ho hb hg hat_; clear hg hat_ HA HL1 HBc; have HA := ak_ ho; have HBc := ak_ hb; clear ho hb; obtain ⟨A43, c43, e43⟩ := Kd.qbC HA.out; subst e43; refine hK.out _ _ ⟨(qay HBc.out HXc.out), (qay HBc.out HXr.out), (qay HBc.out HX0.out), (qay HBc.out HX1.out)⟩ (fun hHeld => ?_); clear hK K; refine qeN (a' := ?_) ?_ ?_; rotate_left
        · show Act.put _ (some 43) _ = _
          simp only [Act.put, List.setIfInBounds_toArray, List.set_cons_zero, List.set_cons_succ, qbL, qbQ]; rfl
        refine qpf (i := 12) (N := some 46) #[true, true, true, true, true, true, true, true, true, true, true, true, true] rfl rfl (by kernel_rfl) (by decide) (fun K hK => ?_); refine goesV_ #[.pointer (some ⟨g, 0, none⟩), .pointer (some ⟨gM, 0, none⟩), .pointer (some ⟨gP, 0, none⟩), .pointer (some ⟨gR, 0, none⟩), .pointer (some ⟨gC, 0, none⟩)] Tryz.func83 (by kernel_rfl) rfl #[.slice A43 (list ++ [qab rules i]).length c43, .int .i64 (wrap64 (i + 1))] (by rfl) rfl rfl rfl qeX ?_; have HSB := ak_ (ChSt.below (ChSt.below HST.out HBx.out) HBc.out); refine (IH.out k1 (by have := HK.out; omega) (list ++ [qab rules i]) (wrap64 (i + 1)) o o2 A43 c43 (.slice Aq o.length cq) _ ?s1 ?s2 ?s3 ?s4 A_.out).mono ?_
        (case s1 => exact HSB.out)
        (case s2 => exact (Kd.R_reads' HA.out).2.1)
        (case s3 => exact Kd.qby HA.out (Nat.le_trans HST.out.2.2.size HBx.out.size))
        (case s4 => exact Kd.qdo (Kd.qdB (Kd.qdB (Kd.qhZ HST.out.2.1) HBx.out) HBc.out) (fun k_ hk => ⟨hk.1, fun e_ => by have h1_ := Kd.qc1 HA.out k_ e_.symm; have h2_ := hk.2.2.1; have h3_ := HBx.out.size; omega⟩))
        rintro e wC ⟨rfl, v1, h1_, h2_, h3_⟩; refine ⟨_, rfl, ?_⟩; have HSTN := ak_ h1_; have HMVN := ak_ (qfU.trans (qfU.qeU (qfU.qeU HMV.out HBx.out) HBc.out) h2_ HRO.out); have HRON := ak_ (show ChRo W (Value.slice Ao out.length co) v1 from fun k_ hk => (h3_ k_ hk).elim (fun e_ => HRO.out k_ e_) (fun hb_ => .inr (Nat.le_trans (Nat.le_trans HMV.out.size (Nat.le_trans HBx.out.size HBc.out.size)) hb_))); clear h1_ h2_ h3_ HSB; refine hK.out _ _ ?_; clear hK K; refine qeN (a' := ?_) ?_ ?_; rotate_left
        · show Act.put _ (some 46) _ = _
          simp only [Act.put, List.setIfInBounds_toArray, List.set_cons_zero, List.set_cons_succ, qbL, qbQ]; rfl
        refine qeI (by kernel_rfl) ?_; go_wp2
        go_roundg k1
        case measure => have := HK.out; omega
        case rel => exact ⟨o2, wrap64 (i + 1), v1, (by first | rfl | (simp; done)), H', ⟨by have := HK.out; omega⟩, HSTN, HMVN, HRON⟩
def qbZ.f (k : Nat) (qax : ByteArray) (qaZ : Int) (a1 : Int) : Option (List (List qaj)) := (qaW.f k qax).bind fun rules => qbb.f k qax qaZ a1 rules [] 0 []
theorem qbZ.calls (k : Nat) (qax : ByteArray) (qaZ : Int) (a1 : Int) (r : List (List qaj)) (w : World) (h : qbZ.f k qax qaZ a1 = some r) :
    Calls Tryz.prog 55 #[.agg #[.string qax, .int .i64 qaZ], .int .i64 a1] w fun e w' => ∃ v0_ : Value, e = .returned (v0_) ∧ Kd.S (Kd.slice 33 qa1) 24 w' w.heap.size (fun _ => True) v0_ r ∧ Below w.heap.size w w' := by
  have hu := Tryz.underlying23; unfold qbZ.f at h; replace h := Option.bind_eq_some_iff.mp h; obtain ⟨rules, A1_, h⟩ := h; have A1 := ak_ A1_; have H := ak_ h; clear A1_ h; go_enter Tryz.func55, Tryz.ntmps55
  go_wp2_with (first | ((with_reducible refine qas (N := 2) rfl ?_); (try (refine qav (by rfl) ?_; dsimp only)); refine bx_ 2 (cs := #[.string qax, .int .i64 qaZ]) (t := 23) qa0 ?_; intro gP hg w1 hbox hb; have BP1 := ak_ hbox; have HB1 := ak_ hb; have GP := ak_ (show w.heap.size ≤ gP by rw [hg]; exact Nat.le_refl _); clear hbox hb hg) | ((with_reducible refine qas (N := 3) rfl ?_); (try (refine qav (by rfl) ?_; dsimp only)); refine bx_ 3 (cs := #[.int .i64 a1]) (t := 3) qa0 ?_; intro gM hg w2 hbox hb; have BM2 := ak_ hbox; have BP2 := ak_ (qam BP1.out hb); have HB2 := ak_ (qac HB1.out hb); have GM := ak_ (show gP < gM by rw [hg]; exact qdN BP1.out); have hcP0 := qbj BP2.out; clear BP1 HB1; clear hbox hb hg) | ((with_reducible refine qad (f := 44) rfl ?_); refine gl_ 10 Tryz.func44 #[.string qax] rfl qeX ?_; (with_reducible refine (qaW.calls k qax rules _ A1.out).mono ?_); rintro e w3 ⟨v10, rfl, ho, hb⟩; refine ⟨_, rfl, ?_⟩; obtain ⟨A10, c10, e10⟩ := Kd.qbC ho; subst e10; have HL3 := ak_ ho; have BP3 := ak_ (qam BP2.out hb); have BM3 := ak_ (qam BM2.out hb); have HB3 := ak_ (qac HB2.out hb); clear ho hb hcP0 BP2 BM2 HB2) | ((with_reducible refine qas (N := 5) rfl ?_); (try (refine qav (by rfl) ?_; dsimp only)); refine bx_ 5 (cs := #[.slice none 0 0]) (t := 24) qa0 ?_; intro gR hg w4 hbox hb; have BR4 := ak_ hbox; have BP4 := ak_ (qam BP3.out hb); have BM4 := ak_ (qam BM3.out hb); have HL4 := ak_ (Kd.qbn HL3.out hb); have HB4 := ak_ (qac HB3.out hb); have GR := ak_ (show gM < gR by rw [hg]; exact qdN BM3.out); have hcR : w4.cell? ⟨gR, 0, none⟩ = some (.slice none 0 0) := (qaO hbox 0).trans rfl; have hfR := qaU hbox 0; clear BP3 BM3 HL3 HB3; clear hbox hb hg) | ((with_reducible refine qas (N := 11) rfl ?_); obtain ⟨gL, hgL⟩ : ∃ g_, g_ = (w4.setCell ⟨gR, 0, none⟩ (.slice A10 rules.length c10)).heap.size := ⟨_, rfl⟩; refine Kd.qgM (Kd.tag (fun _ => 0) (Kd.slice 33 qa1)) _ 24 ?hg (N := 11) ?hd (xs := ([] : List (List qaj × Nat))) (inner := []) (ok := fun k_ => k_ = gL) (okp := fun _ => False) ?hr ?hp (fun _ hk => hk.elim) hgL.symm (Below.refl _ _) (Nat.le_refl _) (by simp) ?_; (case hd => rfl); (case hg => rfl); (case hr => exact qa0); (case hp => exact qcj.none _ _); intro v11 w5 ho hb hg_ hnew_; clear hg_; obtain ⟨b_, hb1_, -⟩ := hnew_; have hb2_ := ho.1 b_ hb1_; have GLT := ak_ (show gL < w5.heap.size by rw [← hb2_]; exact Kd.qkc ho b_ hb1_); have HTL := ak_ (show ∃ cells_, w5.heap[gL]? = some (.cells cells_ 24 (0, 0)) by rw [← hb2_]; exact Kd.qlb ho b_ hb1_); clear hb1_ hb2_; obtain ⟨A11, c11, e11⟩ := Kd.qbC ho; replace e11 : v11 = (.slice A11 0 c11) := e11; subst e11; have HS5 := ak_ (Kd.qby ho (show w.heap.size ≤ (w4.setCell ⟨gR, 0, none⟩ (.slice A10 rules.length c10)).heap.size by have := HB4.out.size; simpa [World.setCell] using this)); have BR5 := ak_ (qam (qaQ (cs' := #[(.slice A10 rules.length c10)]) BR4.out 0 (.slice A10 rules.length c10) rfl) hb); have BP5 := ak_ (qam (qa4 BP4.out (p := ⟨gR, 0, none⟩) (by have h1_ := GM.out; have h2_ := GR.out; show gP ≠ gR; omega) (.slice A10 rules.length c10)) hb); have BM5 := ak_ (qam (qa4 BM4.out (p := ⟨gR, 0, none⟩) (by have h2_ := GR.out; show gM ≠ gR; omega) (.slice A10 rules.length c10)) hb); have HL5 := ak_ (Kd.qbn (Kd.R_set HL4.out BR4.out (by decide) 0 (.slice A10 rules.length c10)) hb); have HB5 := ak_ (qac (qaw HB4.out (by have h0_ := GP.out; have h1_ := GM.out; have h2_ := GR.out; omega)) hb); have GL := ak_ (show gR < gL by rw [hgL]; have := qdN BR4.out; simpa [World.setCell] using this); clear hgL ho hb BR4 BP4 BM4 HL4 HB4 hcR hfR) | ((with_reducible refine qas (N := 6) rfl ?_); (try (refine qav (by rfl) ?_; dsimp only)); refine bx_ 6 (cs := #[.slice none 0 0]) (t := 25) qa0 ?_; intro gO hg w6 hbox hb; have BO6 := ak_ hbox; have BR6 := ak_ (qam BR5.out hb); have BP6 := ak_ (qam BP5.out hb); have BM6 := ak_ (qam BM5.out hb); have HL6 := ak_ (Kd.qbn HL5.out hb); have HS6 := ak_ (Kd.qbn HS5.out hb); have HTL6 := ak_ (HTL.out.elim (fun c_ hc_ => ⟨c_, qam hc_ hb⟩) : ∃ cells_, w6.heap[gL]? = some (.cells cells_ 24 (0, 0))); have HB6 := ak_ (qac HB5.out hb); have GO := ak_ (show gL < gO ∧ gR < gO by rw [hg]; exact ⟨GLT.out, qdN BR5.out⟩); have hcO : w6.cell? ⟨gO, 0, none⟩ = some (.slice none 0 0) := (qaO hbox 0).trans rfl; have hfO := qaU hbox 0; clear BR5 BP5 BM5 HL5 HS5 HB5 HTL GLT; clear hbox hb hg) | ((with_reducible refine qas (N := 7) rfl ?_); (try (refine qav (by rfl) ?_; dsimp only)); refine bx_ 7 (cs := #[.nilFunc]) (t := 90) qa0 ?_; intro gC hg w8 hbox hb; have BC8 := ak_ hbox; have BO8 := ak_ (qam (qaQ (cs' := #[(.slice A11 0 c11)]) BO6.out 0 (.slice A11 0 c11) rfl) hb); have BR8 := ak_ (qam (qa4 BR6.out (p := ⟨gO, 0, none⟩) (by have h1_ := GO.out.2; show gR ≠ gO; omega) (.slice A11 0 c11)) hb); have BP8 := ak_ (qam (qa4 BP6.out (p := ⟨gO, 0, none⟩) (by have h1_ := GO.out.2; have h2_ := GR.out; have h3_ := GM.out; show gP ≠ gO; omega) (.slice A11 0 c11)) hb); have BM8 := ak_ (qam (qa4 BM6.out (p := ⟨gO, 0, none⟩) (by have h1_ := GO.out.2; have h2_ := GR.out; show gM ≠ gO; omega) (.slice A11 0 c11)) hb); have HL8 := ak_ (Kd.qbn (Kd.R_set HL6.out BO6.out (by decide) 0 (.slice A11 0 c11)) hb); have HS8 := ak_ (Kd.qbn (Kd.qdt (p := ⟨gO, 0, none⟩) HS6.out (fun k_ hk => by have h1_ := GO.out.1; show k_ ≠ gO; omega) (.slice A11 0 c11)) hb); have HB8 := ak_ (qac (qaw HB6.out (by have h0_ := GP.out; have h1_ := GM.out; have h2_ := GR.out; have h3_ := GO.out.2; omega)) hb); have HTL8 := ak_ (HTL6.out.elim (fun c_ hc_ => ⟨c_, qam (qa4 hc_ (p := ⟨gO, 0, none⟩) (by have h1_ := GO.out.1; show gL ≠ gO; omega) _) hb⟩) : ∃ cells_, w8.heap[gL]? = some (.cells cells_ 24 (0, 0))); have GC := ak_ (show gO < gC by rw [hg]; have := qdN BO6.out; simpa [World.setCell] using this); have hcC : w8.cell? ⟨gC, 0, none⟩ = some .nilFunc := (qaO hbox 0).trans rfl; have hfC := qaU hbox 0; have hstF : ∀ (m : Mode) (W : World), Sem.run Tryz.prog (store ⟨gC, 0, none⟩ (.func (.func 83) #[] #[.pointer (some ⟨gO, 0, none⟩), .pointer (some ⟨gM, 0, none⟩), .pointer (some ⟨gP, 0, none⟩), .pointer (some ⟨gR, 0, none⟩), .pointer (some ⟨gC, 0, none⟩)]) m) W = stored Tryz.prog W ⟨gC, 0, none⟩ (.func (.func 83) #[] #[.pointer (some ⟨gO, 0, none⟩), .pointer (some ⟨gM, 0, none⟩), .pointer (some ⟨gP, 0, none⟩), .pointer (some ⟨gR, 0, none⟩), .pointer (some ⟨gC, 0, none⟩)]) m := fun m W => run_store _ W _ _ m rfl; clear BO6 BR6 BP6 BM6 HL6 HS6 HB6 HTL6 hcO hfO; clear hbox hb hg))
  have BC0 := ak_ (show (w8.setCell ⟨gC, 0, none⟩ (.func (.func 83) #[] #[.pointer (some ⟨gO, 0, none⟩), .pointer (some ⟨gM, 0, none⟩), .pointer (some ⟨gP, 0, none⟩), .pointer (some ⟨gR, 0, none⟩), .pointer (some ⟨gC, 0, none⟩)])).heap[gC]? = _ from qaQ (cs' := #[(.func (.func 83) #[] #[.pointer (some ⟨gO, 0, none⟩), .pointer (some ⟨gM, 0, none⟩), .pointer (some ⟨gP, 0, none⟩), .pointer (some ⟨gR, 0, none⟩), .pointer (some ⟨gC, 0, none⟩)])]) BC8.out 0 (.func (.func 83) #[] #[.pointer (some ⟨gO, 0, none⟩), .pointer (some ⟨gM, 0, none⟩), .pointer (some ⟨gP, 0, none⟩), .pointer (some ⟨gR, 0, none⟩), .pointer (some ⟨gC, 0, none⟩)]) rfl); have BO0 := ak_ (show (w8.setCell ⟨gC, 0, none⟩ (.func (.func 83) #[] #[.pointer (some ⟨gO, 0, none⟩), .pointer (some ⟨gM, 0, none⟩), .pointer (some ⟨gP, 0, none⟩), .pointer (some ⟨gR, 0, none⟩), .pointer (some ⟨gC, 0, none⟩)])).heap[gO]? = _ from qa4 BO8.out (p := ⟨gC, 0, none⟩) (by have h1_ := GC.out; show gO ≠ gC; omega) _); have BR0 := ak_ (show (w8.setCell ⟨gC, 0, none⟩ (.func (.func 83) #[] #[.pointer (some ⟨gO, 0, none⟩), .pointer (some ⟨gM, 0, none⟩), .pointer (some ⟨gP, 0, none⟩), .pointer (some ⟨gR, 0, none⟩), .pointer (some ⟨gC, 0, none⟩)])).heap[gR]? = _ from qa4 BR8.out (p := ⟨gC, 0, none⟩) (by have h1_ := GC.out; have h2_ := GO.out.2; show gR ≠ gC; omega) _); have BP0 := ak_ (show (w8.setCell ⟨gC, 0, none⟩ (.func (.func 83) #[] #[.pointer (some ⟨gO, 0, none⟩), .pointer (some ⟨gM, 0, none⟩), .pointer (some ⟨gP, 0, none⟩), .pointer (some ⟨gR, 0, none⟩), .pointer (some ⟨gC, 0, none⟩)])).heap[gP]? = _ from qa4 BP8.out (p := ⟨gC, 0, none⟩) (by have h1_ := GC.out; have h2_ := GO.out.2; have h3_ := GR.out; have h4_ := GM.out; show gP ≠ gC; omega) _); have BM0 := ak_ (show (w8.setCell ⟨gC, 0, none⟩ (.func (.func 83) #[] #[.pointer (some ⟨gO, 0, none⟩), .pointer (some ⟨gM, 0, none⟩), .pointer (some ⟨gP, 0, none⟩), .pointer (some ⟨gR, 0, none⟩), .pointer (some ⟨gC, 0, none⟩)])).heap[gM]? = _ from qa4 BM8.out (p := ⟨gC, 0, none⟩) (by have h1_ := GC.out; have h2_ := GO.out.2; have h3_ := GR.out; show gM ≠ gC; omega) _); have HL0 := ak_ (Kd.R_set HL8.out BC8.out (by decide) 0 (.func (.func 83) #[] #[.pointer (some ⟨gO, 0, none⟩), .pointer (some ⟨gM, 0, none⟩), .pointer (some ⟨gP, 0, none⟩), .pointer (some ⟨gR, 0, none⟩), .pointer (some ⟨gC, 0, none⟩)])); have HTL0 := ak_ (HTL8.out.elim (fun c_ hc_ => ⟨c_, qa4 hc_ (p := ⟨gC, 0, none⟩) (by have h1_ := GO.out.1; have h2_ := GC.out; show gL ≠ gC; omega) _⟩) : ∃ cells_, (w8.setCell ⟨gC, 0, none⟩ (.func (.func 83) #[] #[.pointer (some ⟨gO, 0, none⟩), .pointer (some ⟨gM, 0, none⟩), .pointer (some ⟨gP, 0, none⟩), .pointer (some ⟨gR, 0, none⟩), .pointer (some ⟨gC, 0, none⟩)])).heap[gL]? = some (.cells cells_ 24 (0, 0))); have HS0 := ak_ (Kd.qdt (p := ⟨gC, 0, none⟩) HS8.out (fun k_ hk => by have h1_ := GO.out.1; have h2_ := GC.out; show k_ ≠ gC; omega) (.func (.func 83) #[] #[.pointer (some ⟨gO, 0, none⟩), .pointer (some ⟨gM, 0, none⟩), .pointer (some ⟨gP, 0, none⟩), .pointer (some ⟨gR, 0, none⟩), .pointer (some ⟨gC, 0, none⟩)])); have HB0 := ak_ (qaw (g := gC) (j := 0) (v := (.func (.func 83) #[] #[.pointer (some ⟨gO, 0, none⟩), .pointer (some ⟨gM, 0, none⟩), .pointer (some ⟨gP, 0, none⟩), .pointer (some ⟨gR, 0, none⟩), .pointer (some ⟨gC, 0, none⟩)])) HB8.out (by have h0_ := GP.out; have h1_ := GM.out; have h2_ := GR.out; have h3_ := GO.out.2; have h4_ := GC.out; omega)); clear BC8 BO8 BR8 BP8 BM8 HL8 HTL8 HS8 HB8 hcC hfC hstF
  generalize w8.setCell ⟨gC, 0, none⟩ (.func (.func 83) #[] #[.pointer (some ⟨gO, 0, none⟩), .pointer (some ⟨gM, 0, none⟩), .pointer (some ⟨gP, 0, none⟩), .pointer (some ⟨gR, 0, none⟩), .pointer (some ⟨gC, 0, none⟩)]) = W0 at BC0 BO0 BR0 BP0 BM0 HL0 HTL0 HS0 HB0 ⊢
  have HF := ak_ (show ChFix W0 w.heap.size gL gO gM gP gR gC qax qaZ a1 A10 c10 rules from ⟨⟨qdN BO0.out, by have h1_ := GO.out.1; omega, HB0.out.size⟩, ⟨⟨by have h1_ := GO.out.2; have h2_ := GR.out; omega, by have h1_ := GL.out; have h2_ := GR.out; omega⟩, ⟨by have h1_ := GO.out.2; have h2_ := GR.out; have h3_ := GM.out; omega, by have h1_ := GL.out; have h2_ := GR.out; have h3_ := GM.out; omega⟩, ⟨by have h1_ := GO.out.2; omega, by have h1_ := GL.out; omega⟩, ⟨by have h1_ := GC.out; omega, by have h1_ := GC.out; have h2_ := GO.out.1; omega⟩⟩, BM0.out, BP0.out, BR0.out, BC0.out, (Kd.R_reads' HL0.out).2.1, fun W' hm => ch_rules BO0.out HTL0.out HL0.out hm⟩); have HSS := ak_ (show Kd.S (Kd.slice 33 qa1) 24 W0 w.heap.size (fun k_ => k_ = gL) (.slice A11 0 c11) [] from ⟨fun _ => 0, HS0.out⟩); refine qnI (args' := #[.slice none ([] : List qaj).length 0, .int .i64 0] ++ #[.pointer (some ⟨gO, 0, none⟩), .pointer (some ⟨gM, 0, none⟩), .pointer (some ⟨gP, 0, none⟩), .pointer (some ⟨gR, 0, none⟩), .pointer (some ⟨gC, 0, none⟩)]) rfl ?_; refine (qbb.own W0 w.heap.size gL gO gM gP gR gC qax qaZ a1 A10 c10 rules HF k [] 0 [] r none 0 (.slice A11 0 c11) W0 ⟨BO0.out, Kd.qdo HSS.out (fun _ h_ => .inl h_), qfU.refl _⟩ (Nat.le_refl _) (Kd.qkl _ _ _ _ _) (Kd.qdo HSS.out (fun _ h_ => ⟨.inl h_, by simp [Value.ownBlock]⟩)) H.out).mono ?_; rintro e wE ⟨rfl, v1, h1_, h2_, h3_⟩; have HE1 := ak_ h1_; clear h1_ h2_ h3_; obtain ⟨A1v, c1v, e1v⟩ := Kd.qcU HE1.out.2.1; subst e1v; have hcE : wE.cell? ⟨gO, 0, none⟩ = some (.slice A1v r.length c1v) := (qaO HE1.out.1 0).trans rfl; go_wp2
  go_ret
  exact ⟨_, rfl, Kd.qdo HE1.out.2.1 (fun _ _ => trivial), HE1.out.2.2.os.trans HB0.out.os, HE1.out.2.2.tape.trans HB0.out.tape, HE1.out.2.2.output.trans HB0.out.output, Nat.le_trans HB0.out.size HE1.out.2.2.size, fun k_ hk => (HE1.out.2.2.block k_ (Nat.lt_of_lt_of_le hk HB0.out.size) (by have h0_ := GP.out; have h1_ := GM.out; have h2_ := GR.out; have h3_ := GO.out.2; omega) (fun e_ => by injection e_ with e_; have h0_ := GP.out; have h1_ := GM.out; have h2_ := GR.out; have h3_ := GL.out; omega)).trans (HB0.out.block k_ hk)⟩
def qbJ.f (k : Nat) (qax : ByteArray) (qaZ : Int) : Option ((List (List (qaj))) × Bool) := (qa7.f qax qaZ).bind fun qaF => (if qaF = true then ((qbZ.f k qax qaZ 301).bind fun qaX => (if (qaX.length : Int) > 300 then (some (([] : List (List (qaj))), false)) else (some (qaX, true)))) else (some (([] : List (List (qaj))), false)))
theorem qbJ.calls (k : Nat) (qax : ByteArray) (qaZ : Int) (r1 : List (List (qaj))) (r2 : Bool) (w : World) (h : qbJ.f k qax qaZ = some (r1, r2)) :
  Calls Tryz.prog 35 #[.agg #[.string qax, .int .i64 qaZ]] w fun e w' => ∃ v0_ : Value, e = .returned (.tuple #[v0_, .bool r2]) ∧ Kd.S (Kd.slice 33 qa1) 24 w' w.heap.size (fun _ => True) v0_ r1 ∧ Below w.heap.size w w' := by
 have qiv := Tryz.underlying23; have HB := ak_ (Below.refl w.heap.size w); have H : ((qa7.f qax qaZ).bind fun qaF => (if qaF = true then ((qbZ.f k qax qaZ 301).bind fun qaX => (if (qaX.length : Int) > 300 then (some (([] : List (List (qaj))), false)) else (some (qaX, true)))) else (some (([] : List (List (qaj))), false)))) = some (r1, r2) := h; clear h; obtain ⟨qaF, A2, H⟩ := qbh H; (try dsimp only at H); by_cases c3 : qaF = true; rotate_left
 ·replace c3 := Bool.eq_false_iff.mpr c3; subst c3; rw [if_neg (show ¬ (false = true) by decide)] at H; simp only [Option.some.injEq, Prod.mk.injEq] at H; obtain ⟨rfl, rfl⟩ := H; go_enter Tryz.func35, Tryz.ntmps35
  go_wp2_with (first | ((with_reducible refine qas (N := 1) rfl ?_); refine bx_ 1 (cs := #[.string qax, .int .i64 qaZ]) (t := 23) qa0 ?_; intro qaR hg w18 hbox hb; have qai := ak_ (hbox); have qcB := ak_ (HB.ge hg); have qcg := ak_ (HB.ge hg); replace HB := HB.mw hb; clear hb hbox hg; obtain ⟨qnT, qnU, qob, qoc⟩ := qa2 qai.out) | ((with_reducible refine qad (f := 43) rfl ?_); refine gl_ 6 Tryz.func43 #[.agg #[.string qax, .int .i64 qaZ]] rfl qbK ?_; (with_reducible refine (qa7.calls qax qaZ false _ A2.out).mono ?_); rintro e w20 ⟨rfl, hb⟩; refine ⟨_, rfl, ?_⟩; replace qai := qai.mw hb; replace HB := ak_ (qac qaM hb); (try clear hb)))
  go_ret2
  exact ⟨_, qbx, k83_, qaM⟩
 subst c3; rw [if_pos rfl] at H; obtain ⟨qaX, A4, H⟩ := qbh H; (try dsimp only at H); by_cases c5 : (qaX.length : Int) > 300
 ·rw [if_pos c5] at H; have qi9 : decide (300 < (qaX.length : Int)) = true := decide_eq_true c5; have c5b1 : decide (300 < qaX.length) = true := decide_eq_true (by omega); clear c5; simp only [Option.some.injEq, Prod.mk.injEq] at H; obtain ⟨rfl, rfl⟩ := H; go_enter Tryz.func35, Tryz.ntmps35
  go_wp2_with (first | ((with_reducible refine qas (N := 1) rfl ?_); refine bx_ 1 (cs := #[.string qax, .int .i64 qaZ]) (t := 23) qa0 ?_; intro qaR hg w6 hbox hb; have qai := ak_ (hbox); have qcB := ak_ (HB.ge hg); have qcg := ak_ (HB.ge hg); replace HB := HB.mw hb; clear hb hbox hg; obtain ⟨hcz7_0, hcz7_1, hfz7_0, hfz7_1⟩ := qa2 qai.out) | ((with_reducible refine qad (f := 43) rfl ?_); refine gl_ 6 Tryz.func43 #[.agg #[.string qax, .int .i64 qaZ]] rfl qbK ?_; (with_reducible refine (qa7.calls qax qaZ true _ A2.out).mono ?_); rintro e w8 ⟨rfl, hb⟩; refine ⟨_, rfl, ?_⟩; replace qai := qai.mw hb; replace HB := ak_ (qac qaM hb); (try clear hb); obtain ⟨qlB, qlC, qm2, qlL⟩ := qa2 qai.out) | ((with_reducible refine qad (f := 55) rfl ?_); refine gl_ 9 Tryz.func55 #[.agg #[.string qax, .int .i64 qaZ], .int .i64 301] rfl qbK ?_; (with_reducible refine (qbZ.calls k qax qaZ 301 qaX _ A4.out).mono ?_); rintro e w10 ⟨v104, rfl, ho0, hb⟩; refine ⟨_, rfl, ?_⟩; have qfF := ak_ (Kd.qeV ho0 (qal qaM)); replace qai := qai.mw hb; replace HB := ak_ (qac qaM hb); (try clear hb ho0); obtain ⟨Ao11, co11, eo11⟩ := Kd.qcU qfF.out; subst eo11))
  go_ret2
  exact ⟨_, qbx, k83_, qaM⟩
 rw [if_neg c5] at H; have qi9 : decide (300 < (qaX.length : Int)) = false := decide_eq_false c5; have c5b1 : decide (300 < qaX.length) = false := decide_eq_false (by omega); clear c5; simp only [Option.some.injEq, Prod.mk.injEq] at H; obtain ⟨rfl, rfl⟩ := H; go_enter Tryz.func35, Tryz.ntmps35
 go_wp2_with (first | ((with_reducible refine qas (N := 1) rfl ?_); refine bx_ 1 (cs := #[.string qax, .int .i64 qaZ]) (t := 23) qa0 ?_; intro qaR hg w12 hbox hb; have qai := ak_ (hbox); have qcB := ak_ (HB.ge hg); have qcg := ak_ (HB.ge hg); replace HB := HB.mw hb; clear hb hbox hg; obtain ⟨qnR, qnS, qn9, qoa⟩ := qa2 qai.out) | ((with_reducible refine qad (f := 43) rfl ?_); refine gl_ 6 Tryz.func43 #[.agg #[.string qax, .int .i64 qaZ]] rfl qbK ?_; (with_reducible refine (qa7.calls qax qaZ true _ A2.out).mono ?_); rintro e w14 ⟨rfl, hb⟩; refine ⟨_, rfl, ?_⟩; replace qai := qai.mw hb; replace HB := ak_ (qac qaM hb); (try clear hb); obtain ⟨qiN, qiO, qiV, qiW⟩ := qa2 qai.out) | ((with_reducible refine qad (f := 55) rfl ?_); refine gl_ 9 Tryz.func55 #[.agg #[.string qax, .int .i64 qaZ], .int .i64 301] rfl qbK ?_; (with_reducible refine (qbZ.calls k qax qaZ 301 qaX _ A4.out).mono ?_); rintro e w16 ⟨v104, rfl, ho0, hb⟩; refine ⟨_, rfl, ?_⟩; have qfF := ak_ (Kd.qeV ho0 (qal qaM)); replace qai := qai.mw hb; replace HB := ak_ (qac qaM hb); (try clear hb ho0); obtain ⟨Ao17, co17, eo17⟩ := Kd.qcU qfF.out; subst eo17))
 go_ret2
 exact ⟨_, qbx, by (with_reducible repeat (first | apply Kd.qdk | apply Kd.qdl | apply Kd.qdy)); exact qfF.out, qaM⟩
theorem qjI (p : qaj → Bool) (g : Nat) (lb : Array Value) (eg : ∀ args w, (callFunc g args).run Tryz.prog w = .ok (.enter g args) w)
    (A : Option Addr) (c base : Nat) (ok : Nat → Prop) (xs : List qaj) (w : World) (hbase : base ≤ w.heap.size) (hR : Kd.R qa1 33 w base ok (.slice A xs.length c) xs)
    (hp : ∀ (W : World) (x : qaj), x ∈ xs → w.grownBy W (Value.slice A xs.length c).ownBlock → Calls Tryz.prog g (#[.agg #[.int .i64 x.f0, .int .i64 x.f1]] ++ lb) W fun e w' => e = .returned (.bool (p x)) ∧ Below W.heap.size W w') :
    Calls Tryz.prog 37 #[.slice A xs.length c, .func (.func g) #[] lb] w fun e w' => e = .returned (.slice A (xs.filter fun x => !p x).length c) ∧ Kd.R qa1 33 w' base ok (.slice A (xs.filter fun x => !p x).length c) (xs.filter fun x => !p x) ∧ w.grownBy w' (Value.slice A xs.length c).ownBlock := by
  have hIX := ql3 p g lb eg A c xs w (fun W x hx hb => (hp W x hx (qcc hb _)).mono fun e w' ⟨he, hb2⟩ => ⟨he, qac hb hb2⟩) (Kd.R_reads' hR).2.2; rw [qlq] at hIX
  rcases qqO p xs 0 with ⟨e1, e2⟩ | ⟨k0, hk0, e1, e2⟩
  ·rw [e1] at hIX; rw [e2]; have HX := ak_ hIX; have HR := ak_ hR; clear hIX hR hp e1 e2; go_enter Tryz.func37, Tryz.ntmps37
   go_wp2_with (go_at_call 70; refine HX.out.mono ?_; rintro e w1 ⟨rfl, hb⟩; have HB := ak_ hb; clear hb)
   go_ret
   exact ⟨rfl, Kd.qbn HR.out HB.out, qcc HB.out _⟩
  rw [e1] at hIX; obtain ⟨G, c', eG, hGb, hGl, -⟩ := Kd.R_form hR (by omega); obtain ⟨rfl, -, rfl⟩ := Value.slice.inj eG; clear eG; have HX := ak_ hIX; have HR0 := ak_ hR; have HP := ak_ hp; have HGB := ak_ hGb; have HK0 := ak_ hk0; have HE2 := ak_ e2; have hm : xs.length ≤ 9223372036854775807 := Kd.qrl (Kd.R_reads' hR).2.2; have hne : (((0 : Int) + (k0 : Int)) == -1) = false := beq_eq_false_iff_ne.2 (by omega); clear hIX hR hp hGb e1 e2 hGl; go_enter Tryz.func37, Tryz.ntmps37
  go_wp2_with (go_at_call 70; refine HX.out.mono ?_; rintro e w1 ⟨rfl, hb⟩; have HB := ak_ hb; clear hb)
  go_loopg [5, 6] xs.length (fun gg v5 v6 wx => ∃ (i j : Nat) (ys : List qaj), v5 = .int .i64 i ∧ v6 = .int .i64 j ∧ j ≤ xs.length ∧ xs.length - j ≤ gg ∧ qah (KI (fun x => !p x) xs ys i j) ∧ qah (Kd.R qa1 33 wx base ok (.slice (some ⟨G, 0, none⟩) xs.length c) ys) ∧ qah (w.grownBy wx (some G)))
  case atStart => exact ⟨k0, k0 + 1, xs, by go_num, by first | rfl | go_num, HK0.out, by omega, ⟨KI.start HK0.out HE2.out⟩, ⟨Kd.qbn HR0.out HB.out⟩, ⟨qcc HB.out _⟩⟩
  case round =>
    obtain ⟨i, j, ys, rfl, rfl, hj, hgg, HK, HR, HG⟩ := hrel; by_cases hlt : j < xs.length
    ·have hltz : (j : Int) < (xs.length : Int) := by omega
     obtain ⟨x, hxe⟩ : ∃ x, x = qab ys (j : Int) := ⟨_, rfl⟩
     have hjl : j < ys.length := by rw [HK.out.len]; exact hlt
     have hxj : xs[j]? = some x := by rw [← HK.out.read, hxe, List.getElem?_eq_getElem hjl]; simp [qab, List.getD, hjl]
     have HXJ := ak_ hxj; have HXM := ak_ (List.mem_of_getElem? hxj); obtain ⟨ce, hcl, hM, hcc, -⟩ := Kd.qsJ HR.out qr0 (j : Int) (by omega) hltz; obtain rfl := ql5 hM
     have hx0 : wr.cell? ⟨G, (j : Int).toNat * 2, none⟩ = some (.int .i64 x.f0) := by rw [hxe]; exact hcc 0 _ rfl
     have hx1 : wr.cell? ⟨G, (j : Int).toNat * 2 + 1, none⟩ = some (.int .i64 x.f1) := by rw [hxe]; exact hcc 1 _ rfl
     simp only [Int.toNat_natCast] at hx0 hx1; clear hcl hM hcc hxe hxj hjl
     have hil : (i : Int) < (xs.length : Int) := by have := HK.out.lt; omega
     have hij : i < xs.length := by omega
     cases hq : p x with
     | false =>
       have HPX := ak_ (show ∀ W, w.grownBy W (some G) → Calls Tryz.prog g (#[.agg #[.int .i64 x.f0, .int .i64 x.f1]] ++ lb) W fun e w' => e = .returned (.bool false) ∧ Below W.heap.size W w' from fun W hg' => by have h_ := HP.out W x HXM.out hg'; rw [hq] at h_; exact h_); have HQ := ak_ hq; clear hq
       go_wp2_with (first | ((with_reducible refine qas (N := 7) rfl ?_); refine qlf ?hg (N := 7) ?hd (cs := #[.int .i64 0, .int .i64 0]) (t := 33) ?hr ?_; (case hd => rfl); (case hg => rfl); (case hr => first | (go_simp; done) | (go_simp; rfl)); intro g7 hg w20 hbox hb; have BK := ak_ hbox; have HB0 := ak_ hb; have G7 := ak_ hg; have qr5 : w20.cell? ⟨g7, 0, none⟩ = some (.int .i64 0) := (qaO hbox 0).trans rfl; have qr6 : w20.cell? ⟨g7, 1, none⟩ = some (.int .i64 0) := (qaO hbox 1).trans rfl; have qr7 := qaU hbox 0; have qr8 := qaU hbox 1; clear hbox hb hg) | (go_at_fn g; refine (HPX.out _ (qej HG.out (qcc (qaw (qaw HB0.out (Nat.le_of_eq G7.out.symm)) (Nat.le_of_eq G7.out.symm)) (some G)) (.inl rfl))).mono ?_; rintro e w30 ⟨rfl, hb⟩; have hbk_ := qam (qaQ (qaQ BK.out 0 (.int .i64 x.f0) rfl) 1 (.int .i64 x.f1) rfl) hb; have hcb0 : w30.cell? ⟨g7, 0, none⟩ = some (.int .i64 x.f0) := (qaO hbk_ 0).trans rfl; have hcb1 : w30.cell? ⟨g7, 1, none⟩ = some (.int .i64 x.f1) := (qaO hbk_ 1).trans rfl; have HB3 := ak_ (qac (qaw (qaw HB0.out (Nat.le_of_eq G7.out.symm)) (Nat.le_of_eq G7.out.symm)) hb); have HR3 := ak_ (Kd.qbn HR.out HB3.out); obtain ⟨ci, hcl, hM, hcc, hfr⟩ := Kd.qsJ HR3.out qr0 (i : Int) (by omega) hil; obtain rfl := ql5 hM; have hy0 : w30.cell? ⟨G, (i : Int).toNat * 2, none⟩ = some (.int .i64 (ys.getD (i : Int).toNat qr0).f0) := hcc 0 _ rfl; have hy1 : w30.cell? ⟨G, (i : Int).toNat * 2 + 1, none⟩ = some (.int .i64 (ys.getD (i : Int).toNat qr0).f1) := hcc 1 _ rfl; have hz0 : w30.frozen? ⟨G, (i : Int).toNat * 2, none⟩ = false := hfr 0; have hz1 : w30.frozen? ⟨G, (i : Int).toNat * 2 + 1, none⟩ = false := hfr 1; have HSG := ak_ (Kd.R_seg HR3.out (i : Int) (by omega) hil (seg := [.int .i64 x.f0, .int .i64 x.f1]) (j := 0) hcl hcc (show 2 ≤ 2 from by decide) (x' := x) (qdp _ _ (fun _ => False) x) (fun _ hk => hk.elim)); simp only [Int.toNat_natCast] at hy0 hy1 hz0 hz1; clear hcl hM hcc hfr; clear hbk_ hb qr5 qr6 qr7 qr8))
       go_roundg (xs.length - (j + 1))
       case measure => omega
       case rel => exact ⟨i + 1, j + 1, ys.set i x, by go_num, by go_num, by omega, Nat.le_refl _, ⟨KI.keep HK.out hlt HXJ.out (by rw [HQ.out]; rfl)⟩, ⟨by have h_ := HSG.out.1; simpa [World.setCells, show (qa1).sz = 2 from rfl] using h_⟩, ⟨by have h_ := qej (qej HG.out (qcc HB3.out (some G)) (.inl rfl)) HSG.out.2 (.inl rfl); simpa [World.setCells, show (qa1).sz = 2 from rfl] using h_⟩⟩
     | true =>
       have HPX := ak_ (show ∀ W, w.grownBy W (some G) → Calls Tryz.prog g (#[.agg #[.int .i64 x.f0, .int .i64 x.f1]] ++ lb) W fun e w' => e = .returned (.bool true) ∧ Below W.heap.size W w' from fun W hg' => by have h_ := HP.out W x HXM.out hg'; rw [hq] at h_; exact h_); have HQ := ak_ hq; clear hq
       go_wp2_with (first | ((with_reducible refine qas (N := 7) rfl ?_); refine qlf ?hg (N := 7) ?hd (cs := #[.int .i64 0, .int .i64 0]) (t := 33) ?hr ?_; (case hd => rfl); (case hg => rfl); (case hr => first | (go_simp; done) | (go_simp; rfl)); intro g7 hg w20 hbox hb; have BK := ak_ hbox; have HB0 := ak_ hb; have G7 := ak_ hg; have qr5 : w20.cell? ⟨g7, 0, none⟩ = some (.int .i64 0) := (qaO hbox 0).trans rfl; have qr6 : w20.cell? ⟨g7, 1, none⟩ = some (.int .i64 0) := (qaO hbox 1).trans rfl; have qr7 := qaU hbox 0; have qr8 := qaU hbox 1; clear hbox hb hg) | (go_at_fn g; refine (HPX.out _ (qej HG.out (qcc (qaw (qaw HB0.out (Nat.le_of_eq G7.out.symm)) (Nat.le_of_eq G7.out.symm)) (some G)) (.inl rfl))).mono ?_; rintro e w30 ⟨rfl, hb⟩; have hbk_ := qam (qaQ (qaQ BK.out 0 (.int .i64 x.f0) rfl) 1 (.int .i64 x.f1) rfl) hb; have hcb0 : w30.cell? ⟨g7, 0, none⟩ = some (.int .i64 x.f0) := (qaO hbk_ 0).trans rfl; have hcb1 : w30.cell? ⟨g7, 1, none⟩ = some (.int .i64 x.f1) := (qaO hbk_ 1).trans rfl; have HB3 := ak_ (qac (qaw (qaw HB0.out (Nat.le_of_eq G7.out.symm)) (Nat.le_of_eq G7.out.symm)) hb); have HR3 := ak_ (Kd.qbn HR.out HB3.out); clear hbk_ hb qr5 qr6 qr7 qr8))
       go_roundg (xs.length - (j + 1))
       case measure => omega
       case rel => exact ⟨i, j + 1, ys, rfl, by go_num, by omega, Nat.le_refl _, ⟨KI.skip HK.out hlt HXJ.out (by rw [HQ.out]; rfl)⟩, HR3, ⟨qej HG.out (qcc HB3.out (some G)) (.inl rfl)⟩⟩
    obtain rfl : j = xs.length := by omega
    have hltz : ¬ (xs.length : Int) < (xs.length : Int) := by omega
    have hlen : ys.length = xs.length := HK.out.len
    have hil : (i : Int) < (xs.length : Int) := by have := HK.out.lt; omega
    have hnc : xs.length ≤ c := (Kd.R_reads' HR0.out).2.1; obtain ⟨i0_, hi0_, _, hsz_, _⟩ := info_parts qc4
    have hcut : ∀ W : World, (Instr.slice 24 (.slice (some ⟨G, 0, none⟩) xs.length c) (some (.int .i64 (i : Int))) none none).run Tryz.prog W = .ok (.slice (some ⟨G, i * 2, none⟩) (xs.length - i) (c - i)) W := by
      intro W; have h := qqK (P := Tryz.prog) 24 33 .i64 Tryz.underlying24 hi0_ 2 hsz_ (some ⟨G, 0, none⟩) xs.length c (i : Int) (by omega) (by omega) W; rw [h, if_neg (by omega)]; simp only [Int.toNat_natCast, Option.map_some, add_off, Nat.zero_add]
    have hcut2 : ∀ W : World, (Instr.slice 24 (.slice (some ⟨G, 0, none⟩) xs.length c) none (some (.int .i64 (i : Int))) none).run Tryz.prog W = .ok (.slice (some ⟨G, 0, none⟩) i c) W := by
      intro W; have h := cut_to (P := Tryz.prog) 24 33 .i64 Tryz.underlying24 hi0_ (some ⟨G, 0, none⟩) xs.length c (i : Int) (by omega) (by omega) hnc W; rw [h, Int.toNat_natCast]
    have hclr : ∀ ty, (Builtin.clear_ #[24] ty #[.slice (some ⟨G, i * 2, none⟩) (xs.length - i) (c - i)]).run Tryz.prog wr = .ok (.tuple #[]) (wr.setCells G (i * 2) (Builtin.zeroCells (Value.agg #[.int .i64 0, .int .i64 0]).cells (xs.length - i)).toList) := fun ty =>
      qp4 (n := xs.length - i) wr 24 33 ty (.agg #[.int .i64 0, .int .i64 0]) Tryz.underlying24 (zero_run qc4) (by
        intro u hu
        simp [Builtin.zeroCells, Value.cells] at hu
        obtain ⟨k_, hk_, rfl⟩ := hu
        rcases Nat.mod_two_eq_zero_or_one k_ with h_ | h_ <;> simp [h_] <;> rfl) G (i * 2) (c - i) (by omega) (by decide)
        (fun j_ hj_ => (qsI HR.out (i * 2 + j_) (by rw [hlen]; show i * 2 + j_ < xs.length * 2; have hj2_ : j_ < (xs.length - i) * 2 := hj_; omega)).1)
        (fun j_ hj_ => (qsI HR.out (i * 2 + j_) (by rw [hlen]; show i * 2 + j_ < xs.length * 2; have hj2_ : j_ < (xs.length - i) * 2 := hj_; omega)).2)
    obtain ⟨zs_, hzs_⟩ : ∃ z_, z_ = (Builtin.zeroCells (Value.agg #[.int .i64 0, .int .i64 0]).cells (xs.length - i)).toList := ⟨_, rfl⟩
    rw [← hzs_] at hclr; clear hzs_ hi0_ hsz_ hlen; go_wp2
    go_ret
    have hd := KI.done HK.out
    have hit : i ≤ ys.length := by have := HK.out.len; omega
    have hR2 := R_clear (Kd.R_take HR.out hit) (i * 2) zs_ (by rw [List.length_take, Nat.min_eq_left hit]; exact Nat.le_refl _); rw [hd.1] at hR2; rw [← hd.2]; exact ⟨rfl, hR2, qej HG.out (qmv wr G (i * 2) zs_) (.inl rfl)⟩
end
end Go.Proofs.YtbnmajedmajfoaaGreatDoor.P
