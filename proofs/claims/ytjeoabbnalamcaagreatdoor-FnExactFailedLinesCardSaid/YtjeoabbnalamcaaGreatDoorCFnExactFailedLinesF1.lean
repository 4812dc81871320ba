/- What functions of the program answer. Proved in this text: its theorems. Conditions: as each theorem states them. -/
import Derived.Test.YtjeoabbnalamcaaGreatDoorCFnExactFailedLinesP
import Derived.Test.YtjeoabbnalamcaaGreatDoorCFnExactFailedLinesF0
namespace Go.Proofs.YtjeoabbnalamcaaGreatDoor.P
open Go.RowKit Go.Proofs.YtjeoabbnalamcaaGreatDoorW.qa0 Go.Proofs.YtjeoabbnalamcaaGreatDoorW.PrintLast Go.Proofs.YtjeoabbnalamcaaGreatDoorW.PrintMore
set_option linter.unusedVariables false
set_option linter.unusedSimpArgs false
set_option maxHeartbeats 8000000
set_option maxRecDepth 100000
section
attribute [local go_sem] qg2 qg4 qij qik qgg qgh qg3 qg5
def qbB.j0 : Nat → Int → Bool → Int → List Int → Option (Int × Bool)
 | 0, _, _, _, _ => none
 | k + 1, x1, x20, qto, qgA => if x20 = true then (some (0, false)) else (if (qgA.length : Int) = 0 then (none) else (if 0 ≤ (Int.tmod x1 (qgA.length : Int)) then (if (Int.tmod x1 (qgA.length : Int)) < (qgA.length : Int) then (if (wrap64 ((wrap64 ((wrap64 (Int.tdiv x1 (qgA.length : Int))) * qto)) + (rd qgA (Int.tmod x1 (qgA.length : Int))))) > 1000000000000000 then (some (0, false)) else (some (wrap64 ((wrap64 ((wrap64 (Int.tdiv x1 (qgA.length : Int))) * qto)) + (rd qgA (Int.tmod x1 (qgA.length : Int)))), true))) else (none)) else (none)))
def qbB.f (k : Nat) (l0 : List (qac)) (a1 : Int) : Option (Int × Bool) := (qbQ.f k l0).bind fun qcR => (if qcR.2.2 = true then ((qeX.f a1).bind fun t107 => (qbB.j0 k a1 (!t107) qcR.1 qcR.2.1)) else (qbB.j0 k a1 true qcR.1 qcR.2.1))
theorem qbB.calls (k : Nat) (A0 : Option Addr) (c0 : Nat) (l0 : List (qac)) (a1 : Int) (r1 : Int) (r2 : Bool) (w : World) (hr0 : Kd.C qaL w A0 l0.length l0) (hc0 : l0.length ≤ c0) (h : qbB.f k l0 a1 = some (r1, r2)) :
  Calls Tryz.prog 126 #[.slice A0 l0.length c0, .int .i64 a1] w fun e w' => e = .returned (.tuple #[.int .i64 r1, .bool r2]) ∧ Below w.heap.size w w' := by
 have hu169 := Tryz.underlying169; have HR0 := ak_ hr0; have HC0 := ak_ hc0; clear hr0 hc0; have HB := br_ w; have H : ((qbQ.f k l0).bind fun qcR => (if qcR.2.2 = true then ((qeX.f a1).bind fun t107 => (qbB.j0 k a1 (!t107) qcR.1 qcR.2.1)) else (qbB.j0 k a1 true qcR.1 qcR.2.1))) = some (r1, r2) := h; clear h; obtain ⟨⟨qat, qaR, t105⟩, A3, H⟩ := qay H; (try dsimp only at H); have HC4 := ak_ H; clear H; go_enter Tryz.func126, Tryz.ntmps126
 go_upto_region 2 with (first | (go_at_call 187; (with_reducible refine (qbQ.calls k _ _ l0 qat qaR t105 _ ?qaA ?qaB A3.out).mono ?_); (case qaA => exact qfN); (case qaB => exact qb5); rintro e w5 ⟨qhm, rfl, ho0, hb⟩; have qb1 := ak_ (Kd.qax ho0 (qab qan)); replace HB := HB.mw hb; (try clear hb ho0)) | ((with_reducible refine qal (N := 6) rfl ?_); refine bx_ 6 rfl (cs := #[.int .i64 0, .slice none 0 0]) (t := 169) qbe ?_; intro qeW hg w6 hbox hb; replace qb1 := qb1.mw hb; have qek := ak_ (hbox); have qn4 := ak_ (HB.ge hg); have qmT := ak_ (HB.ge hg); replace HB := HB.mw hb; clear hb hbox hg; obtain ⟨qki, qkj, qko, qkp⟩ := qbG qek.out; obtain ⟨Ao8, co8, eo8⟩ := Kd.qaI qb1.out; subst eo8))
 repeat (go_quiet (first | (go_at_call 187; (with_reducible refine (qbQ.calls k _ _ l0 qat qaR t105 _ ?qaA ?qaB A3.out).mono ?_); (case qaA => exact qfN); (case qaB => exact qb5); rintro e w5 ⟨qhm, rfl, ho0, hb⟩; have qb1 := ak_ (Kd.qax ho0 (qab qan)); replace HB := HB.mw hb; (try clear hb ho0)) | ((with_reducible refine qal (N := 6) rfl ?_); refine bx_ 6 rfl (cs := #[.int .i64 0, .slice none 0 0]) (t := 169) qbe ?_; intro qeW hg w6 hbox hb; replace qb1 := qb1.mw hb; have qek := ak_ (hbox); have qn4 := ak_ (HB.ge hg); have qmT := ak_ (HB.ge hg); replace HB := HB.mw hb; clear hb hbox hg; obtain ⟨qki, qkj, qko, qkp⟩ := qbG qek.out; obtain ⟨Ao8, co8, eo8⟩ := Kd.qaI qb1.out; subst eo8)); go_upto_region 2 with (first | (go_at_call 187; (with_reducible refine (qbQ.calls k _ _ l0 qat qaR t105 _ ?qaA ?qaB A3.out).mono ?_); (case qaA => exact qfN); (case qaB => exact qb5); rintro e w5 ⟨qhm, rfl, ho0, hb⟩; have qb1 := ak_ (Kd.qax ho0 (qab qan)); replace HB := HB.mw hb; (try clear hb ho0)) | ((with_reducible refine qal (N := 6) rfl ?_); refine bx_ 6 rfl (cs := #[.int .i64 0, .slice none 0 0]) (t := 169) qbe ?_; intro qeW hg w6 hbox hb; replace qb1 := qb1.mw hb; have qek := ak_ (hbox); have qn4 := ak_ (HB.ge hg); have qmT := ak_ (HB.ge hg); replace HB := HB.mw hb; clear hb hbox hg; obtain ⟨qki, qkj, qko, qkp⟩ := qbG qek.out; obtain ⟨Ao8, co8, eo8⟩ := Kd.qaI qb1.out; subst eo8)))
 (try simp only [Act.put, List.setIfInBounds_toArray, List.set_cons_zero, List.set_cons_succ])
 go_cut [20] (fun v20 wc => ∃ (kq : Nat) (x20_3 : Bool), v20 = .bool x20_3 ∧ qag (qbB.j0 kq a1 x20_3 qat qaR = some (r1, r2)) ∧ qag (kq ≤ k) ∧ qag (Kd.R (Kd.int .i64) 3 wc w.heap.size (fun _ => True) (.slice Ao8 qaR.length co8) qaR) ∧ qag (wc.heap[qeW]? = some (.cells #[.int .i64 qat, (.slice Ao8 qaR.length co8)] 169 (0, 0))) ∧ qag (Below w.heap.size w wc))
 case first =>
  have H := HC4.out; clear HC4; by_cases c9 : t105 = true
  ·subst c9; rw [if_pos rfl] at H; obtain ⟨t107, A10, H⟩ := qay H; (try dsimp only at H); have H' := ak_ H; clear H
   go_wp2_with (first | (go_at_call 188; (with_reducible refine (qeX.calls a1 t107 _ A10.out).mono ?_); rintro e w' ⟨rfl, ⟨nd, rfl⟩⟩; (try first | exact ⟨rfl, _, World.drewN_drewN _ _ _⟩ | exact ⟨rfl, _, Eq.trans (World.drewN_drewN _ _ _) (congrArg (World.drewN _) (Nat.add_assoc _ _ _))⟩)))
   repeat (go_quiet (first | (go_at_call 188; (with_reducible refine (qeX.calls a1 t107 _ A10.out).mono ?_); rintro e w' ⟨rfl, ⟨nd, rfl⟩⟩; (try first | exact ⟨rfl, _, World.drewN_drewN _ _ _⟩ | exact ⟨rfl, _, Eq.trans (World.drewN_drewN _ _ _) (congrArg (World.drewN _) (Nat.add_assoc _ _ _))⟩))); try go_wp2_with (first | (go_at_call 188; (with_reducible refine (qeX.calls a1 t107 _ A10.out).mono ?_); rintro e w' ⟨rfl, ⟨nd, rfl⟩⟩; (try first | exact ⟨rfl, _, World.drewN_drewN _ _ _⟩ | exact ⟨rfl, _, Eq.trans (World.drewN_drewN _ _ _) (congrArg (World.drewN _) (Nat.add_assoc _ _ _))⟩))))
   go_meet
   case rel => exact ⟨_, (!t107), qav, H', ⟨qih⟩, ⟨k18_⟩, ⟨k6_⟩, ⟨qoZ⟩⟩
  replace c9 := Bool.eq_false_iff.mpr c9; subst c9; rw [if_neg ff_] at H; have H' := ak_ H; clear H; go_wp2
  repeat (go_quiet (fail); try go_wp2)
  go_meet
  case rel => exact ⟨_, (true), qav, H', ⟨qih⟩, ⟨k18_⟩, ⟨k6_⟩, ⟨qoZ⟩⟩
 case rest =>
  clear HC4
  skip
  obtain ⟨kq, x20_3, rfl, HA, HJ3, qmV, qek, HB⟩ := hcut
  cases kq with
  | zero => exact absurd HA.out (by simp [qbB.j0])
  | succ kj3 =>
   have H := HA.out; clear HA; simp only [qbB.j0] at H; by_cases c11 : x20_3 = true
   ·subst c11; rw [if_pos rfl] at H; obtain ⟨rfl, rfl⟩ := qdF H; go_wp2
    repeat (go_quiet (fail); try go_wp2)
    go_ret2
    exact ⟨qcf, qoZ⟩
   replace c11 := Bool.eq_false_iff.mpr c11; subst c11; rw [if_neg ff_] at H; by_cases c12 : (qaR.length : Int) = 0
   ·rw [if_pos c12] at H; exact absurd H (by simp)
   rw [if_neg c12] at H; have qhg : ((qaR.length : Int) == 0) = false := beq_eq_false_iff_ne.mpr c12; have c12b1 : ((qaR.length : Int) != 0) = true := bne_iff_ne.mpr c12
   have c12b2 : ¬ (qaR = []) := fun h_ => c12 (by rw [h_]; rfl)
   obtain ⟨qqL, hji13⟩ : ∃ j_ : Int, (Int.tmod a1 (qaR.length : Int)) = j_ := ⟨_, rfl⟩
   replace H : (if 0 ≤ (qqL) then (if (qqL) < (qaR.length : Int) then (if (wrap64 ((wrap64 ((wrap64 (Int.tdiv a1 (qaR.length : Int))) * qat)) + (rd qaR (qqL)))) > 1000000000000000 then (some (0, false)) else (some (wrap64 ((wrap64 ((wrap64 (Int.tdiv a1 (qaR.length : Int))) * qat)) + (rd qaR (qqL))), true))) else (none)) else (none)) = some (r1, r2) := by first | (rw [hji13] at H; exact H) | (simp only [hji13] at H ⊢; exact H)
   obtain ⟨c14, H⟩ := qck H; have qj5 := decide_eq_true c14; clear c14; obtain ⟨c15, H⟩ := qck H; have qm2 := decide_eq_true c15; clear c15; by_cases c16 : (wrap64 ((wrap64 ((wrap64 (Int.tdiv a1 (qaR.length : Int))) * qat)) + (rd qaR (qqL)))) > 1000000000000000
   ·rw [if_pos c16] at H; have c16b0 : decide (1000000000000000 < (wrap64 ((wrap64 ((wrap64 (Int.tdiv a1 (qaR.length : Int))) * qat)) + (rd qaR (qqL))))) = true := decide_eq_true c16; clear c16; obtain ⟨rfl, rfl⟩ := qdF H; obtain ⟨hcz17_0, hcz17_1, hfz17_0, hfz17_1⟩ := qbG qek.out; have qrc : 0 ≤ ((qqL) : Int) := of_decide_eq_true qaO; have qrd : (qqL) < (qaR.length : Int) := of_decide_eq_true qaO; obtain ⟨qrt, e108, qkx⟩ := Kd.qdO (Kd.qao qmV.out).2.2 (qqL) qrc qrd
    cases e108
    replace qrc := eq_true qrc; replace qrd := eq_true qrd; go_wp2
    repeat (go_quiet (fail); try go_wp2)
    go_ret2
    exact ⟨by first | rfl | (simp [qd0, qd1] <;> rfl) | (simp only [← hji13]; first | rfl | (simp [qd0, qd1] <;> rfl)) | (simp [*, qd0, qd1] <;> rfl), qoZ⟩
   rw [if_neg c16] at H; have c16b0 : decide (1000000000000000 < (wrap64 ((wrap64 ((wrap64 (Int.tdiv a1 (qaR.length : Int))) * qat)) + (rd qaR (qqL))))) = false := decide_eq_false c16; clear c16; obtain ⟨rfl, rfl⟩ := qdF H; obtain ⟨hcz18_0, hcz18_1, hfz18_0, hfz18_1⟩ := qbG qek.out; have qrc : 0 ≤ ((qqL) : Int) := of_decide_eq_true qaO; have qrd : (qqL) < (qaR.length : Int) := of_decide_eq_true qaO; obtain ⟨qrt, e108, qkx⟩ := Kd.qdO (Kd.qao qmV.out).2.2 (qqL) qrc qrd
   cases e108
   replace qrc := eq_true qrc; replace qrd := eq_true qrd; go_wp2
   repeat (go_quiet (fail); try go_wp2)
   go_ret2
   exact ⟨by first | rfl | (simp [qd0, qd1] <;> rfl) | (simp only [← hji13]; first | rfl | (simp [qd0, qd1] <;> rfl)) | (simp [*, qd0, qd1] <;> rfl), qoZ⟩
def qdz.f (a0 : Int) : Option (Bool) := if a0 ≥ 1 then (some (decide (a0 ≤ 1000000000))) else (some false)
theorem qdz.calls (a0 : Int) (r : Bool) (w : World) (h : qdz.f a0 = some r) :
  Calls Tryz.prog 189 #[.int .i64 a0] w fun e w' => e = .returned (.bool r) ∧ qcN w w' := by
 have H : (if a0 ≥ 1 then (some (decide (a0 ≤ 1000000000))) else (some false)) = some r := h; clear h; by_cases c2 : a0 ≥ 1
 ·rw [if_pos c2] at H; have qfr : decide (1 ≤ a0) = true := decide_eq_true c2; clear c2; obtain rfl := sj_ H; go_enter Tryz.func189, Tryz.ntmps189; go_wp2
  go_ret
  exact ⟨qav, qcO⟩
 rw [if_neg c2] at H; have qfr : decide (1 ≤ a0) = false := decide_eq_false c2; clear c2; obtain rfl := sj_ H; go_enter Tryz.func189, Tryz.ntmps189; go_wp2
 go_ret
 exact ⟨qav, qcO⟩
mutual
def qaY.l0 : Nat → Int → List (List Int) → Option ((List (List Int)))
 | 0, _, _ => none
 | k + 1, x0, x3 => if x0 > 1 then ((qbf.f k x0).bind fun qcg => (qaY.l1 k x0 x3 qcg 0)) else (some x3)
def qaY.l1 : Nat → Int → List (List Int) → Int → Int → Option ((List (List Int)))
 | 0, _, _, _, _ => none
 | k + 1, x0, x3, x4, x5 => if x4 = 0 then (none) else (if (Int.tmod x0 x4) = 0 then (qaY.l1 k (wrap64 (Int.tdiv x0 x4)) x3 x4 (wrap64 (x5 + 1))) else (if x3.length < 5864062014805 then (qaY.l0 k x0 (x3 ++ [(([x4, x5] : List Int))])) else (none)))
end
def qaY.f (k : Nat) (a0 : Int) : Option ((List (List Int))) := qaY.l0 k a0 (([] : List (List Int)))
theorem qaY.calls (k : Nat) (a0 : Int) (r : List (List Int)) (w : World) (h : qaY.f k a0 = some r) :
  Calls Tryz.prog 190 #[.int .i64 a0] w fun e w' => ∃ v0_ : Value, e = .returned (v0_) ∧ Kd.S (Kd.slice 3 (Kd.int .i64)) 48 w' w.heap.size (fun _ => True) v0_ r ∧ Below w.heap.size w w' := by
 have HB := br_ w; have H : (qaY.l0 k a0 (([] : List (List Int)))) = some r := h; clear h
 obtain ⟨qff, hy_⟩ : ∃ y_ : List (List Int), y_ = (([] : List (List Int))) := ⟨_, rfl⟩
 replace H : (qaY.l0 k a0 qff) = some r := qe1; have qei := ak_ hy_; clear hy_; have H' := ak_ H; clear H; go_enter Tryz.func190, Tryz.ntmps190
 go_wp2_with (first | ((with_reducible refine qal (N := 6) rfl ?_); refine Kd.S_lit (Kd.slice 3 (Kd.int .i64)) _ 48 ?hg (N := 6) ?hd (xs := ([] : List (List Int))) (inner := []) (ok := fun _ => True) (okp := fun _ => True) ?hr ?hp (fun _ hk => hk) trivial (Below.refl _ _) (Nat.le_refl _) (by simp) ?_; (case hd => rfl); (case hg => rfl); (case hr => exact qbe); (case hp => exact (qef.none _ _)); intro qit w2 ho3 hb hg_ hnew_; clear hg_ hnew_; (first | rw [← qei.out] at ho3 | (simp only [Int.reduceToNat] at ho3; rw [← qei.out] at ho3)); have qc6 := ak_ (Kd.qdV ho3 (qab qan)); replace HB := HB.mw hb; clear hb ho3))
 go_loopg [0, 3] k (fun kq v0 v3 w' => ∃ (qgD : Int) (qbx : List (List Int)), v0 = .int .i64 qgD ∧ qag (qaY.l0 kq qgD qbx = some r) ∧ qag (kq ≤ k) ∧ qag (Kd.S (Kd.slice 3 (Kd.int .i64)) 48 w' w.heap.size (fun _ => True) v3 qbx) ∧ qag (Below w.heap.size w w'))
 case atStart => exact ⟨(a0), (qff), qav, H', ⟨Nat.le_refl _⟩, ⟨by apply_rules only [qc6.out, Kd.qdi, Kd.qdj, Kd.qeb]⟩, ⟨qan⟩⟩
 case round =>
  clear H'; obtain ⟨qgD, qbx, rfl, HA, HK1, qdq, HB⟩ := hrel
  cases gk with
  | zero => exact absurd HA.out (by simp [qaY.l0])
  | succ k1 =>
   have H := HA.out; clear HA; simp only [qaY.l0] at H; by_cases c4 : qgD > 1; rotate_left
   ·rw [if_neg c4] at H; have qfx : decide (1 < qgD) = false := decide_eq_false c4; clear c4; obtain rfl := sj_ H; go_wp2
    go_ret
    exact ⟨_, qcf, by (with_reducible repeat (first | apply Kd.qdi | apply Kd.qdj | apply Kd.qeb)); exact qdq.out, qan⟩
   rw [if_pos c4] at H; have qfx : decide (1 < qgD) = true := decide_eq_true c4; clear c4; obtain ⟨qcg, A5, H⟩ := qay H; (try dsimp only at H); have H' := ak_ H; clear H
   go_wp2_with (first | (refine gl_ 10 Tryz.func225 #[.int .i64 qgD] rfl qbK ?_; (with_reducible refine (qbf.calls k1 qgD qcg _ A5.out).mono ?_); rintro e w' ⟨rfl, ⟨nd, rfl⟩⟩; refine ⟨_, rfl, ?_⟩))
   go_loopg [0, 5] k1 (fun kq v0 v5 w' => ∃ (qjF : Int) (qfS : Int), v0 = .int .i64 qjF ∧ v5 = .int .i64 qfS ∧ qag (qaY.l1 kq qjF qbx qcg qfS = some r) ∧ qag (kq ≤ k1) ∧ qag (Kd.S (Kd.slice 3 (Kd.int .i64)) 48 w' w.heap.size (fun _ => True) u3 qbx) ∧ qag (Below w.heap.size w w'))
   case atStart => exact ⟨(qgD), (0), qav, qav, H', ⟨Nat.le_refl _⟩, ⟨by apply_rules only [qdq.out, Kd.qdi, Kd.qdj, Kd.qeb]⟩, ⟨qan⟩⟩
   case round =>
    clear H'
    skip
    obtain ⟨qjF, qfS, rfl, rfl, HA, HK2, qdq, HB⟩ := hrel
    cases gk with
    | zero => exact absurd HA.out (by simp [qaY.l1])
    | succ k2 =>
     have H := HA.out; clear HA; simp only [qaY.l1] at H; by_cases c6 : qcg = 0
     ·rw [if_pos c6] at H; exact absurd H (by simp)
     rw [if_neg c6] at H; have qgk : (qcg == 0) = false := beq_eq_false_iff_ne.mpr c6; have qoq : (qcg != 0) = true := bne_iff_ne.mpr c6; by_cases c7 : (Int.tmod qjF qcg) = 0
     ·rw [if_pos c7] at H; have qgU : ((Int.tmod qjF qcg) == 0) = true := beq_iff_eq.mpr c7; have qmL : ((Int.tmod qjF qcg) != 0) = false := bne_eq_false_iff_eq.mpr c7; clear c7; have H' := ak_ H; clear H; go_wp2
      go_roundg k2
      case measure => have := HK1.out; have := HK2.out; omega
      case rel => exact ⟨(wrap64 (Int.tdiv qjF qcg)), (wrap64 (qfS + 1)), qav, qav, H', ⟨qmn⟩, ⟨by apply_rules only [qdq.out, Kd.qdi, Kd.qdj, Kd.qeb]⟩, ⟨qan⟩⟩
     rw [if_neg c7] at H; have qgU : ((Int.tmod qjF qcg) == 0) = false := beq_eq_false_iff_ne.mpr c7; have qmL : ((Int.tmod qjF qcg) != 0) = true := bne_iff_ne.mpr c7
     obtain ⟨qhY, hy_⟩ : ∃ y_ : List Int, y_ = (([qcg, qfS] : List Int)) := ⟨_, rfl⟩
     replace H : (if qbx.length < 5864062014805 then (qaY.l0 k2 qjF (qbx ++ [qhY])) else (none)) = some r := qe1; have qhp := ak_ hy_; clear hy_; obtain ⟨c8, H⟩ := qck H; have LMc8 := ak_ c8; clear c8
     obtain ⟨qiO, hy_⟩ : ∃ y_ : List (List Int), y_ = (qbx ++ [qhY]) := ⟨_, rfl⟩
     replace H : (qaY.l0 k2 qjF qiO) = some r := qe1; have qoe := ak_ hy_; clear hy_; have H' := ak_ H; clear H
     go_wp2_with (first | ((with_reducible refine qal (N := 23) rfl ?_); refine Kd.qhq (Kd.int .i64) _ 3 ?hg (N := 23) ?hd (xs := ([qcg, qfS] : List Int)) (inner := [.int .i64 qcg, .int .i64 qfS]) (ok := fun _ => True) (okp := fun _ => True) ?hr ?hp (fun _ hk => hk) trivial (Below.refl _ _) (Nat.le_refl _) (by simp) ?_; (case hd => rfl); (case hg => rfl); (case hr => exact qbe); (case hp => exact (qef.one (show Kd.M (Kd.int .i64) _ _ _ qcg [.int .i64 qcg] from rfl) (qef.one (show Kd.M (Kd.int .i64) _ _ _ qfS [.int .i64 qfS] from rfl) (qef.none _ _)))); intro qq6 w9 qly hb hg_ hnew_; clear hg_ hnew_; (first | rw [← qhp.out] at qly | (simp only [Int.reduceToNat] at qly; rw [← qhp.out] at qly)); replace qdq := ak_ (Kd.qpz (by apply_rules only [qdq.out, Kd.qdi, Kd.qdj, Kd.qeb]) (Kd.qfj qly) hb); have qe2 := ak_ (Kd.qax qly (qab qan)); replace HB := HB.mw hb; clear hb qly; obtain ⟨qkZ, qk7, qq8⟩ := Kd.qaI qe2.out; subst qq8) | ((with_reducible refine qa2 (b := .append) (xs := #[.tmp 20, .tmp 24]) rfl ?_); at_builtin; refine Kd.qjJ (Kd.slice 3 (Kd.int .i64)) (w0 := w) w.heap.size rfl (.tmp 20) (.tmp 24) 129 48 (.slice none 0 0) 24 rfl Tryz.underlying129 info48 rfl (by decide) (by omega) u3 qbx qhY [.slice qkZ qhY.length qk7] (fun _ => True) (fun k_ => some k_ = (.slice qkZ qhY.length qk7 : Value).ownBlock) rfl rfl ?aP (fun k_ hk_ => ((Kd.qa9 (ok' := fun k_ => ((fun _ => True)) k_ ∧ some k_ ≠ (u3 : Value).ownBlock) (Kd.qjH (qe2.out) (Kd.qj3 qdq.out) (by decide)) (fun k_ hk => ⟨trivial, hk.2⟩))).1 k_ hk_.symm) ?aF ?aO ?aB ?aS ?aL ?_; (case aP => exact Kd.M_row (Kd.qa9 (Kd.qh8 rfl (Kd.qa9 (ok' := fun k_ => ((fun _ => True)) k_ ∧ some k_ ≠ (u3 : Value).ownBlock) (Kd.qjH (qe2.out) (Kd.qj3 qdq.out) (by decide)) (fun k_ hk => ⟨trivial, hk.2⟩))) (fun _ h_ => h_))); (case aB => exact qan); (case aF => exact (fun _ _ => trivial)); (case aO => exact (by (with_reducible repeat (first | apply Kd.qdi | apply Kd.qdj | apply Kd.qeb)); exact Kd.qgo qdq.out (fun k_ hk => ⟨trivial, fun e_ => hk.2 e_⟩))); (case aS => exact (qab qan)); (case aL => have := LMc8.out; omega); intro v109 w11 ho hb hg hat; rw [← qoe.out] at ho; replace HB := ak_ (hb); have qmU := ak_ (ho); clear qdq qe2; clear ho hb hg hat))
     go_roundg k2
     case measure => have := HK1.out; have := HK2.out; omega
     case rel => exact ⟨(qjF), (qiO), qav, H', ⟨qmn⟩, ⟨by apply_rules only [qmU.out, Kd.qdi, Kd.qdj, Kd.qeb]⟩, ⟨qan⟩⟩
def qcJ.f (k : Nat) (a0 : Int) : Option ((List (List Int)) × Bool) := (qdz.f a0).bind fun qat => (if qat = true then ((qaY.f k a0).bind fun qaR => (some (qaR, true))) else (some (([] : List (List Int)), false)))
theorem qcJ.calls (k : Nat) (a0 : Int) (r1 : List (List Int)) (r2 : Bool) (w : World) (h : qcJ.f k a0 = some (r1, r2)) :
  Calls Tryz.prog 127 #[.int .i64 a0] w fun e w' => ∃ v0_ : Value, e = .returned (.tuple #[v0_, .bool r2]) ∧ Kd.S (Kd.slice 3 (Kd.int .i64)) 48 w' w.heap.size (fun _ => True) v0_ r1 ∧ Below w.heap.size w w' := by
 have HB := br_ w; have H : ((qdz.f a0).bind fun qat => (if qat = true then ((qaY.f k a0).bind fun qaR => (some (qaR, true))) else (some (([] : List (List Int)), false)))) = some (r1, r2) := h; clear h; obtain ⟨qat, A2, H⟩ := qay H; (try dsimp only at H); by_cases c3 : qat = true
 ·subst c3; rw [if_pos rfl] at H; obtain ⟨qaR, A4, H⟩ := qay H; (try dsimp only at H); obtain ⟨rfl, rfl⟩ := qdF H; go_enter Tryz.func127, Tryz.ntmps127
  go_wp2_with (first | (refine gl_ 5 Tryz.func189 #[.int .i64 a0] rfl qbK ?_; (with_reducible refine (qdz.calls a0 true _ A2.out).mono ?_); rintro e w' ⟨rfl, ⟨nd, rfl⟩⟩; refine ⟨_, rfl, ?_⟩) | (refine gl_ 8 Tryz.func190 #[.int .i64 a0] rfl qbK ?_; (with_reducible refine (qaY.calls k a0 qaR _ A4.out).mono ?_); rintro e w5 ⟨qhm, rfl, ho0, hb⟩; refine ⟨_, rfl, ?_⟩; have qb1 := ak_ (Kd.qdV ho0 (qab qan)); replace HB := HB.mw hb; (try clear hb ho0)))
  go_ret2
  exact ⟨_, qcf, by (with_reducible repeat (first | apply Kd.qdi | apply Kd.qdj | apply Kd.qeb)); exact qb1.out, qan⟩
 replace c3 := Bool.eq_false_iff.mpr c3; subst c3; rw [if_neg ff_] at H; obtain ⟨rfl, rfl⟩ := qdF H; go_enter Tryz.func127, Tryz.ntmps127
 go_wp2_with (first | (refine gl_ 5 Tryz.func189 #[.int .i64 a0] rfl qbK ?_; (with_reducible refine (qdz.calls a0 false _ A2.out).mono ?_); rintro e w' ⟨rfl, ⟨nd, rfl⟩⟩; refine ⟨_, rfl, ?_⟩))
 go_ret2
 exact ⟨_, qcf, k55_, qan⟩
def qbp.l0 : Nat → List ByteArray → List Int → Int → Int → Option (ByteArray)
 | 0, _, _, _, _ => none
 | k + 1, x3, x7, x8, x9 => if x9 < x8 then (if 0 ≤ x9 then (if x9 < (x7.length : Int) then ((qbm.f (rd x7 x9)).bind fun t105 => (if x3.length < 8796093022208 then (qbp.l0 k (x3 ++ [t105]) x7 x8 (wrap64 (x9 + 1))) else (none))) else (none)) else (none)) else (if (x3.length : Int) = 0 then (some (⟨#[45]⟩ : ByteArray)) else ((strings_Join.f x3 (⟨#[44]⟩ : ByteArray)).bind fun t109 => (some t109)))
def qbp.f (k : Nat) (l0 : List Int) : Option (ByteArray) := qbp.l0 k (([] : List ByteArray)) l0 (l0.length : Int) 0
theorem qbp.calls (k : Nat) (A0 : Option Addr) (c0 : Nat) (l0 : List Int) (r : ByteArray) (w : World) (hr0 : Kd.C (Kd.int .i64) w A0 l0.length l0) (hc0 : l0.length ≤ c0) (h : qbp.f k l0 = some r) (hG : qbb w) :
  Calls Tryz.prog 131 #[.slice A0 l0.length c0] w fun e w' => e = .returned (.string r) ∧ Below w.heap.size w w' := by
 have HR0 := ak_ hr0; have HC0 := ak_ hc0; clear hr0 hc0; have HB := br_ w; have HG := ak_ hG; clear hG; have H : (qbp.l0 k (([] : List ByteArray)) l0 (l0.length : Int) 0) = some r := h; clear h
 obtain ⟨qff, hy_⟩ : ∃ y_ : List ByteArray, y_ = (([] : List ByteArray)) := ⟨_, rfl⟩
 replace H : (qbp.l0 k qff l0 (l0.length : Int) 0) = some r := qe1; have qei := ak_ hy_; clear hy_; have H' := ak_ H; clear H; go_enter Tryz.func131, Tryz.ntmps131
 go_wp2_with (first | ((with_reducible refine qal (N := 6) rfl ?_); refine li_ Kd.string 9 6 rfl (xs := ([] : List ByteArray)) qbe ?_; intro qit w2 ho3 hb; (first | rw [← qei.out] at ho3 | (simp only [Int.reduceToNat] at ho3; rw [← qei.out] at ho3)); have qc6 := ak_ (Kd.qax ho3 (qab qan)); replace HB := HB.mw hb; clear hb ho3))
 go_loopg [3, 9] k (fun kq v3 v9 w' => ∃ (qbx : List ByteArray) (qdp : Int), v9 = .int .i64 qdp ∧ qag (qbp.l0 kq qbx l0 (l0.length : Int) qdp = some r) ∧ qag (kq ≤ k) ∧ qag (Kd.R Kd.string 9 w' w.heap.size (fun _ => True) v3 qbx) ∧ qag (Below w.heap.size w w'))
 case atStart => exact ⟨(qff), (0), qav, H', ⟨Nat.le_refl _⟩, ⟨qo0⟩, ⟨qan⟩⟩
 case round =>
  clear H'; obtain ⟨qbx, qdp, rfl, HA, HK1, qdq, HB⟩ := hrel
  cases gk with
  | zero => exact absurd HA.out (by simp [qbp.l0])
  | succ k1 =>
   have H := HA.out; clear HA; simp only [qbp.l0] at H; by_cases c4 : qdp < (l0.length : Int); rotate_left
   ·rw [if_neg c4] at H; have qfx := decide_eq_false c4; clear c4; by_cases c11 : (qbx.length : Int) = 0
    ·rw [if_pos c11] at H; have qfQ : ((qbx.length : Int) == 0) = true := beq_iff_eq.mpr c11; have qgT : ((qbx.length : Int) != 0) = false := bne_eq_false_iff_eq.mpr c11; clear c11; obtain rfl := sj_ H; obtain ⟨qkZ, qk7, qq8⟩ := Kd.qaI qdq.out; subst qq8; go_wp2
     go_ret
     exact ⟨qcf, qan⟩
    rw [if_neg c11] at H; have qfQ : ((qbx.length : Int) == 0) = false := beq_eq_false_iff_ne.mpr c11; have qgT : ((qbx.length : Int) != 0) = true := bne_iff_ne.mpr c11
    have qrD : ¬ (qbx = []) := fun h_ => c11 (by rw [h_]; rfl)
    obtain ⟨t109, A13, H⟩ := qay H; (try dsimp only at H); obtain rfl := sj_ H; obtain ⟨Ao14, co14, eo14⟩ := Kd.qaI qdq.out; subst eo14
    go_wp2_with (first | (refine gl_ 23 Tryz.func88 #[.slice Ao14 qbx.length co14, .string (⟨#[44]⟩ : ByteArray)] rfl qbK ?_; (with_reducible refine (strings_Join.calls _ _ qbx (⟨#[44]⟩ : ByteArray) t109 _ ?qaA ?qaB A13.out).mono ?_); (case qaA => exact k41_); (case qaB => exact (Kd.qao qdq.out).2.1); rintro e w15 ⟨rfl, hb⟩; refine ⟨_, rfl, ?_⟩; replace qdq := qdq.mw hb; replace HB := HB.mw hb; (try clear hb)))
    go_ret
    exact ⟨qcf, qan⟩
   rw [if_pos c4] at H; have qfx := decide_eq_true c4; clear c4; obtain ⟨c5, H⟩ := qck H; have qgJ := decide_eq_true c5; clear c5; obtain ⟨c6, H⟩ := qck H; have qgk := decide_eq_true c6; clear c6; obtain ⟨t105, A7, H⟩ := qay H; (try dsimp only at H); obtain ⟨c8, H⟩ := qck H; have LMc8 := ak_ c8; clear c8
   obtain ⟨qkY, hy_⟩ : ∃ y_ : List ByteArray, y_ = (qbx ++ [t105]) := ⟨_, rfl⟩
   replace H : (qbp.l0 k1 qkY l0 (l0.length : Int) (wrap64 (qdp + 1))) = some r := qe1; have qod := ak_ hy_; clear hy_; have H' := ak_ H; clear H; have qhj : 0 ≤ (qdp : Int) := of_decide_eq_true qaO; have qhk : qdp < (l0.length : Int) := of_decide_eq_true qaO; obtain ⟨qhW, qne, qdX⟩ := Kd.qdO HR0.out qdp qhj qhk
   cases qne
   replace qdX := (HB.out.cell (World.block_lt_of_cell? w _ qdX)).trans qdX; replace qhj := eq_true qhj; replace qhk := eq_true qhk
   go_wp2_with (first | (refine gl_ 15 Tryz.func87 #[.int .i64 (rd l0 qdp)] rfl qbK ?_; (refine (qbm.calls (rd l0 qdp) t105 _ A7.out (qbb.below HG.out qan)).mono ?_); rintro e w9 ⟨rfl, hb⟩; refine ⟨_, rfl, ?_⟩; replace qdq := qdq.mw hb; replace HB := HB.mw hb; (try clear hb)) | ((with_reducible refine qa2 (b := .append) (xs := #[.tmp 13, .tmp 16]) rfl ?_); at_builtin; refine Kd.qcH Kd.string (w0 := w) w.heap.size rfl (.tmp 13) (.tmp 16) 43 9 (.string ⟨#[]⟩) 16 rfl Tryz.underlying43 qml rfl (by decide) (by omega) u3 qbx t105 [.string t105] (fun _ => True) (fun _ => False) rfl rfl ?aP (fun _ hk => hk.elim) ?aF ?aO ?aB ?aS ?aL ?_; (case aP => exact rfl); (case aB => exact qan); (case aF => exact (fun _ _ => trivial)); (case aO => exact qhX); (case aS => exact (qab qan)); (case aL => have := LMc8.out; omega); intro v107 w10 ho hb hg hat; rw [← qod.out] at ho; replace HB := ak_ (hb); have qgm := ak_ (ho); clear qdq; clear ho hb hg hat))
   go_roundg k1
   case measure => have := HK1.out; omega
   case rel => exact ⟨(qkY), (wrap64 (qdp + 1)), qav, H', ⟨qcW⟩, ⟨k85_⟩, ⟨qan⟩⟩
def qbN.l0 : Nat → List ByteArray → List (List Int) → Int → Int → Option (ByteArray)
 | 0, _, _, _, _ => none
 | k + 1, x3, x7, x8, x9 => if x9 < x8 then (if 0 ≤ x9 then (if x9 < (x7.length : Int) then ((qbp.f k (qbg x7 x9)).bind fun t105 => (if x3.length < 8796093022208 then (qbN.l0 k (x3 ++ [t105]) x7 x8 (wrap64 (x9 + 1))) else (none))) else (none)) else (none)) else (if (x3.length : Int) = 0 then (some (⟨#[45]⟩ : ByteArray)) else ((strings_Join.f x3 (⟨#[47]⟩ : ByteArray)).bind fun t109 => (some t109)))
def qbN.f (k : Nat) (l0 : List (List Int)) : Option (ByteArray) := qbN.l0 k (([] : List ByteArray)) l0 (l0.length : Int) 0
theorem qbN.calls (k : Nat) (A0 : Option Addr) (c0 : Nat) (l0 : List (List Int)) (r : ByteArray) (w : World) (hr0 : Kd.C (Kd.slice 3 (Kd.int .i64)) w A0 l0.length l0) (hc0 : l0.length ≤ c0) (h : qbN.f k l0 = some r) (hG : qbb w) :
  Calls Tryz.prog 128 #[.slice A0 l0.length c0] w fun e w' => e = .returned (.string r) ∧ Below w.heap.size w w' := by
 have HR0 := ak_ hr0; have HC0 := ak_ hc0; clear hr0 hc0; have HB := br_ w; have HG := ak_ hG; clear hG; have H : (qbN.l0 k (([] : List ByteArray)) l0 (l0.length : Int) 0) = some r := h; clear h
 obtain ⟨qff, hy_⟩ : ∃ y_ : List ByteArray, y_ = (([] : List ByteArray)) := ⟨_, rfl⟩
 replace H : (qbN.l0 k qff l0 (l0.length : Int) 0) = some r := qe1; have qei := ak_ hy_; clear hy_; have H' := ak_ H; clear H; go_enter Tryz.func128, Tryz.ntmps128
 go_wp2_with (first | ((with_reducible refine qal (N := 6) rfl ?_); refine li_ Kd.string 9 6 rfl (xs := ([] : List ByteArray)) qbe ?_; intro qit w2 ho3 hb; (first | rw [← qei.out] at ho3 | (simp only [Int.reduceToNat] at ho3; rw [← qei.out] at ho3)); have qc6 := ak_ (Kd.qax ho3 (qab qan)); replace HB := HB.mw hb; clear hb ho3))
 go_loopg [3, 9] k (fun kq v3 v9 w' => ∃ (qbx : List ByteArray) (qdp : Int), v9 = .int .i64 qdp ∧ qag (qbN.l0 kq qbx l0 (l0.length : Int) qdp = some r) ∧ qag (kq ≤ k) ∧ qag (Kd.R Kd.string 9 w' w.heap.size (fun _ => True) v3 qbx) ∧ qag (Below w.heap.size w w'))
 case atStart => exact ⟨(qff), (0), qav, H', ⟨Nat.le_refl _⟩, ⟨qo0⟩, ⟨qan⟩⟩
 case round =>
  clear H'; obtain ⟨qbx, qdp, rfl, HA, HK1, qdq, HB⟩ := hrel
  cases gk with
  | zero => exact absurd HA.out (by simp [qbN.l0])
  | succ k1 =>
   have H := HA.out; clear HA; simp only [qbN.l0] at H; by_cases c4 : qdp < (l0.length : Int); rotate_left
   ·rw [if_neg c4] at H; have qfx := decide_eq_false c4; clear c4; by_cases c11 : (qbx.length : Int) = 0
    ·rw [if_pos c11] at H; have qfQ : ((qbx.length : Int) == 0) = true := beq_iff_eq.mpr c11; have qgT : ((qbx.length : Int) != 0) = false := bne_eq_false_iff_eq.mpr c11; clear c11; obtain rfl := sj_ H; obtain ⟨qkZ, qk7, qq8⟩ := Kd.qaI qdq.out; subst qq8; go_wp2
     go_ret
     exact ⟨qcf, qan⟩
    rw [if_neg c11] at H; have qfQ : ((qbx.length : Int) == 0) = false := beq_eq_false_iff_ne.mpr c11; have qgT : ((qbx.length : Int) != 0) = true := bne_iff_ne.mpr c11
    have qrD : ¬ (qbx = []) := fun h_ => c11 (by rw [h_]; rfl)
    obtain ⟨t109, A13, H⟩ := qay H; (try dsimp only at H); obtain rfl := sj_ H; obtain ⟨Ao14, co14, eo14⟩ := Kd.qaI qdq.out; subst eo14
    go_wp2_with (first | (refine gl_ 23 Tryz.func88 #[.slice Ao14 qbx.length co14, .string (⟨#[47]⟩ : ByteArray)] rfl qbK ?_; (with_reducible refine (strings_Join.calls _ _ qbx (⟨#[47]⟩ : ByteArray) t109 _ ?qaA ?qaB A13.out).mono ?_); (case qaA => exact k41_); (case qaB => exact (Kd.qao qdq.out).2.1); rintro e w15 ⟨rfl, hb⟩; refine ⟨_, rfl, ?_⟩; replace qdq := qdq.mw hb; replace HB := HB.mw hb; (try clear hb)))
    go_ret
    exact ⟨qcf, qan⟩
   rw [if_pos c4] at H; have qfx := decide_eq_true c4; clear c4; obtain ⟨c5, H⟩ := qck H; have qgJ := decide_eq_true c5; clear c5; obtain ⟨c6, H⟩ := qck H; have qgk := decide_eq_true c6; clear c6; obtain ⟨t105, A7, H⟩ := qay H; (try dsimp only at H); obtain ⟨c8, H⟩ := qck H; have LMc8 := ak_ c8; clear c8
   obtain ⟨qkY, hy_⟩ : ∃ y_ : List ByteArray, y_ = (qbx ++ [t105]) := ⟨_, rfl⟩
   replace H : (qbN.l0 k1 qkY l0 (l0.length : Int) (wrap64 (qdp + 1))) = some r := qe1; have qod := ak_ hy_; clear hy_; have H' := ak_ H; clear H; have qhj : 0 ≤ (qdp : Int) := of_decide_eq_true qaO; have qhk : qdp < (l0.length : Int) := of_decide_eq_true qaO; obtain ⟨qhW, qrf, qrC, qne, qdX, qhC, qhB⟩ := qiX HR0.out qdp qhj qhk
   cases qne
   replace qdX := (HB.out.cell (World.block_lt_of_cell? w _ qdX)).trans qdX; have qjX := ak_ qhB; have qn6 := ak_ qhC; clear qhB qhC; replace qhj := eq_true qhj; replace qhk := eq_true qhk
   go_wp2_with (first | (refine gl_ 15 Tryz.func131 #[.slice qrf (qbg l0 qdp).length qrC] rfl qbK ?_; (refine (qbp.calls k1 _ _ (qbg l0 qdp) t105 _ ?qaA ?qaB A7.out (qbb.below HG.out qan)).mono ?_); (case qaA => repeat (first | exact (Kd.qeg qjX.out HB.out) | (with_reducible refine Kd.C_alloc ?_ _) | (with_reducible refine Kd.C_drewN ?_ _) | (with_reducible refine Kd.C_drew ?_))); (case qaB => exact qn6.out); rintro e w9 ⟨rfl, hb⟩; refine ⟨_, rfl, ?_⟩; replace qdq := qdq.mw hb; replace HB := HB.mw hb; (try clear hb)) | ((with_reducible refine qa2 (b := .append) (xs := #[.tmp 13, .tmp 16]) rfl ?_); at_builtin; refine Kd.qcH Kd.string (w0 := w) w.heap.size rfl (.tmp 13) (.tmp 16) 43 9 (.string ⟨#[]⟩) 16 rfl Tryz.underlying43 qml rfl (by decide) (by omega) u3 qbx t105 [.string t105] (fun _ => True) (fun _ => False) rfl rfl ?aP (fun _ hk => hk.elim) ?aF ?aO ?aB ?aS ?aL ?_; (case aP => exact rfl); (case aB => exact qan); (case aF => exact (fun _ _ => trivial)); (case aO => exact qhX); (case aS => exact (qab qan)); (case aL => have := LMc8.out; omega); intro v107 w10 ho hb hg hat; rw [← qod.out] at ho; replace HB := ak_ (hb); have qgm := ak_ (ho); clear qdq; clear ho hb hg hat))
   go_roundg k1
   case measure => have := HK1.out; omega
   case rel => exact ⟨(qkY), (wrap64 (qdp + 1)), qav, H', ⟨qcW⟩, ⟨k85_⟩, ⟨qan⟩⟩
def qc0.f (k : Nat) (a0 : Int) : Option (Int × Bool) := if a0 < 0 then (some (0, false)) else (if a0 > 10000 then (some (0, false)) else ((qaQ.f k 0 a0).bind fun qat => (some ((qat.length : Int), true))))
theorem qc0.calls (k : Nat) (a0 : Int) (r1 : Int) (r2 : Bool) (w : World) (h : qc0.f k a0 = some (r1, r2)) :
  Calls Tryz.prog 129 #[.int .i64 a0] w fun e w' => e = .returned (.tuple #[.int .i64 r1, .bool r2]) ∧ Below w.heap.size w w' := by
 have HB := br_ w; have H : (if a0 < 0 then (some (0, false)) else (if a0 > 10000 then (some (0, false)) else ((qaQ.f k 0 a0).bind fun qat => (some ((qat.length : Int), true))))) = some (r1, r2) := h; clear h; by_cases c2 : a0 < 0
 ·rw [if_pos c2] at H; have qfr := decide_eq_true c2; clear c2; obtain ⟨rfl, rfl⟩ := qdF H; go_enter Tryz.func129, Tryz.ntmps129; go_wp2
  go_ret2
  exact ⟨qcf, qan⟩
 rw [if_neg c2] at H; have qfr := decide_eq_false c2; clear c2; by_cases c3 : a0 > 10000
 ·rw [if_pos c3] at H; have qfk : decide (10000 < a0) = true := decide_eq_true c3; clear c3; obtain ⟨rfl, rfl⟩ := qdF H; go_enter Tryz.func129, Tryz.ntmps129; go_wp2
  go_ret2
  exact ⟨qcf, qan⟩
 rw [if_neg c3] at H; have qfk : decide (10000 < a0) = false := decide_eq_false c3; clear c3; obtain ⟨qat, A4, H⟩ := qay H; (try dsimp only at H); obtain ⟨rfl, rfl⟩ := qdF H; go_enter Tryz.func129, Tryz.ntmps129
 go_wp2_with (first | (refine gl_ 11 Tryz.func191 #[.int .i64 0, .int .i64 a0] rfl qbK ?_; (with_reducible refine (qaQ.calls k 0 a0 qat _ A4.out).mono ?_); rintro e w5 ⟨qit, rfl, ho0, hb⟩; refine ⟨_, rfl, ?_⟩; have qc6 := ak_ (Kd.qax ho0 (qab qan)); replace HB := HB.mw hb; (try clear hb ho0); obtain ⟨Ao6, co6, eo6⟩ := Kd.qaI qc6.out; subst eo6))
 go_ret2
 exact ⟨qcf, qan⟩
def qco.f (a0 : Int) : Option (Bool) := if a0 ≥ 1 then (some (decide (a0 ≤ 1000000))) else (some false)
theorem qco.calls (a0 : Int) (r : Bool) (w : World) (h : qco.f a0 = some r) :
  Calls Tryz.prog 192 #[.int .i64 a0] w fun e w' => e = .returned (.bool r) ∧ qcN w w' := by
 have H : (if a0 ≥ 1 then (some (decide (a0 ≤ 1000000))) else (some false)) = some r := h; clear h; by_cases c2 : a0 ≥ 1
 ·rw [if_pos c2] at H; have qfr : decide (1 ≤ a0) = true := decide_eq_true c2; clear c2; obtain rfl := sj_ H; go_enter Tryz.func192, Tryz.ntmps192; go_wp2
  go_ret
  exact ⟨qav, qcO⟩
 rw [if_neg c2] at H; have qfr : decide (1 ≤ a0) = false := decide_eq_false c2; clear c2; obtain rfl := sj_ H; go_enter Tryz.func192, Tryz.ntmps192; go_wp2
 go_ret
 exact ⟨qav, qcO⟩
def qo5 : Go.Shelf.Ren := ⟨fun | 189 => 227 | 125 => 253 | 257 => 252 | 128 => 274 | 129 => 259 | 294 => 265 | 295 => 266 | 296 => 267 | 297 => 268 | 298 => 269 | 299 => 270 | 216 => 271 | 300 => 272 | 301 => 273 | 328 => 279 | 329 => 280 | 330 => 281 | 331 => 282 | 332 => 283 | 215 => 284 | 343 => 287 | n => n, fun | 28 => 48 | 3 => 3 | 46 => 165 | 0 => 0 | 51 => 179 | 53 => 68 | 4 => 4 | 183 => 231 | 182 => 230 | 131 => 95 | 5 => 5 | 9 => 9 | 218 => 239 | 222 => 243 | 228 => 248 | 229 => 249 | n => n, fun | n => n⟩
theorem lays189 : Go.Proofs.Lays.n189 Tryz.prog qo5 := {
  mixed := by kernel_rfl
  f125 := cs_ Tryz.func253
  f128 := cs_ Tryz.func274
  f129 := cs_ Tryz.func259
  f189 := cs_ Tryz.func227
  f215 := cs_ Tryz.func284
  f216 := cs_ Tryz.func271
  f257 := cs_ Tryz.func252
  f294 := cs_ Tryz.func265
  f295 := cs_ Tryz.func266
  f296 := cs_ Tryz.func267
  f297 := cs_ Tryz.func268
  f298 := cs_ Tryz.func269
  f299 := cs_ Tryz.func270
  f300 := cs_ Tryz.func272
  f301 := cs_ Tryz.func273
  f328 := cs_ Tryz.func279
  f329 := cs_ Tryz.func280
  f330 := cs_ Tryz.func281
  f331 := cs_ Tryz.func282
  f332 := cs_ Tryz.func283
  f343 := cs_ Tryz.func287
  t0 := Tryz.underlying0
  a0 := Tryz.isAgg0
  z0 := Tryz.sizeOf0
  v0 := Tryz.zeroValue0
  t3 := Tryz.underlying3
  a3 := Tryz.isAgg3
  z3 := Tryz.sizeOf3
  v3 := Tryz.zeroValue3
  t4 := Tryz.underlying4
  a4 := Tryz.isAgg4
  z4 := Tryz.sizeOf4
  v4 := Tryz.zeroValue4
  t5 := Tryz.underlying5
  a5 := Tryz.isAgg5
  z5 := Tryz.sizeOf5
  v5 := Tryz.zeroValue5
  t9 := Tryz.underlying9
  a9 := Tryz.isAgg9
  z9 := Tryz.sizeOf9
  v9 := Tryz.zeroValue9
  t28 := Tryz.underlying48
  a28 := Tryz.isAgg48
  z28 := Tryz.sizeOf48
  v28 := Tryz.zeroValue48
  t46 := Tryz.underlying165
  a46 := Tryz.isAgg165
  z46 := Tryz.sizeOf165
  v46 := Tryz.zeroValue165
  t51 := Tryz.underlying179
  a51 := Tryz.isAgg179
  z51 := Tryz.sizeOf179
  v51 := Tryz.zeroValue179
  t53 := Tryz.underlying68
  a53 := Tryz.isAgg68
  z53 := Tryz.sizeOf68
  v53 := Tryz.zeroValue68
  t131 := Tryz.underlying95
  a131 := Tryz.isAgg95
  z131 := Tryz.sizeOf95
  v131 := Tryz.zeroValue95
  t182 := Tryz.underlying230
  a182 := Tryz.isAgg230
  z182 := Tryz.sizeOf230
  v182 := Tryz.zeroValue230
  t183 := Tryz.underlying231
  a183 := Tryz.isAgg231
  z183 := Tryz.sizeOf231
  v183 := Tryz.zeroValue231
  t218 := Tryz.underlying239
  a218 := Tryz.isAgg239
  z218 := Tryz.sizeOf239
  v218 := Tryz.zeroValue239
  t222 := Tryz.underlying243
  a222 := Tryz.isAgg243
  z222 := Tryz.sizeOf243
  v222 := Tryz.zeroValue243
  t228 := Tryz.underlying248
  a228 := Tryz.isAgg248
  z228 := Tryz.sizeOf248
  v228 := Tryz.zeroValue248
  t229 := Tryz.underlying249
  a229 := Tryz.isAgg249
  z229 := Tryz.sizeOf249
  v229 := Tryz.zeroValue249 }
def qhI (l : List Int) : List Int := l.mergeSort fun x y => decide (x ≤ y)
theorem qkT (l : List Int) : (qhI l).length = l.length := List.length_mergeSort _
theorem qpp {w : World} {g n : Nat} {os : Array Obj} {cur : Array Value} {e : TypeId} {fr : Nat × Nat} (d : Array Int) (hb : w.heap[g]? = some (.cells cur e fr)) :
    (Go.Sort.grow (Go.Sort.putRow (Value.int .i64) (Go.Sort.ahead w n) g 0 d) os).heap[g]? = some (.cells (Go.Sort.putCells (Value.int .i64) 0 d cur) e fr) := by
  have hg : g < w.heap.size := (Array.getElem?_eq_some_iff.1 hb).1
  have h1 : (Go.Sort.putRow (Value.int .i64) (Go.Sort.ahead w n) g 0 d).heap[g]? = some (.cells (Go.Sort.putCells (Value.int .i64) 0 d cur) e fr) := by
    simp [Go.Sort.putRow, Go.Sort.mapBlock, Go.Sort.ahead, Array.getElem?_modify, hb, Go.Sort.onCells]
  have h2 : g < (Go.Sort.putRow (Value.int .i64) (Go.Sort.ahead w n) g 0 d).heap.size := (Array.getElem?_eq_some_iff.1 h1).1
  show ((Go.Sort.putRow (Value.int .i64) (Go.Sort.ahead w n) g 0 d).heap ++ os)[g]? = _
  rw [Array.getElem?_append_left h2]; exact h1
theorem qnP {w : World} {g n : Nat} {os : Array Obj} (d : Array Int) : w.grownBy (Go.Sort.grow (Go.Sort.putRow (Value.int .i64) (Go.Sort.ahead w n) g 0 d) os) (some g) := by
  refine ⟨rfl, rfl, rfl, by simp [Go.Sort.grow, Go.Sort.putRow, Go.Sort.mapBlock, Go.Sort.ahead], fun k hk hne => ?_⟩
  have h1 : k < (Go.Sort.putRow (Value.int .i64) (Go.Sort.ahead w n) g 0 d).heap.size := by simpa [Go.Sort.putRow, Go.Sort.mapBlock, Go.Sort.ahead] using hk
  have : g ≠ k := fun e => hne (by rw [e])
  show ((Go.Sort.putRow (Value.int .i64) (Go.Sort.ahead w n) g 0 d).heap ++ os)[k]? = _
  rw [Array.getElem?_append_left h1]
  simp [Go.Sort.putRow, Go.Sort.mapBlock, Go.Sort.ahead, Array.getElem?_modify, this]
theorem qpq (cur : Array Value) (ts : List Int) (h : ts.length ≤ cur.size) : (Go.Sort.putCells (Value.int .i64) 0 ts.toArray cur).toList.take ts.length = ts.map (Value.int .i64) := by
  apply List.ext_getElem?; intro j; by_cases hj : j < ts.length
  ·rw [List.getElem?_take_of_lt hj, Array.getElem?_toList]
   simp [Go.Sort.putCells, hj, show j < cur.size by omega]
  rw [List.getElem?_take_eq_none (by omega), List.getElem?_eq_none (by simp; omega)]
set_option maxHeartbeats 2000000 in
theorem qpn (A : Option Addr) (c base : Nat) (ok : Nat → Prop) (xs : List Int) (w : World) (hR : Kd.R (Kd.int .i64) 3 w base ok (.slice A xs.length c) xs) (h0 : 0 < xs.length) (hsz : xs.length < 4611686018427387904) :
    Calls Tryz.prog 227 #[.slice A xs.length c] w fun e w' => e = .returned (.tuple #[]) ∧ Kd.R (Kd.int .i64) 3 w' base ok (.slice A xs.length c) (qhI xs) ∧ w.grownBy w' (Value.slice A xs.length c).ownBlock := by
  obtain ⟨hok, inner, hown, hr⟩ := hR
  rcases hown.2 with ⟨hv, _⟩ | ⟨g, cap, cur, hv, hg, hh, hnc, hcm, hcs, ht⟩
  · injection hv with _ hn _; omega
  obtain ⟨rfl, -, rfl⟩ := Value.slice.inj hv
  have hlen : inner.length = xs.length := by have := hr.1; rw [this]; show xs.length * 1 = _; omega
  have hin : ∀ j (hj : j < xs.length), inner[j]? = some (.int .i64 xs[j]) := by
    intro j hj; have h1 := hr.2 j xs[j] (List.getElem?_eq_getElem hj); have h2 : (inner.drop (j * 1)).take 1 = [.int .i64 xs[j]] := h1; have h3 := congrArg (fun l => l[0]?) h2
    simpa using h3
  have hcur : ∀ j (hj : j < xs.length), cur[j]? = some (.int .i64 xs[j]) := by
    intro j hj; rw [← hin j hj, ← ht, List.getElem?_take_of_lt (by show j < xs.length * 1; omega), Array.getElem?_toList]
  have hH : Go.Sort.Holds (Value.int .i64) w g 0 xs.toArray := by
    intro j hj
    have hj' : j < xs.length := by simpa using hj
    rw [Nat.zero_add]; refine ⟨?_, qad hh j⟩; rw [qba hh j, hcur j hj']
    simp [hj']
  refine (Any.slices_Sort_int lays189 g 0 c xs w hH (Array.getElem?_eq_some_iff.1 hh).1 hsz).mono ?_; rintro e w' ⟨rfl, n, os, rfl⟩; refine ⟨rfl, ⟨hok, (qhI xs).map (Value.int .i64), ⟨?_, .inr ⟨g, c, _, ?_, hg, qpp _ hh, ?_, hcm, ?_, ?_⟩⟩, ?_, ?_⟩, qnP _⟩
  ·show _ = (qhI xs).length * 1; simp
  ·rw [qkT]
  ·rw [qkT]; exact hnc
  ·rw [← hcs]; simp [Go.Sort.putCells]
  ·show List.take ((qhI xs).length * 1) _ = _
   rw [Nat.mul_one]; refine qpq cur (qhI xs) ?_; rw [qkT, hcs]
   show xs.length ≤ c * 1
   omega
  ·show _ = (qhI xs).length * 1; simp
  intro j p hp
  show ((List.map (Value.int .i64) (qhI xs)).drop (j * 1)).take 1 = [.int .i64 p]
  obtain ⟨hj, rfl⟩ := List.getElem?_eq_some_iff.1 hp; rw [Nat.mul_one, List.drop_eq_getElem_cons (by simpa using hj)]
  simp
section
variable {P : Program} {ops : Array Oper} {rest : List Oper} {o : Oper} {a : Act} {Q : Exit → Act → World → Prop}
theorem app_keep {w0 W : World} (base : Nat) (hgd : o.guard = none) (s x : Operand) (t e : TypeId) (z : Value) (bytes : Nat)
    (ho : o.op = .call { callee := .builtin .append, args := #[s, x], argTypes := #[t, t] })
    (ht : P.underlying t = some (.slice e)) (hinfo : (P.info? e).map (fun i => (i.zero, i.size, i.bytes)) = some (some z, 1, bytes)) (hz : z.cells.size = 1) (hb0 : 0 < bytes)
    (v : Value) (xs : List Int) (p : Int) (ok : Nat → Prop) (hs : a.eval s = v) (hx : a.eval x = .slice (some ⟨W.heap.size, 0, none⟩) 1 1) (hfresh : ∀ k, W.heap.size ≤ k → ok k)
    (HO : (Kd.int .i64).R e W base ok v xs) (hne : 0 < xs.length) (HB : Below base w0 W) (hbase : base ≤ W.heap.size) (hl : (xs.length + 1) * bytes ≤ 140737488355328)
    (h : ∀ v1 w1, (Kd.int .i64).R e w1 base ok v1 (xs ++ [p]) → Below base w0 w1 → W.grownBy w1 v.ownBlock → W.grownBy w1 v1.ownBlock → (v1.ownBlock = v.ownBlock ∨ ∃ b, v1.ownBlock = some b ∧ W.heap.size ≤ b) → wpList P ops Q rest (a.put o.dst v1) w1) :
    wpList P ops Q (o :: rest) a (W.alloc (.cells [Value.int .i64 p].toArray e)) := by
  obtain ⟨h0, inner, hown, hr⟩ := HO; obtain ⟨i0, hi, hzz⟩ := Option.map_eq_some_iff.1 hinfo; simp only [Prod.mk.injEq] at hzz; obtain ⟨hz0, hz1, hz2⟩ := hzz; have hlen : xs.length + 1 ≤ 140737488355328 := Nat.le_trans (Nat.le_mul_of_pos_right _ hb0) hl; have hnews : ∀ j u, [Value.int .i64 p][j]? = some u → (W.alloc (.cells [Value.int .i64 p].toArray e)).cell? ((⟨W.heap.size, 0, none⟩ : Addr).add j) = some u := cell_one_new W _ e
  have h1 : ∀ u ∈ [Value.int .i64 p], u.oneCell' = true := fun u hu => by rw [List.mem_singleton.1 hu]; rfl
  have h63 : xs.length + 1 ≤ maxLen := by simp only [maxLen]; omega
  refine wpList_plain hgd fun K hK => ?_
  obtain ⟨v', w', hrun, h2, h3, h4, h5⟩ := run_append_own_at (P := P) (W.alloc (.cells [Value.int .i64 p].toArray e)) base t o.type e i0 z 1 bytes ht hi hz0 hz1 hz2 hz (by omega) v xs.length inner (hown.alloc _) ⟨W.heap.size, 0, none⟩ 1 1 [.int .i64 p] rfl hnews h1 h63 hl (by simp; omega)
  have hg2 : (W.alloc (.cells [Value.int .i64 p].toArray e)).grownBy w' v'.ownBlock := by
    rcases (hown.alloc (.cells [Value.int .i64 p].toArray e)).2 with ⟨_, hn⟩ | ⟨g, cap, cur, hv, hbg, hgc, hnc, hcm, hcs, htake⟩
    · omega
    by_cases hroom : xs.length + 1 ≤ cap
    ·have hr2 := run_append_room (P := P) (W.alloc (.cells [Value.int .i64 p].toArray e)) t o.type e i0 ht hi g xs.length cap cur hgc ⟨W.heap.size, 0, none⟩ 1 1 [.int .i64 p] (by rw [hz1]; rfl) hnews h1 hroom (by rw [hz1, hcs]; show xs.length * 1 + 1 ≤ cap * 1; omega); rw [← hv, hrun] at hr2; simp only [Result.ok.injEq] at hr2
     have e1 : v'.ownBlock = v.ownBlock := by rw [hr2.1, hv]; rfl
     rw [e1]; exact h3
    have holds : ∀ j u, inner[j]? = some u → (W.alloc (.cells [Value.int .i64 p].toArray e)).cell? ((⟨g, 0, none⟩ : Addr).add j) = some u := (hown.alloc _).cells (g := g) (by rw [hv]; rfl); have hr2 := run_append_grow (P := P) (W.alloc (.cells [Value.int .i64 p].toArray e)) t o.type e i0 z ht hi hz0 ⟨g, 0, none⟩ xs.length cap inner (by rw [hz1]; exact hown.1) holds ⟨W.heap.size, 0, none⟩ 1 1 [.int .i64 p] (by rw [hz1]; rfl) hnews (by omega) (by omega) (growslice_fits (by omega) (by rw [hz2]; exact hl)); rw [← hv, hrun] at hr2; simp only [Result.ok.injEq] at hr2; obtain ⟨-, rfl⟩ := hr2; exact ⟨rfl, rfl, rfl, by simp, fun k hk _ => by first | exact heap_alloc_old _ _ hk | exact Go.heap_alloc_old _ _ k hk⟩
  unfold Oper.wp execOp; simp only [ho, resolve, invoke, builtin, Sem.run_bind, Sem.run_pure, Result.andThen_ok, List.map_toArray, List.map_cons, List.map_nil, hs, hx, hrun]; have hg' : W.grownBy w' v.ownBlock := World.grownBy.trans (World.grownBy_alloc W _ _) h3
  have hat' : v'.ownBlock = v.ownBlock ∨ ∃ b, v'.ownBlock = some b ∧ W.heap.size ≤ b := by
    rcases h5 with h5 | h5
    ·exact .inl h5
    exact .inr ⟨_, h5, by simp⟩
  exact hK _ _ (h v' w' (Kd.qiV h0 hr (show (Kd.int .i64).M W base (fun _ => False) p [.int .i64 p] from rfl) (fun _ hk => hk.elim) hfresh h2 hg' hat') ((HB.alloc hbase _).grown h3 (by simp; omega) (qfW hown)) hg' (World.grownBy.trans (World.grownBy_alloc W _ _) hg2) hat')
end
def qiS (e base : Nat) (W : World) (A : Option Addr) (v : Value) (x ys : List Int) : Prop :=
  ys.length ≤ x.length ∧ ((∃ c, v = .slice A x.length c ∧ ys = x.take ys.length) ∨ ∃ c, (Kd.int .i64).R e W base (fun _ => True) (.slice A ys.length c) ys ∧ v.ownBlock ≠ (Value.slice A 0 0).ownBlock)
theorem qiS.reads {e base : Nat} {W : World} {A : Option Addr} {v : Value} {x ys : List Int} (h : qiS e base W A v x ys) {ok : Nat → Prop} (hR : (Kd.int .i64).R e W base ok v x) : Kd.C (Kd.int .i64) W A ys.length ys := by
  obtain ⟨hl, ⟨c, rfl, h2⟩ | ⟨c, h2, _⟩⟩ := h
  ·have h3 := Kd.qmQ (m := ys.length) (Kd.qao hR).2.2 hl; rwa [← h2] at h3
  exact (Kd.qao h2).2.2
theorem qiS.step {e base : Nat} {W w1 : World} {A : Option Addr} {v v1 : Value} {x ys : List Int} {p : Int} (h : qiS e base W A v x ys) (hR : (Kd.int .i64).R e W base (fun _ => True) v x) (hR1 : (Kd.int .i64).R e w1 base (fun _ => True) v1 (x ++ [p])) (hg : W.grownBy w1 v.ownBlock) (hg2 : W.grownBy w1 v1.ownBlock) (hat : v1.ownBlock = v.ownBlock ∨ ∃ b, v1.ownBlock = some b ∧ W.heap.size ≤ b) (hne : 0 < x.length) : qiS e base w1 A v1 (x ++ [p]) ys := by
  obtain ⟨hl, ⟨c, rfl, h2⟩ | ⟨c, h2, h3⟩⟩ := h
  ·refine ⟨by rw [List.length_append]; omega, ?_⟩; obtain ⟨g, cap, eG, -, hgl, -⟩ := Kd.qeZ hR hne; obtain ⟨rfl, -, rfl⟩ := Value.slice.inj eG
   rcases hat with e1 | ⟨b, e1, hb⟩
   ·obtain ⟨g1, cap1, eG1, -, -, -⟩ := Kd.qeZ hR1 (by simp); subst eG1
    have e2 : g1 = g := by simpa [Value.ownBlock] using e1
    subst e2; exact .inl ⟨cap1, rfl, by rw [List.take_append_of_le_length hl]; exact h2⟩
   have hne1 : v1.ownBlock ≠ (Value.slice (some ⟨g, 0, none⟩) ys.length c).ownBlock := by
     rw [e1]; intro he
     have : b = g := by simpa [Value.ownBlock] using he
     omega
   have h4 := Kd.R_take hR hl; rw [← h2] at h4; exact .inr ⟨c, Kd.qpv h4 rfl hg2 hne1, hne1⟩
  have e0 : (Value.slice A ys.length c).ownBlock = (Value.slice A 0 0).ownBlock := by cases A <;> rfl
  refine ⟨by rw [List.length_append]; omega, .inr ⟨c, Kd.qpv h2 rfl hg (by rw [e0]; exact h3), ?_⟩⟩
  rcases hat with e1 | ⟨b, e1, hb⟩
  ·rw [e1]; exact h3
  rw [e1]; intro he; have := Kd.qjI h2 b (e0.trans he.symm); omega
mutual
def qaU.l0 : Nat → List Int → List (List Int) → Int → Int → Option (List Int)
 | 0, _, _, _, _ => none
 | k + 1, x3, x12, x13, x14 => if x14 < x13 then (if 0 ≤ x14 then (if x14 < (x12.length : Int) then (if 1 < ((qbg x12 x14).length : Int) then (qaU.l1 k x3 (qbg x12 x14) (x3.length : Int) 1 x12 x13 x14 (rd (qbg x12 x14) 1) 0) else (none)) else (none)) else (none)) else (if 0 < x3.length ∧ x3.length < 4611686018427387904 then some (qhI x3) else none)
def qaU.l1 : Nat → List Int → List Int → Int → Int → List (List Int) → Int → Int → Int → Int → Option (List Int)
 | 0, _, _, _, _, _, _, _, _, _ => none
 | k + 1, x3, x5, x6, x7, x12, x13, x14, x22, x23 => if x23 < x22 then (if 0 < (x5.length : Int) then (if 0 ≤ x6 then (if x6 ≤ (x3.length : Int) then ((some (x3.take (x6 : Int).toNat : List Int)).bind fun qiP => (qaU.l2 k x3 x5 x6 (wrap64 (x7 * (rd x5 0))) x12 x13 x14 x22 x23 qiP (qiP.length : Int) 0)) else (none)) else (none)) else (none)) else (qaU.l0 k x3 x12 x13 (wrap64 (x14 + 1)))
def qaU.l2 : Nat → List Int → List Int → Int → Int → List (List Int) → Int → Int → Int → Int → List Int → Int → Int → Option (List Int)
 | 0, _, _, _, _, _, _, _, _, _, _, _, _ => none
 | k + 1, x3, x5, x6, x7, x12, x13, x14, x22, x23, x32, x33, x34 => if x34 < x33 then (if 0 ≤ x34 then (if x34 < (x32.length : Int) then (if x3.length < 17592186044416 then (qaU.l2 k (x3 ++ [wrap64 ((rd x32 x34) * x7)]) x5 x6 x7 x12 x13 x14 x22 x23 x32 x33 (wrap64 (x34 + 1))) else (none)) else (none)) else (none)) else (qaU.l1 k x3 x5 x6 x7 x12 x13 x14 x22 (wrap64 (x23 + 1)))
end
def qaU.f (k : Nat) (a0 : Int) : Option (List Int) := (qaY.f k a0).bind fun qcg => (qaU.l0 k (([1] : List Int)) qcg (qcg.length : Int) 0)
theorem qaU.calls (k : Nat) (a0 : Int) (r : List Int) (w : World) (h : qaU.f k a0 = some r) :
  Calls Tryz.prog 193 #[.int .i64 a0] w fun e w' => ∃ v0_ : Value, e = .returned (v0_) ∧ Kd.R (Kd.int .i64) 3 w' w.heap.size (fun _ => True) v0_ r ∧ Below w.heap.size w w' := by
 have HB := br_ w; have H : ((qaY.f k a0).bind fun qcg => (qaU.l0 k (([1] : List Int)) qcg (qcg.length : Int) 0)) = some r := h; clear h
 obtain ⟨qff, hy_⟩ : ∃ y_ : List Int, y_ = (([1] : List Int)) := ⟨_, rfl⟩
 replace H : ((qaY.f k a0).bind fun qcg => (qaU.l0 k qff qcg (qcg.length : Int) 0)) = some r := qe1; have qei := ak_ hy_; clear hy_; obtain ⟨qcg, A2, H⟩ := qay H; (try dsimp only at H); have H' := ak_ H; clear H; go_enter Tryz.func193, Tryz.ntmps193
 go_wp2_with (first | ((with_reducible refine qal (N := 10) rfl ?_); refine Kd.qhq (Kd.int .i64) _ 3 ?hg (N := 10) ?hd (xs := ([1] : List Int)) (inner := [.int .i64 1]) (ok := fun _ => True) (okp := fun _ => True) ?hr ?hp (fun _ hk => hk) trivial (Below.refl _ _) (Nat.le_refl _) (by simp) ?_; (case hd => rfl); (case hg => rfl); (case hr => exact qbe); (case hp => exact (qef.one (show Kd.M (Kd.int .i64) _ _ _ 1 [.int .i64 1] from rfl) (qef.none _ _))); intro qit w3 ho4 hb hg_ hnew_; clear hg_ hnew_; (first | rw [← qei.out] at ho4 | (simp only [Int.reduceToNat] at ho4; rw [← qei.out] at ho4)); have qc6 := ak_ (Kd.qax ho4 (qab qan)); replace HB := HB.mw hb; clear hb ho4) | (refine gl_ 12 Tryz.func190 #[.int .i64 a0] rfl qbK ?_; (with_reducible refine (qaY.calls k a0 qcg _ A2.out).mono ?_); rintro e w5 ⟨v105, rfl, ho0, hb⟩; refine ⟨_, rfl, ?_⟩; have qeh := ak_ (Kd.qdV (Kd.qrr ho0 (Kd.qjI qo0)) (qab qan)); replace qc6 := qc6.mw hb; replace HB := HB.mw hb; (try clear hb ho0); obtain ⟨Ao6, co6, eo6⟩ := Kd.qdL qeh.out; subst eo6))
 go_loopg [3, 14] k (fun kq v3 v14 w' => ∃ (qbx : List Int) (qd4 : Int), v14 = .int .i64 qd4 ∧ qag (qaU.l0 kq qbx qcg (qcg.length : Int) qd4 = some r) ∧ qag (kq ≤ k) ∧ qag (Kd.R (Kd.int .i64) 3 w' w.heap.size (fun _ => True) v3 qbx) ∧ qag (Kd.S (Kd.slice 3 (Kd.int .i64)) 48 w' w.heap.size (fun k_ => some k_ ≠ (v3 : Value).ownBlock) (.slice Ao6 qcg.length co6) qcg) ∧ qag (Below w.heap.size w w'))
 case atStart => exact ⟨(qff), (0), qav, H', ⟨Nat.le_refl _⟩, ⟨qo0⟩, ⟨by (with_reducible repeat (first | apply Kd.qdi | apply Kd.qdj | apply Kd.qeb)); exact Kd.qgo qeh.out (fun _ hk => hk.2)⟩, ⟨qan⟩⟩
 case round =>
  clear H'; obtain ⟨qbx, qd4, rfl, HA, HK1, qdq, qiU, HB⟩ := hrel
  cases gk with
  | zero => exact absurd HA.out (by simp [qaU.l0])
  | succ k1 =>
   have H := HA.out; clear HA; simp only [qaU.l0] at H; by_cases c7 : qd4 < (qcg.length : Int); rotate_left
   ·rw [if_neg c7] at H; have qgU := decide_eq_false c7; clear c7; obtain ⟨c23, H⟩ := qck H; obtain rfl := sj_ H; have HC23 := ak_ c23; clear c23 H; obtain ⟨Ao24, co24, eo24⟩ := Kd.qaI qdq.out; subst eo24
    go_wp2_with (refine gl_ 48 Tryz.func227 #[.slice Ao24 qbx.length co24] rfl qbZ ?_; (refine (qpn Ao24 co24 _ (fun _ => True) qbx _ (by first | exact qdq.out | (apply_rules only [qdq.out, Kd.qap, Kd.qaq, Kd.qaw])) HC23.out.1 HC23.out.2).mono ?_); rintro e w' ⟨rfl, hR_, hg_⟩; refine ⟨_, rfl, ?_⟩; have HRS := ak_ hR_; have HBS := ak_ (Below.grown (by first | exact HB.out | (apply_rules only [HB.out, qai, qaf, qah])) hg_ (qab (by first | exact HB.out | (apply_rules only [HB.out, qai, qaf, qah]))) (Kd.qfj qdq.out)); clear hR_ hg_)
    go_ret
    exact ⟨_, rfl, HRS.out, HBS.out⟩
   rw [if_pos c7] at H; have qgU := decide_eq_true c7; clear c7; obtain ⟨c8, H⟩ := qck H; have qm4 := decide_eq_true c8; clear c8; obtain ⟨c9, H⟩ := qck H; have qln := decide_eq_true c9; clear c9; obtain ⟨c10, H⟩ := qck H; have qgt := decide_eq_true c10; have c10b1 : decide (1 < (qbg qcg qd4).length) = true := decide_eq_true (by omega); clear c10; have H' := ak_ H; clear H; have p107 : 0 ≤ (qd4 : Int) := of_decide_eq_true qaO; have q107 : qd4 < (qcg.length : Int) := of_decide_eq_true qaO; obtain ⟨ad107, A107_0, c107_0, e107, qsv, qsn, qsl⟩ := qiX (Kd.qeG qiU.out).2.2 qd4 p107 q107
   cases e107
   obtain ⟨ce107, hce107, hMe107, hcc107⟩ := Kd.qrq qiU.out [] qd4 p107 (by first | exact q107 | exact of_decide_eq_true qaO | (have e_ := (Kd.qeG qiU.out).1; omega)); obtain ⟨ve107_0, rfl, qoA⟩ := hMe107; have qkv := hcc107 0 _ rfl; rw [Nat.add_zero, show ((Kd.slice 3 (Kd.int .i64))).sz = 1 from rfl, Nat.mul_one] at qkv; replace qkv := Option.some.inj (qkv.symm.trans qsv); rw [qkv] at qoA; have HL107_0 := ak_ (show Kd.R (Kd.int .i64) 3 _ _ _ _ (qbg qcg qd4) from qoA); clear qkv qoA; clear hcc107 hce107; have qri := ak_ qsl; have HC107_0 := ak_ qsn; clear qsl qsn; replace p107 := eq_true p107; replace q107 := eq_true q107; obtain ⟨Ao11, co11, eo11⟩ := Kd.qaI qdq.out; subst eo11
   have qrc : 0 ≤ (1 : Int) := (by omega)
   have qrd : 1 < ((qbg qcg qd4).length : Int) := of_decide_eq_true qaO; obtain ⟨qrt, e108, qkx⟩ := Kd.qdO (by repeat (first | (with_reducible exact qri.out) | (with_reducible refine Kd.C_alloc ?_ _) | (with_reducible refine Kd.C_drewN ?_ _) | (with_reducible refine Kd.C_drew ?_) | exact qri.out)) 1 qrc qrd
   cases e108
   (try simp only [show (1 : Int).toNat = 1 from rfl, Nat.reduceMul, Nat.reduceEqDiff, Go.Addr.add, ↓reduceIte] at qkx); have qi108 : (1 < (qbg qcg qd4).length) = True := eq_true (by omega); (try rw [show ((1 : Int)).toNat = 1 from rfl] at qkx); replace qrc := eq_true qrc; replace qrd := eq_true qrd; go_wp2
   go_loopg [3, 7, 23] k1 (fun kq v3 v7 v23 w' => ∃ (qgO : List Int) (qlZ : Int) (qnY : Int), v7 = .int .i64 qlZ ∧ v23 = .int .i64 qnY ∧ qag (qaU.l1 kq qgO (qbg qcg qd4) (qbx.length : Int) qlZ qcg (qcg.length : Int) qd4 (rd (qbg qcg qd4) 1) qnY = some r) ∧ qag (kq ≤ k1) ∧ qag (Kd.R (Kd.int .i64) 3 w' w.heap.size (fun _ => True) v3 qgO) ∧ qag (Kd.S (Kd.slice 3 (Kd.int .i64)) 48 w' w.heap.size (fun k_ => some k_ ≠ (v3 : Value).ownBlock) (.slice (some ad107) qcg.length co6) qcg) ∧ qag (Below w.heap.size w w') ∧ qag (Kd.R (Kd.int .i64) 3 w' w.heap.size (fun k_ => some k_ ≠ (v3 : Value).ownBlock) (.slice (some qrt) (qbg qcg qd4).length c107_0) (qbg qcg qd4)))
   case atStart => exact ⟨(qbx), (1), (0), qav, qav, H', ⟨Nat.le_refl _⟩, ⟨qhX⟩, ⟨by apply_rules only [qiU.out, Kd.qdi, Kd.qdj, Kd.qeb]⟩, ⟨qan⟩, ⟨by (with_reducible repeat (first | apply Kd.qap | apply Kd.qaq | apply Kd.qaw)); exact Kd.qa9 HL107_0.out (fun _ hk => by first | exact hk | exact hk.2 | exact hk.1 | exact hk.1.1 | exact hk.1.2 | exact hk.1.1.1 | exact hk.1.1.2)⟩⟩
   case round =>
    clear H'
    skip
    obtain ⟨qgO, qlZ, qnY, rfl, rfl, HA, HK2, qdq, qiU, HB, HF_⟩ := hrel
    cases gk with
    | zero => exact absurd HA.out (by simp [qaU.l1])
    | succ k2 =>
     have H := HA.out; clear HA; simp only [qaU.l1] at H; by_cases c12 : qnY < (rd (qbg qcg qd4) 1); rotate_left
     ·rw [if_neg c12] at H; have qhg := decide_eq_false c12; clear c12; have H' := ak_ H; clear H; go_wp2
      go_roundg k2
      case measure => have := HK1.out; have := HK2.out; omega
      case rel => exact ⟨(qgO), (wrap64 (qd4 + 1)), qav, H', ⟨qmn⟩, ⟨qhX⟩, ⟨by apply_rules only [qiU.out, Kd.qdi, Kd.qdj, Kd.qeb]⟩, ⟨qan⟩⟩
     rw [if_pos c12] at H; have qhg := decide_eq_true c12; clear c12; obtain ⟨c13, H⟩ := qck H; have qk6 := decide_eq_true c13; have c13b1 : decide (0 < (qbg qcg qd4).length) = true := decide_eq_true (by omega); clear c13; obtain ⟨c14, H⟩ := qck H; have qj5 := eq_true c14; have qrE := decide_eq_true c14; clear c14; obtain ⟨c15, H⟩ := qck H; have qm2 := eq_true c15; have qop := decide_eq_true c15; clear c15
     obtain ⟨qiP, hy_⟩ : ∃ y_ : List Int, y_ = (qgO.take ((qbx.length : Int) : Int).toNat) := ⟨_, rfl⟩
     replace H : (qaU.l2 k2 qgO (qbg qcg qd4) (qbx.length : Int) (wrap64 (qlZ * (rd (qbg qcg qd4) 0))) qcg (qcg.length : Int) qd4 (rd (qbg qcg qd4) 1) qnY qiP (qiP.length : Int) 0) = some r := qe1; have qk4 := ak_ hy_; clear hy_; have H' := ak_ H; clear H
     have p109 : 0 ≤ (0 : Int) := (by omega)
     have q109 : 0 < ((qbg qcg qd4).length : Int) := of_decide_eq_true qaO; obtain ⟨ad109, e109, qoT⟩ := Kd.qdO (Kd.qao HF_.out).2.2 0 p109 q109
     obtain rfl : qrt = ad109 := (by injection e109)
     have qi109 : (0 < (qbg qcg qd4).length) = True := eq_true (by omega); (try rw [show ((0 : Int)).toNat = 0 from rfl] at qoT); (try rw [Addr.add_zero'] at qoT)
     skip
     replace p109 := eq_true p109; replace q109 := eq_true q109; obtain ⟨Ao17, co17, eo17⟩ := Kd.qaI qdq.out; subst eo17; have q16 : ((qbx.length : Int) : Int) ≤ ((qgO.length : Int) : Int) := of_decide_eq_true qaO; obtain ⟨i016, hi016, _, hsz16, _⟩ := info_parts info3; have qsu : qgO.length ≤ co17 := (Kd.qao qdq.out).2.1; have hC16 : Kd.C (Kd.int .i64) _ Ao17 qgO.length qgO := (Kd.qao qdq.out).2.2; have hcut16 := qj9 (P := Tryz.prog) 48 3 .i64 Tryz.underlying48 hi016 Ao17 qgO.length co17 (qbx.length : Int) (of_decide_eq_true qaO) q16 qsu; have hr16 := Kd.qmQ (m := ((qbx.length : Int) : Int).toNat) hC16 (by omega)
     have hy16 : qiP.length = ((qbx.length : Int) : Int).toNat := (by rw [qk4.out, List.length_take]; omega)
     rw [← qk4.out] at hr16; rw [← hy16] at hcut16; have HR113 := ak_ hr16; have HC113 := ak_ (show qiP.length ≤ co17 from by omega); clear hr16 hC16 qsu hi016 hsz16; have KY16 := ak_ hy16; clear hy16; have KL16 := ak_ (show ((qbx.length : Int) : Int).toNat ≤ qgO.length from by omega); have HAH_ := ak_ (show qiS 3 w.heap.size _ Ao17 (.slice Ao17 qgO.length co17) qgO qiP from ⟨by have := KY16.out; have := KL16.out; omega, .inl ⟨_, rfl, by rw [KY16.out]; exact qk4.out⟩⟩ : qiS 3 w.heap.size wr Ao17 (.slice Ao17 qgO.length co17) qgO qiP); replace q16 := eq_true q16; go_wp2
     go_loopg [3, 34] k2 (fun kq v3 v34 w' => ∃ (x3_3 : List Int) (qjG : Int), v34 = .int .i64 qjG ∧ qag (qaU.l2 kq x3_3 (qbg qcg qd4) (qbx.length : Int) (wrap64 (qlZ * (rd (qbg qcg qd4) 0))) qcg (qcg.length : Int) qd4 (rd (qbg qcg qd4) 1) qnY qiP (qiP.length : Int) qjG = some r) ∧ qag (kq ≤ k2) ∧ qag (Kd.R (Kd.int .i64) 3 w' w.heap.size (fun _ => True) v3 x3_3) ∧ qag (Kd.S (Kd.slice 3 (Kd.int .i64)) 48 w' w.heap.size (fun k_ => some k_ ≠ (v3 : Value).ownBlock) (.slice (some ad107) qcg.length co6) qcg) ∧ qag (Below w.heap.size w w') ∧ qag (Kd.R (Kd.int .i64) 3 w' w.heap.size (fun k_ => some k_ ≠ (v3 : Value).ownBlock) (.slice (some qrt) (qbg qcg qd4).length c107_0) (qbg qcg qd4)) ∧ qag (qiS 3 w.heap.size w' Ao17 v3 x3_3 qiP))
     case atStart => exact ⟨(qgO), (0), qav, H', ⟨Nat.le_refl _⟩, ⟨qhX⟩, ⟨by apply_rules only [qiU.out, Kd.qdi, Kd.qdj, Kd.qeb]⟩, ⟨qan⟩, ⟨by apply_rules only [HF_.out, Kd.qap, Kd.qaq, Kd.qaw]⟩, ⟨by (first | exact HAH_.out | (refine qiS.below HAH_.out ?_; apply_rules only [Below.refl, qai, qaf, qah]))⟩⟩
     case round =>
      clear H'; (try clear c7); (try clear qgU); (try clear c8); (try clear qm4); (try clear c9); (try clear qln); (try clear c10); (try clear qgt); (try clear c10b1); (try clear c12); (try clear qhg); (try clear c13); (try clear qk6); (try clear c13b1); (try clear c14); (try clear qj5); (try clear qrE); (try clear c15); (try clear qm2); (try clear qop); (try clear q16); (try clear qsv); (try clear qkx); (try clear qoT); (try clear p107); (try clear qrc); (try clear p109); (try clear q107); (try clear qrd); (try clear q109); clear qdq qiU HF_ HAH_; obtain ⟨x3_3, qjG, rfl, HA, HK3, qdq, qiU, HB, HFB_, HAB_⟩ := hrel
      cases gk with
      | zero => exact absurd HA.out (by simp [qaU.l2])
      | succ k3 =>
       have H := HA.out; clear HA; simp only [qaU.l2] at H; by_cases c18 : qjG < (qiP.length : Int); rotate_left
       ·rw [if_neg c18] at H; have qqw := decide_eq_false c18; clear c18; have H' := ak_ H; clear H; go_wp2
        go_roundg k3
        case measure => have := HK1.out; have := HK2.out; have := HK3.out; omega
        case rel => exact ⟨(x3_3), ((wrap64 (qlZ * (rd (qbg qcg qd4) 0)))), (wrap64 (qnY + 1)), qav, qav, H', ⟨k99_⟩, ⟨qhX⟩, ⟨by apply_rules only [qiU.out, Kd.qdi, Kd.qdj, Kd.qeb]⟩, ⟨qan⟩, ⟨by apply_rules only [HFB_.out, Kd.qap, Kd.qaq, Kd.qaw]⟩⟩
       rw [if_pos c18] at H; have qqw := decide_eq_true c18; clear c18; obtain ⟨c19, H⟩ := qck H; have c19b0 := decide_eq_true c19; clear c19; obtain ⟨c20, H⟩ := qck H; have c20b0 := decide_eq_true c20; clear c20; obtain ⟨c21, H⟩ := qck H; have LMc21 := ak_ c21; clear c21
       obtain ⟨y115, hy_⟩ : ∃ y_ : List Int, y_ = (x3_3 ++ [wrap64 ((rd qiP qjG) * (wrap64 (qlZ * (rd (qbg qcg qd4) 0))))]) := ⟨_, rfl⟩
       replace H : (qaU.l2 k3 y115 (qbg qcg qd4) (qbx.length : Int) (wrap64 (qlZ * (rd (qbg qcg qd4) 0))) qcg (qcg.length : Int) qd4 (rd (qbg qcg qd4) 1) qnY qiP (qiP.length : Int) (wrap64 (qjG + 1))) = some r := qe1; have Ny115 := ak_ hy_; clear hy_; have H' := ak_ H; clear H; have p114 : 0 ≤ (qjG : Int) := of_decide_eq_true qaO; have q114 : qjG < (qiP.length : Int) := of_decide_eq_true qaO; obtain ⟨ad114, e114, hx114_0⟩ := Kd.qdO (HAB_.out.reads qdq.out) qjG p114 q114
       cases e114
       have HN3 := ak_ (show 0 < x3_3.length by have := HAB_.out.1; have := of_decide_eq_true (p := qjG < (qiP.length : Int)) qaO; omega); replace p114 := eq_true p114; replace q114 := eq_true q114
       go_wp2_with (first | ((with_reducible refine qa2 (b := .append) (xs := #[.tmp 38, .tmp 42]) rfl ?_); at_builtin; refine app_keep (w0 := w) w.heap.size rfl (.tmp 38) (.tmp 42) 48 3 (.int .i64 0) 8 rfl Tryz.underlying48 info3 rfl (by omega) u3 x3_3 (wrap64 ((rd qiP qjG) * (wrap64 (qlZ * (rd (qbg qcg qd4) 0))))) (fun _ => True) rfl rfl (fun _ _ => trivial) ?aO HN3.out ?aB ?aS ?aL ?_; (case aB => exact qan); (case aO => exact qhX); (case aS => exact (qab qan)); (case aL => have := LMc21.out; omega); intro v116 w22 ho hb hg hg2 hat; replace HAB_ := ak_ (qiS.step (by first | exact HAB_.out | (refine qiS.below HAB_.out ?_; apply_rules only [Below.refl, qai, qaf, qah])) qhX ho hg hg2 hat HN3.out); replace HFB_ := ak_ (Kd.qf7 (ok := (fun _ => True)) (by (with_reducible repeat (first | apply Kd.qap | apply Kd.qaq | apply Kd.qaw)); exact Kd.qa9 HFB_.out (fun _ hk => ⟨trivial, hk⟩)) hg hat); rw [← Ny115.out] at ho; replace HAB_ : qag (qiS 3 w.heap.size w22 _ v116 y115 qiP) := by { have h_ := HAB_; rw [← Ny115.out] at h_; exact h_ }; replace qiU := ak_ (Kd.S_after (ok := (fun _ => True)) (by (with_reducible repeat (first | apply Kd.qdi | apply Kd.qdj | apply Kd.qeb)); exact Kd.qgo qiU.out (fun _ hk => ⟨trivial, hk⟩)) hg hat); replace HB := ak_ (hb); have HO117 := ak_ (ho); clear qdq; clear ho hb hg hg2 hat))
       go_roundg k3
       case measure => have := HK1.out; have := HK2.out; have := HK3.out; omega
       case rel => exact ⟨(y115), (wrap64 (qjG + 1)), qav, H', ⟨k99_⟩, ⟨by apply_rules only [HO117.out, Kd.qap, Kd.qaq, Kd.qaw]⟩, ⟨by (with_reducible repeat (first | apply Kd.qdi | apply Kd.qdj | apply Kd.qeb)); exact Kd.qgo qiU.out (fun _ hk => hk.2)⟩, ⟨qan⟩, ⟨by (with_reducible repeat (first | apply Kd.qap | apply Kd.qaq | apply Kd.qaw)); exact Kd.qa9 HFB_.out (fun _ hk => by first | exact hk | exact hk.2)⟩, ⟨by (first | exact HAB_.out | (refine qiS.below HAB_.out ?_; apply_rules only [Below.refl, qai, qaf, qah]))⟩⟩
def qc9.f (k : Nat) (a0 : Int) : Option (List Int × Bool) := (qco.f a0).bind fun qat => (if qat = true then ((qaU.f k a0).bind fun qaR => (some (qaR, true))) else (some (([] : List Int), false)))
theorem qc9.calls (k : Nat) (a0 : Int) (r1 : List Int) (r2 : Bool) (w : World) (h : qc9.f k a0 = some (r1, r2)) :
  Calls Tryz.prog 130 #[.int .i64 a0] w fun e w' => ∃ v0_ : Value, e = .returned (.tuple #[v0_, .bool r2]) ∧ Kd.R (Kd.int .i64) 3 w' w.heap.size (fun _ => True) v0_ r1 ∧ Below w.heap.size w w' := by
 have HB := br_ w; have H : ((qco.f a0).bind fun qat => (if qat = true then ((qaU.f k a0).bind fun qaR => (some (qaR, true))) else (some (([] : List Int), false)))) = some (r1, r2) := h; clear h; obtain ⟨qat, A2, H⟩ := qay H; (try dsimp only at H); by_cases c3 : qat = true
 ·subst c3; rw [if_pos rfl] at H; obtain ⟨qaR, A4, H⟩ := qay H; (try dsimp only at H); obtain ⟨rfl, rfl⟩ := qdF H; go_enter Tryz.func130, Tryz.ntmps130
  go_wp2_with (first | (refine gl_ 5 Tryz.func192 #[.int .i64 a0] rfl qbK ?_; (with_reducible refine (qco.calls a0 true _ A2.out).mono ?_); rintro e w' ⟨rfl, ⟨nd, rfl⟩⟩; refine ⟨_, rfl, ?_⟩) | (refine gl_ 8 Tryz.func193 #[.int .i64 a0] rfl qbK ?_; (with_reducible refine (qaU.calls k a0 qaR _ A4.out).mono ?_); rintro e w5 ⟨qhm, rfl, ho0, hb⟩; refine ⟨_, rfl, ?_⟩; have qb1 := ak_ (Kd.qax ho0 (qab qan)); replace HB := HB.mw hb; (try clear hb ho0)))
  go_ret2
  exact ⟨_, qcf, k63_, qan⟩
 replace c3 := Bool.eq_false_iff.mpr c3; subst c3; rw [if_neg ff_] at H; obtain ⟨rfl, rfl⟩ := qdF H; go_enter Tryz.func130, Tryz.ntmps130
 go_wp2_with (first | (refine gl_ 5 Tryz.func192 #[.int .i64 a0] rfl qbK ?_; (with_reducible refine (qco.calls a0 false _ A2.out).mono ?_); rintro e w' ⟨rfl, ⟨nd, rfl⟩⟩; refine ⟨_, rfl, ?_⟩))
 go_ret2
 exact ⟨_, qcf, qgN, qan⟩
def qb9.l0 : Nat → Int → List (List Int) → Int → Int → Option (Int)
 | 0, _, _, _, _ => none
 | k + 1, x3, x8, x9, x10 => if x10 < x9 then (if 0 ≤ x10 then (if x10 < (x8.length : Int) then (if 0 < ((qbg x8 x10).length : Int) then (if (rd (qbg x8 x10) 0) = 0 then (none) else (qb9.l0 k (wrap64 ((wrap64 (Int.tdiv x3 (rd (qbg x8 x10) 0))) * (wrap64 ((rd (qbg x8 x10) 0) - 1)))) x8 x9 (wrap64 (x10 + 1)))) else (none)) else (none)) else (none)) else (some x3)
def qb9.f (k : Nat) (a0 : Int) : Option (Int) := (qaY.f k a0).bind fun qat => (qb9.l0 k a0 qat (qat.length : Int) 0)
theorem qb9.calls (k : Nat) (a0 : Int) (r : Int) (w : World) (h : qb9.f k a0 = some r) :
  Calls Tryz.prog 194 #[.int .i64 a0] w fun e w' => e = .returned (.int .i64 r) ∧ Below w.heap.size w w' := by
 have HB := br_ w; have H : ((qaY.f k a0).bind fun qat => (qb9.l0 k a0 qat (qat.length : Int) 0)) = some r := h; clear h; obtain ⟨qat, A2, H⟩ := qay H; (try dsimp only at H); have H' := ak_ H; clear H; go_enter Tryz.func194, Tryz.ntmps194
 go_wp2_with (first | (go_at_call 190; (with_reducible refine (qaY.calls k a0 qat _ A2.out).mono ?_); rintro e w3 ⟨qit, rfl, ho0, hb⟩; have qc6 := ak_ (Kd.qdV ho0 (qab qan)); replace HB := HB.mw hb; (try clear hb ho0); obtain ⟨Ao4, co4, eo4⟩ := Kd.qdL qc6.out; subst eo4))
 repeat (go_quiet (first | (go_at_call 190; (with_reducible refine (qaY.calls k a0 qat _ A2.out).mono ?_); rintro e w3 ⟨qit, rfl, ho0, hb⟩; have qc6 := ak_ (Kd.qdV ho0 (qab qan)); replace HB := HB.mw hb; (try clear hb ho0); obtain ⟨Ao4, co4, eo4⟩ := Kd.qdL qc6.out; subst eo4)); try go_wp2_with (first | (go_at_call 190; (with_reducible refine (qaY.calls k a0 qat _ A2.out).mono ?_); rintro e w3 ⟨qit, rfl, ho0, hb⟩; have qc6 := ak_ (Kd.qdV ho0 (qab qan)); replace HB := HB.mw hb; (try clear hb ho0); obtain ⟨Ao4, co4, eo4⟩ := Kd.qdL qc6.out; subst eo4)))
 go_loopg [3, 10] k (fun kq v3 v10 w' => ∃ (qbx : Int) (qcQ : Int), v3 = .int .i64 qbx ∧ v10 = .int .i64 qcQ ∧ qag (qb9.l0 kq qbx qat (qat.length : Int) qcQ = some r) ∧ qag (kq ≤ k) ∧ qag (Kd.S (Kd.slice 3 (Kd.int .i64)) 48 w' w.heap.size (fun _ => True) (.slice Ao4 qat.length co4) qat) ∧ qag (Below w.heap.size w w'))
 case atStart => exact ⟨(a0), (0), qav, qav, H', ⟨Nat.le_refl _⟩, ⟨by apply_rules only [qc6.out, Kd.qdi, Kd.qdj, Kd.qeb]⟩, ⟨qan⟩⟩
 case round =>
  clear H'; obtain ⟨qbx, qcQ, rfl, rfl, HA, HK1, HO_8, HB⟩ := hrel
  cases gk with
  | zero => exact absurd HA.out (by simp [qb9.l0])
  | succ k1 =>
   have H := HA.out; clear HA; simp only [qb9.l0] at H; by_cases c5 : qcQ < (qat.length : Int); rotate_left
   ·rw [if_neg c5] at H; have qgJ := decide_eq_false c5; clear c5; obtain rfl := sj_ H; go_wp2
    repeat (go_quiet (fail); try go_wp2)
    go_ret
    exact ⟨qcf, qan⟩
   rw [if_pos c5] at H; have qgJ := decide_eq_true c5; clear c5; obtain ⟨c6, H⟩ := qck H; have qgk := decide_eq_true c6; clear c6; obtain ⟨c7, H⟩ := qck H; have qgU := decide_eq_true c7; clear c7; obtain ⟨c8, H⟩ := qck H; have qm4 := decide_eq_true c8; have c8b1 : decide (0 < (qbg qat qcQ).length) = true := decide_eq_true (by omega); clear c8; by_cases c9 : (rd (qbg qat qcQ) 0) = 0
   ·rw [if_pos c9] at H; exact absurd H (by simp)
   rw [if_neg c9] at H; have qln : ((rd (qbg qat qcQ) 0) == 0) = false := beq_eq_false_iff_ne.mpr c9; have c9b1 : ((rd (qbg qat qcQ) 0) != 0) = true := bne_iff_ne.mpr c9; have H' := ak_ H; clear H; have qhj : 0 ≤ (qcQ : Int) := of_decide_eq_true qaO; have qhk : qcQ < (qat.length : Int) := of_decide_eq_true qaO; obtain ⟨qhW, qrf, qrC, qne, qdX, qhC, qhB⟩ := qiX (Kd.qeG HO_8.out).2.2 qcQ qhj qhk
   cases qne
   obtain ⟨ce104, qr7, qr5, qnm⟩ := Kd.qrq HO_8.out [] qcQ qhj (by first | exact qhk | exact of_decide_eq_true qaO | (have e_ := (Kd.qeG HO_8.out).1; omega)); obtain ⟨ve104_0, rfl, qic⟩ := qr5; have qgc := qnm 0 _ rfl; rw [Nat.add_zero, show ((Kd.slice 3 (Kd.int .i64))).sz = 1 from rfl, Nat.mul_one] at qgc; replace qgc := Option.some.inj (qgc.symm.trans qdX); rw [qgc] at qic; have HL104_0 := ak_ (show Kd.R (Kd.int .i64) 3 _ _ _ _ (qbg qat qcQ) from qic); clear qgc qic; clear qnm qr7; have qjX := ak_ qhB; have qn6 := ak_ qhC; clear qhB qhC; replace qhj := eq_true qhj; replace qhk := eq_true qhk
   have qhD : 0 ≤ (0 : Int) := (by omega)
   have qhE : 0 < ((qbg qat qcQ).length : Int) := of_decide_eq_true qaO; obtain ⟨qec, qnf, qcS⟩ := Kd.qdO k32_ 0 qhD qhE
   cases qnf
   have qs2 : (0 < (qbg qat qcQ).length) = True := eq_true (by omega); (try rw [show ((0 : Int)).toNat = 0 from rfl] at qcS); (try rw [Addr.add_zero'] at qcS); replace qhD := eq_true qhD; replace qhE := eq_true qhE
   have qfI : 0 ≤ (0 : Int) := (by omega)
   have qfK : 0 < ((qbg qat qcQ).length : Int) := of_decide_eq_true qaO; obtain ⟨qgS, qjC, qcr⟩ := Kd.qdO k32_ 0 qfI qfK
   obtain rfl : qec = qgS := (by injection qjC)
   have qs3 : (0 < (qbg qat qcQ).length) = True := eq_true (by omega); (try rw [show ((0 : Int)).toNat = 0 from rfl] at qcr); (try rw [Addr.add_zero'] at qcr); replace qfI := eq_true qfI; replace qfK := eq_true qfK; go_wp2
   repeat (go_quiet (fail); try go_wp2)
   go_roundg k1
   case measure => have := HK1.out; omega
   case rel => exact ⟨(wrap64 ((wrap64 (Int.tdiv qbx (rd (qbg qat qcQ) 0))) * (wrap64 ((rd (qbg qat qcQ) 0) - 1)))), (wrap64 (qcQ + 1)), qav, qav, H', ⟨qcW⟩, ⟨by apply_rules only [HO_8.out, Kd.qdi, Kd.qdj, Kd.qeb]⟩, ⟨qan⟩⟩
def qdv.f (k : Nat) (a0 : Int) : Option (Int × Bool) := (qco.f a0).bind fun qat => (if qat = true then ((qb9.f k a0).bind fun qaR => (some (qaR, true))) else (some (0, false)))
theorem qdv.calls (k : Nat) (a0 : Int) (r1 : Int) (r2 : Bool) (w : World) (h : qdv.f k a0 = some (r1, r2)) :
  Calls Tryz.prog 132 #[.int .i64 a0] w fun e w' => e = .returned (.tuple #[.int .i64 r1, .bool r2]) ∧ Below w.heap.size w w' := by
 have HB := br_ w; have H : ((qco.f a0).bind fun qat => (if qat = true then ((qb9.f k a0).bind fun qaR => (some (qaR, true))) else (some (0, false)))) = some (r1, r2) := h; clear h; obtain ⟨qat, A2, H⟩ := qay H; (try dsimp only at H); by_cases c3 : qat = true
 ·subst c3; rw [if_pos rfl] at H; obtain ⟨qaR, A4, H⟩ := qay H; (try dsimp only at H); obtain ⟨rfl, rfl⟩ := qdF H; go_enter Tryz.func132, Tryz.ntmps132
  go_wp2_with (first | (refine gl_ 5 Tryz.func192 #[.int .i64 a0] rfl qbK ?_; (with_reducible refine (qco.calls a0 true _ A2.out).mono ?_); rintro e w' ⟨rfl, ⟨nd, rfl⟩⟩; refine ⟨_, rfl, ?_⟩) | (refine gl_ 8 Tryz.func194 #[.int .i64 a0] rfl qbK ?_; (with_reducible refine (qb9.calls k a0 qaR _ A4.out).mono ?_); rintro e w5 ⟨rfl, hb⟩; refine ⟨_, rfl, ?_⟩; replace HB := HB.mw hb; (try clear hb)))
  go_ret2
  exact ⟨qcf, qan⟩
 replace c3 := Bool.eq_false_iff.mpr c3; subst c3; rw [if_neg ff_] at H; obtain ⟨rfl, rfl⟩ := qdF H; go_enter Tryz.func132, Tryz.ntmps132
 go_wp2_with (first | (refine gl_ 5 Tryz.func192 #[.int .i64 a0] rfl qbK ?_; (with_reducible refine (qco.calls a0 false _ A2.out).mono ?_); rintro e w' ⟨rfl, ⟨nd, rfl⟩⟩; refine ⟨_, rfl, ?_⟩))
 go_ret2
 exact ⟨qcf, qan⟩
def qbO.l0 : Nat → List (qac) → Int → ByteArray → Int → Option (ByteArray)
 | 0, _, _, _, _ => none
 | k + 1, x0, x1, x5, x6 => if x6 ≤ x1 then ((qcT.f x0 x6).bind fun qat => (if qat = true then (if x5.size + 1 ≤ 9223372036854775807 then (qbO.l0 k x0 x1 (x5 ++ (⟨#[111]⟩ : ByteArray)) (wrap64 (x6 + 1))) else (none)) else (if x5.size + 1 ≤ 9223372036854775807 then (qbO.l0 k x0 x1 (x5 ++ (⟨#[120]⟩ : ByteArray)) (wrap64 (x6 + 1))) else (none)))) else (some x5)
def qbO.f (k : Nat) (l0 : List (qac)) (a1 : Int) : Option (ByteArray) := qbO.l0 k l0 a1 (⟨#[]⟩ : ByteArray) 1
theorem qbO.calls (k : Nat) (A0 : Option Addr) (c0 : Nat) (l0 : List (qac)) (a1 : Int) (r : ByteArray) (w : World) (hr0 : Kd.C qaL w A0 l0.length l0) (hc0 : l0.length ≤ c0) (h : qbO.f k l0 a1 = some r) :
  Calls Tryz.prog 195 #[.slice A0 l0.length c0, .int .i64 a1] w fun e w' => e = .returned (.string r) ∧ Below w.heap.size w w' := by
 have HR0 := ak_ hr0; have HC0 := ak_ hc0; clear hr0 hc0; have HB := br_ w; have H : (qbO.l0 k l0 a1 (⟨#[]⟩ : ByteArray) 1) = some r := h; clear h; have H' := ak_ H; clear H; go_enter Tryz.func195, Tryz.ntmps195; go_wp2
 go_loopg [5, 6] k (fun kq v5 v6 w' => ∃ (qcn : ByteArray) (qdl : Int), v5 = .string qcn ∧ v6 = .int .i64 qdl ∧ qag (qbO.l0 kq l0 a1 qcn qdl = some r) ∧ qag (kq ≤ k) ∧ qag (Below w.heap.size w w'))
 case atStart => exact ⟨((⟨#[]⟩ : ByteArray)), (1), qav, qav, H', ⟨Nat.le_refl _⟩, ⟨qan⟩⟩
 case round =>
  clear H'; obtain ⟨qcn, qdl, rfl, rfl, HA, HK1, HB⟩ := hrel
  cases gk with
  | zero => exact absurd HA.out (by simp [qbO.l0])
  | succ k1 =>
   have H := HA.out; clear HA; simp only [qbO.l0] at H; by_cases c3 : qdl ≤ a1; rotate_left
   ·rw [if_neg c3] at H; have qfk := decide_eq_false c3; clear c3; obtain rfl := sj_ H; go_wp2
    go_ret
    exact ⟨qcf, qan⟩
   rw [if_pos c3] at H; have qfk := decide_eq_true c3; clear c3; obtain ⟨qat, A4, H⟩ := qay H; (try dsimp only at H); by_cases c5 : qat = true
   ·subst c5; rw [if_pos rfl] at H; obtain ⟨c6, H⟩ := qck H; have qgk := eq_true c6; have qoq := decide_eq_true c6
    try have c6b2 : (9223372036854775807 < qcn.size + 1) = False := eq_false (Nat.not_lt.2 c6)
    have H' := ak_ H; clear H
    go_wp2_with (first | (refine gl_ 14 Tryz.func199 #[.slice A0 l0.length c0, .int .i64 qdl] rfl qbK ?_; (with_reducible refine (qcT.calls _ _ l0 qdl true _ ?qaA ?qaB A4.out).mono ?_); (case qaA => exact qha); (case qaB => exact qb5); rintro e w7 ⟨rfl, hb⟩; refine ⟨_, rfl, ?_⟩; replace HB := HB.mw hb; (try clear hb)))
    go_roundg k1
    case measure => have := HK1.out; omega
    case rel => exact ⟨(qcn ++ (⟨#[111]⟩ : ByteArray)), (wrap64 (qdl + 1)), qav, qav, H', ⟨qcW⟩, ⟨qan⟩⟩
   replace c5 := Bool.eq_false_iff.mpr c5; subst c5; rw [if_neg ff_] at H; obtain ⟨c8, H⟩ := qck H; have qm4 := eq_true c8; have c8b1 := decide_eq_true c8
   try have c8b2 : (9223372036854775807 < qcn.size + 1) = False := eq_false (Nat.not_lt.2 c8)
   have H' := ak_ H; clear H
   go_wp2_with (first | (refine gl_ 14 Tryz.func199 #[.slice A0 l0.length c0, .int .i64 qdl] rfl qbK ?_; (with_reducible refine (qcT.calls _ _ l0 qdl false _ ?qaA ?qaB A4.out).mono ?_); (case qaA => exact qha); (case qaB => exact qb5); rintro e w9 ⟨rfl, hb⟩; refine ⟨_, rfl, ?_⟩; replace HB := HB.mw hb; (try clear hb)))
   go_roundg k1
   case measure => have := HK1.out; omega
   case rel => exact ⟨(qcn ++ (⟨#[120]⟩ : ByteArray)), (wrap64 (qdl + 1)), qav, qav, H', ⟨qcW⟩, ⟨qan⟩⟩
def qdu.f (k : Nat) (l0 : List (qac)) (a1 : Int) : Option (ByteArray × Bool) := (qbc.f l0).bind fun qat => (if qat = true then (if a1 < 1 then (some ((⟨#[]⟩ : ByteArray), false)) else (if a1 > 48 then (some ((⟨#[]⟩ : ByteArray), false)) else ((qbO.f k l0 a1).bind fun qaR => (some (qaR, true))))) else (some ((⟨#[]⟩ : ByteArray), false)))
theorem qdu.calls (k : Nat) (A0 : Option Addr) (c0 : Nat) (l0 : List (qac)) (a1 : Int) (r1 : ByteArray) (r2 : Bool) (w : World) (hr0 : Kd.C qaL w A0 l0.length l0) (hc0 : l0.length ≤ c0) (h : qdu.f k l0 a1 = some (r1, r2)) :
  Calls Tryz.prog 133 #[.slice A0 l0.length c0, .int .i64 a1] w fun e w' => e = .returned (.tuple #[.string r1, .bool r2]) ∧ Below w.heap.size w w' := by
 have HR0 := ak_ hr0; have HC0 := ak_ hc0; clear hr0 hc0; have HB := br_ w; have H : ((qbc.f l0).bind fun qat => (if qat = true then (if a1 < 1 then (some ((⟨#[]⟩ : ByteArray), false)) else (if a1 > 48 then (some ((⟨#[]⟩ : ByteArray), false)) else ((qbO.f k l0 a1).bind fun qaR => (some (qaR, true))))) else (some ((⟨#[]⟩ : ByteArray), false)))) = some (r1, r2) := h; clear h; obtain ⟨qat, A3, H⟩ := qay H; (try dsimp only at H); by_cases c4 : qat = true; rotate_left
 ·replace c4 := Bool.eq_false_iff.mpr c4; subst c4; rw [if_neg ff_] at H; obtain ⟨rfl, rfl⟩ := qdF H; go_enter Tryz.func133, Tryz.ntmps133
  go_wp2_with (first | (refine gl_ 7 Tryz.func53 #[.slice A0 l0.length c0] rfl qbK ?_; (with_reducible refine (qbc.calls _ _ l0 false _ ?qaA ?qaB A3.out).mono ?_); (case qaA => exact qfN); (case qaB => exact qb5); rintro e w12 ⟨rfl, hb⟩; refine ⟨_, rfl, ?_⟩; replace HB := HB.mw hb; (try clear hb)))
  go_ret2
  exact ⟨qcf, qan⟩
 subst c4; rw [if_pos rfl] at H; by_cases c5 : a1 < 1
 ·rw [if_pos c5] at H; have qgJ := decide_eq_true c5; clear c5; obtain ⟨rfl, rfl⟩ := qdF H; go_enter Tryz.func133, Tryz.ntmps133
  go_wp2_with (first | (refine gl_ 7 Tryz.func53 #[.slice A0 l0.length c0] rfl qbK ?_; (with_reducible refine (qbc.calls _ _ l0 true _ ?qaA ?qaB A3.out).mono ?_); (case qaA => exact qfN); (case qaB => exact qb5); rintro e w6 ⟨rfl, hb⟩; refine ⟨_, rfl, ?_⟩; replace HB := HB.mw hb; (try clear hb)))
  go_ret2
  exact ⟨qcf, qan⟩
 rw [if_neg c5] at H; have qgJ := decide_eq_false c5; clear c5; by_cases c7 : a1 > 48
 ·rw [if_pos c7] at H; have qgU : decide (48 < a1) = true := decide_eq_true c7; clear c7; obtain ⟨rfl, rfl⟩ := qdF H; go_enter Tryz.func133, Tryz.ntmps133
  go_wp2_with (first | (refine gl_ 7 Tryz.func53 #[.slice A0 l0.length c0] rfl qbK ?_; (with_reducible refine (qbc.calls _ _ l0 true _ ?qaA ?qaB A3.out).mono ?_); (case qaA => exact qfN); (case qaB => exact qb5); rintro e w8 ⟨rfl, hb⟩; refine ⟨_, rfl, ?_⟩; replace HB := HB.mw hb; (try clear hb)))
  go_ret2
  exact ⟨qcf, qan⟩
 rw [if_neg c7] at H; have qgU : decide (48 < a1) = false := decide_eq_false c7; clear c7; obtain ⟨qaR, A9, H⟩ := qay H; (try dsimp only at H); obtain ⟨rfl, rfl⟩ := qdF H; go_enter Tryz.func133, Tryz.ntmps133
 go_wp2_with (first | (refine gl_ 7 Tryz.func53 #[.slice A0 l0.length c0] rfl qbK ?_; (with_reducible refine (qbc.calls _ _ l0 true _ ?qaA ?qaB A3.out).mono ?_); (case qaA => exact qfN); (case qaB => exact qb5); rintro e w10 ⟨rfl, hb⟩; refine ⟨_, rfl, ?_⟩; replace HB := HB.mw hb; (try clear hb)) | (refine gl_ 19 Tryz.func195 #[.slice A0 l0.length c0, .int .i64 a1] rfl qbK ?_; (with_reducible refine (qbO.calls k _ _ l0 a1 qaR _ ?qaA ?qaB A9.out).mono ?_); (case qaA => exact qha); (case qaB => exact qb5); rintro e w11 ⟨rfl, hb⟩; refine ⟨_, rfl, ?_⟩; replace HB := HB.mw hb; (try clear hb)))
 go_ret2
 exact ⟨qcf, qan⟩
def qe9.f (a0 : Int) : Option (Bool) := if a0 ≥ 0 then (some (decide (a0 ≤ 600))) else (some false)
theorem qe9.calls (a0 : Int) (r : Bool) (w : World) (h : qe9.f a0 = some r) :
  Calls Tryz.prog 66 #[.int .i64 a0] w fun e w' => e = .returned (.bool r) ∧ qcN w w' := by
 have H : (if a0 ≥ 0 then (some (decide (a0 ≤ 600))) else (some false)) = some r := h; clear h; by_cases c2 : a0 ≥ 0
 ·rw [if_pos c2] at H; have qfr : decide (0 ≤ a0) = true := decide_eq_true c2; clear c2; obtain rfl := sj_ H; go_enter Tryz.func66, Tryz.ntmps66; go_wp2
  go_ret
  exact ⟨qav, qcO⟩
 rw [if_neg c2] at H; have qfr : decide (0 ≤ a0) = false := decide_eq_false c2; clear c2; obtain rfl := sj_ H; go_enter Tryz.func66, Tryz.ntmps66; go_wp2
 go_ret
 exact ⟨qav, qcO⟩
def qbV.f (a0 : ByteArray) (a1 : Bool) : Option (ByteArray) := if a1 = true then (some a0) else (some (⟨#[110, 111]⟩ : ByteArray))
theorem qbV.calls (a0 : ByteArray) (a1 : Bool) (r : ByteArray) (w : World) (h : qbV.f a0 a1 = some r) :
  Calls Tryz.prog 76 #[.string a0, .bool a1] w fun e w' => e = .returned (.string r) ∧ qcN w w' := by
 have H : (if a1 = true then (some a0) else (some (⟨#[110, 111]⟩ : ByteArray))) = some r := h; clear h; by_cases c3 : a1 = true
 ·subst c3; rw [if_pos rfl] at H; obtain rfl := sj_ H; go_enter Tryz.func76, Tryz.ntmps76; go_wp2
  go_ret
  exact ⟨qav, qcO⟩
 replace c3 := Bool.eq_false_iff.mpr c3; subst c3; rw [if_neg ff_] at H; obtain rfl := sj_ H; go_enter Tryz.func76, Tryz.ntmps76; go_wp2
 go_ret
 exact ⟨qav, qcO⟩
def qcj.f (k : Nat) (rs : List qac) (mo : Int) (c : Cmd) (n : Int) : Option (List qac × Int × ByteArray) := match c with
  | .cDrop => if n ≥ (rs.length : Int) then some (rs, mo, (⟨#[110, 111]⟩ : ByteArray)) else (qcA.f rs n (wrap64 (n + 1))).bind fun xs => (qe8 k rs xs true).bind fun p => some (p.1, mo, p.2)
  | .cMost => (qe9.f n).bind fun t => if t = true then ((qaF.f k rs).bind fun s => some (rs, n, s)) else some (rs, mo, (⟨#[110, 111]⟩ : ByteArray))
  | .cMove => (qaE.f k rs n).bind fun q => (qe8 k rs q.1 q.2).bind fun p => some (p.1, mo, p.2)
  | .cPrimes => (qcB.f k n).bind fun q => (qe8 k rs q.1 q.2).bind fun p => some (p.1, mo, p.2)
  | .cRank => (qbB.f k rs n).bind fun q => (qbm.f q.1).bind fun s => (qbV.f s q.2).bind fun z => some (rs, mo, z)
  | .cFactors => (qcJ.f k n).bind fun q => (qbN.f k q.1).bind fun s => (qbV.f s q.2).bind fun z => some (rs, mo, z)
  | .cPi => (qc0.f k n).bind fun q => (qbm.f q.1).bind fun s => (qbV.f s q.2).bind fun z => some (rs, mo, z)
  | .cDivisors => (qc9.f k n).bind fun q => (qbp.f k q.1).bind fun s => (qbV.f s q.2).bind fun z => some (rs, mo, z)
  | .cTotient => (qdv.f k n).bind fun q => (qbm.f q.1).bind fun s => (qbV.f s q.2).bind fun z => some (rs, mo, z)
  | .cPattern => (qdu.f k rs n).bind fun q => (qbV.f q.1 q.2).bind fun z => some (rs, mo, z)
  | _ => none
theorem qlb (k base g : Nat) (rs : List qac) (mo : Int) (c : Cmd) (n : Int) (rs' : List qac) (mo' : Int) (txt : ByteArray) (w : World) (hbase : base ≤ w.heap.size) (hD : qfD w base g rs mo) (hl : rs.length < 8796093022208) (hG : qbb w) (h : qcj.f k rs mo c n = some (rs', mo', txt)) :
    Calls Tryz.prog 73 #[.pointer (some ⟨g, 0, none⟩), .string c.word, .int .i64 n] w fun e w' => e = .returned (.string txt) ∧ qfD w' base g rs' mo' ∧ qcv w w' g := by
  obtain ⟨A0, c0, hC, hO⟩ := hD; have HCw := ak_ hC; have HOw := ak_ hO; have HC := ak_ hC; have HO := ak_ hO; have HG := ak_ hG; have HBS := ak_ hbase; have HB := br_ w; have HLn := ak_ hl; have SM := ak_ (show ∀ w' : World, Below w.heap.size w w' → qfD w' base g rs mo ∧ qcv w w' g from fun w' h_ => ⟨⟨A0, c0, qar HCw.out h_, Kd.qbv HOw.out h_⟩, qcv.qbS h_ g⟩); obtain ⟨qqH, qqI, qqB, qqC⟩ := qbG HC.out; clear hC hO hG hbase hl; unfold qcj.f at h
  match c, h with
  | .cDrop, h =>
    simp only [Cmd.word, Cmd.bytes]; dsimp only at h; by_cases hn : n ≥ (rs.length : Int)
    ·rw [if_pos hn] at h; obtain ⟨rfl, rfl, rfl⟩ := qfJ h; have hnb : decide ((rs.length : Int) ≤ n) = true := decide_eq_true hn; clear hn; go_enter Tryz.func73, Tryz.ntmps73; go_wp2
     go_ret
     exact ⟨rfl, SM.out _ qan⟩
    rw [if_neg hn] at h; obtain ⟨xs, A1, h⟩ := qay h; (try dsimp only at h); obtain ⟨⟨rs1, qje⟩, A2, h⟩ := qay h; (try dsimp only at h); obtain ⟨rfl, rfl, rfl⟩ := qfJ h; have hnb : decide ((rs.length : Int) ≤ n) = false := decide_eq_false hn; clear hn; go_enter Tryz.func73, Tryz.ntmps73
    go_wp2_with (first | ((with_reducible refine qal (N := 28) rfl ?_); refine li_ qaL 85 28 rfl (xs := ([] : List qac)) qbe ?_; intro vl28 wl ho hb; have HV := ak_ (Kd.qax ho (qab qan)); replace HB := HB.mw hb; clear hb ho; clear HC HO; have HC := ak_ (qar HCw.out HB.out); have HO := ak_ (Kd.qbv HOw.out HB.out); obtain ⟨qjn, qjo, qjl, qjm⟩ := qbG HC.out) | ((with_reducible refine qa2 (b := .append) (xs := #[.tmp 28, .tmp 32]) rfl ?_); at_builtin; refine Kd.qdK qaL (w0 := w) w.heap.size rfl (.tmp 28) (.tmp 32) 26 85 (.agg #[(.int .i64 0), (.int .i64 0)]) 16 rfl Tryz.underlying26 qcY rfl (by decide) (by omega) vl28 [] rs _ _ _ (fun _ => True) (fun _ => False) rfl rfl ?aO ?aR (fun _ _ h => h) (fun _ h => h.elim) ?aF ?aB ?aS ?aL ?_; (case aR => exact qjp); (case aB => exact qan); (case aF => exact (fun _ _ => trivial)); (case aO => exact (by apply_rules only [HV.out, Kd.qap, Kd.qaq, Kd.qaw])); (case aS => exact (qab qan)); (case aL => have := HLn.out; simp only [List.length_nil]; omega); intro v33 w33 ho hb hg hat; rw [List.nil_append] at ho; have HX := ak_ ho; replace HB := ak_ (hb); clear HV; clear ho hb hg hat; obtain ⟨Ax, cx, ex⟩ := Kd.qaI HX.out; subst ex) | (refine gl_ 37 Tryz.func123 #[.slice Ax rs.length cx, .int .i64 n, .int .i64 (wrap64 (n + 1))] rfl qbZ ?_; (refine (qcA.own Ax cx w.heap.size rs n (wrap64 (n + 1)) xs _ (qab qan) qmP A1.out).mono ?_); rintro e w37 ⟨vx, rfl, hox, hg⟩; refine ⟨_, rfl, ?_⟩; have HX2 := ak_ hox; have hB2 := Below.grown qan hg (qab qan) (Kd.qfj qmP); clear HX HB; have HB := ak_ hB2; have HX := HX2; clear hox hg hB2 HX2; obtain ⟨Ax2, cx2, ex⟩ := Kd.qaI HX.out; subst ex) | (refine gl_ 38 Tryz.func71 #[.pointer (some ⟨g, 0, none⟩), .slice Ax2 xs.length cx2, .bool true] rfl qbZ ?_; (refine (qeQ k base g Ax2 cx2 xs true rs mo rs1 qje _ (SM.out _ qan).1 (Kd.qax qmP HBS.out) A2.out).mono ?_); rintro e w9 ⟨rfl, hD, hk⟩; refine ⟨_, rfl, ?_⟩; have HD := ak_ hD; have HKb := ak_ (qcv.trans (qcv.qbS qan g) hk); clear hD hk))
    go_ret
    exact ⟨rfl, HD.out, HKb.out⟩
  | .cMost, h =>
    simp only [Cmd.word, Cmd.bytes]; dsimp only at h; obtain ⟨t, A1, h⟩ := qay h
    cases t with
    | false =>
      rw [if_neg (by decide)] at h; obtain ⟨rfl, rfl, rfl⟩ := qfJ h; go_enter Tryz.func73, Tryz.ntmps73
      go_wp2_with (first | (refine gl_ 42 Tryz.func66 #[.int .i64 n] rfl qbZ ?_; (refine ((qe9.calls n false _ A1.out)).mono ?_); rintro e w4 ⟨rfl, hd_⟩; refine ⟨_, rfl, ?_⟩; have hb := hd_.below; clear hd_; replace HB := ak_ (qaa qan hb); clear HC HO; have HC := ak_ (qar HCw.out HB.out); have HO := ak_ (Kd.qbv HOw.out HB.out); obtain ⟨qsB, qsC, qsf, qsg⟩ := qbG HC.out; clear hb))
      go_ret
      exact ⟨rfl, SM.out _ qan⟩
    | true =>
      rw [if_pos rfl] at h; obtain ⟨s, A2, h⟩ := qay h; obtain ⟨rfl, rfl, rfl⟩ := qfJ h; go_enter Tryz.func73, Tryz.ntmps73
      go_wp2_with (first | (refine gl_ 42 Tryz.func66 #[.int .i64 n] rfl qbZ ?_; (refine ((qe9.calls n true _ A1.out)).mono ?_); rintro e w4 ⟨rfl, hd_⟩; refine ⟨_, rfl, ?_⟩; have hb := hd_.below; clear hd_; replace HB := ak_ (qaa qan hb); clear HC HO; have HC := ak_ (qar HCw.out HB.out); have HO := ak_ (Kd.qbv HOw.out HB.out); obtain ⟨qsB, qsC, qsf, qsg⟩ := qbG HC.out; clear hb) | (refine gl_ 52 Tryz.func54 #[.slice A0 rs.length c0] rfl qbZ ?_; (refine (qaF.calls k _ _ rs s _ k22_ (Kd.qao HO.out).2.1 A2.out).mono ?_); rintro e wb ⟨rfl, hb⟩; refine ⟨_, rfl, ?_⟩; have HB2 := ak_ hb; clear hb))
      go_ret
      exact ⟨rfl, ⟨A0, c0, qar (qbl qqO 1 _ rfl) HB2.out, Kd.qbv (Kd.qgQ k94_ qqO (by decide) 1 _) HB2.out⟩, (qcv.set_ (qcv.qbS qan g) 1 _).trans (qcv.qbS HB2.out g)⟩
  | .cMove, h =>
    simp only [Cmd.word, Cmd.bytes]; dsimp only at h; obtain ⟨⟨xs, ok⟩, A1, h⟩ := qay h; (try dsimp only at h); obtain ⟨⟨rs1, qje⟩, A2, h⟩ := qay h; (try dsimp only at h); obtain ⟨rfl, rfl, rfl⟩ := qfJ h; go_enter Tryz.func73, Tryz.ntmps73
    go_wp2_with (first | (refine gl_ 61 Tryz.func124 #[.slice A0 rs.length c0, .int .i64 n] rfl qbZ ?_; (refine (qaE.calls k _ _ rs n xs ok _ qjp (Kd.qao HO.out).2.1 A1.out).mono ?_); rintro e w2 ⟨vx, rfl, hox, hb⟩; refine ⟨_, rfl, ?_⟩; have HX := ak_ (Kd.qax hox (Nat.le_trans HBS.out (qab qan))); clear hox; obtain ⟨Ax, cx, ex⟩ := Kd.qaI HX.out; subst ex; replace HB := ak_ (qaa qan hb); clear hb) | (refine gl_ 64 Tryz.func71 #[.pointer (some ⟨g, 0, none⟩), .slice Ax xs.length cx, .bool ok] rfl qbZ ?_; (refine (qeQ k base g Ax cx xs ok rs mo rs1 qje _ (SM.out _ qan).1 qmP A2.out).mono ?_); rintro e w9 ⟨rfl, hD, hk⟩; refine ⟨_, rfl, ?_⟩; have HD := ak_ hD; have HKb := ak_ (qcv.trans (qcv.qbS qan g) hk); clear hD hk))
    go_ret
    exact ⟨rfl, HD.out, HKb.out⟩
  | .cPrimes, h =>
    simp only [Cmd.word, Cmd.bytes]; dsimp only at h; obtain ⟨⟨xs, ok⟩, A1, h⟩ := qay h; (try dsimp only at h); obtain ⟨⟨rs1, qje⟩, A2, h⟩ := qay h; (try dsimp only at h); obtain ⟨rfl, rfl, rfl⟩ := qfJ h; go_enter Tryz.func73, Tryz.ntmps73
    go_wp2_with (first | (refine gl_ 69 Tryz.func125 #[.int .i64 n] rfl qbZ ?_; (refine (qcB.calls k n xs ok _ A1.out).mono ?_); rintro e w2 ⟨vx, rfl, hox, hb⟩; refine ⟨_, rfl, ?_⟩; have HX := ak_ (Kd.qax hox (Nat.le_trans HBS.out (qab qan))); clear hox; obtain ⟨Ax, cx, ex⟩ := Kd.qaI HX.out; subst ex; replace HB := ak_ (qaa qan hb); clear hb) | (refine gl_ 72 Tryz.func71 #[.pointer (some ⟨g, 0, none⟩), .slice Ax xs.length cx, .bool ok] rfl qbZ ?_; (refine (qeQ k base g Ax cx xs ok rs mo rs1 qje _ (SM.out _ qan).1 qmP A2.out).mono ?_); rintro e w9 ⟨rfl, hD, hk⟩; refine ⟨_, rfl, ?_⟩; have HD := ak_ hD; have HKb := ak_ (qcv.trans (qcv.qbS qan g) hk); clear hD hk))
    go_ret
    exact ⟨rfl, HD.out, HKb.out⟩
  | .cRank, h =>
    simp only [Cmd.word, Cmd.bytes]; dsimp only at h; obtain ⟨⟨v, ok⟩, A1, h⟩ := qay h; (try dsimp only at h); obtain ⟨s, A2, h⟩ := qay h; (try dsimp only at h); obtain ⟨z, A3, h⟩ := qay h; (try dsimp only at h); obtain ⟨rfl, rfl, rfl⟩ := qfJ h; go_enter Tryz.func73, Tryz.ntmps73
    go_wp2_with (first | (refine gl_ 81 Tryz.func126 #[.slice A0 rs.length c0, .int .i64 n] rfl qbZ ?_; (refine (qbB.calls k _ _ rs n v ok _ qjp (Kd.qao HO.out).2.1 A1.out).mono ?_); rintro e w2 ⟨rfl, hb⟩; refine ⟨_, rfl, ?_⟩; replace HB := ak_ (qaa qan hb); clear hb) | (refine gl_ 85 Tryz.func87 #[.int .i64 v] rfl qbZ ?_; (refine (qbm.calls v s _ A2.out (qbb.below HG.out qan)).mono ?_); rintro e w5 ⟨rfl, hb⟩; refine ⟨_, rfl, ?_⟩; replace HB := ak_ (qaa qan hb); clear hb) | (refine gl_ 87 Tryz.func76 #[.string s, .bool ok] rfl qbZ ?_; (refine ((qbV.calls s ok z _ A3.out)).mono ?_); rintro e w8 ⟨rfl, hd_⟩; refine ⟨_, rfl, ?_⟩; have hb := hd_.below; clear hd_; replace HB := ak_ (qaa qan hb); clear hb))
    go_ret
    exact ⟨rfl, SM.out _ qan⟩
  | .cFactors, h =>
    simp only [Cmd.word, Cmd.bytes]; dsimp only at h; obtain ⟨⟨xs, ok⟩, A1, h⟩ := qay h; (try dsimp only at h); obtain ⟨s, A2, h⟩ := qay h; (try dsimp only at h); obtain ⟨z, A3, h⟩ := qay h; (try dsimp only at h); obtain ⟨rfl, rfl, rfl⟩ := qfJ h; go_enter Tryz.func73, Tryz.ntmps73
    go_wp2_with (first | (refine gl_ 92 Tryz.func127 #[.int .i64 n] rfl qbZ ?_; (refine (qcJ.calls k n xs ok _ A1.out).mono ?_); rintro e w2 ⟨vx, rfl, hox, hb⟩; refine ⟨_, rfl, ?_⟩; have HX := ak_ (Kd.qdV hox (Nat.le_trans HBS.out (qab qan))); clear hox; obtain ⟨Ax, cx, ex⟩ := Kd.qdL HX.out; subst ex; replace HB := ak_ (qaa qan hb); clear hb) | (refine gl_ 96 Tryz.func128 #[.slice Ax xs.length cx] rfl qbZ ?_; (refine (qbN.calls k _ _ xs s _ (by repeat (first | exact (Kd.qeG HX.out).2.2 | (with_reducible refine Kd.C_alloc ?_ _) | (with_reducible refine Kd.C_drewN ?_ _) | (with_reducible refine Kd.C_drew ?_))) (Kd.qeG HX.out).2.1 A2.out (qbb.below HG.out qan)).mono ?_); rintro e w5 ⟨rfl, hb⟩; refine ⟨_, rfl, ?_⟩; replace HB := ak_ (qaa qan hb); clear hb) | (refine gl_ 98 Tryz.func76 #[.string s, .bool ok] rfl qbZ ?_; (refine ((qbV.calls s ok z _ A3.out)).mono ?_); rintro e w8 ⟨rfl, hd_⟩; refine ⟨_, rfl, ?_⟩; have hb := hd_.below; clear hd_; replace HB := ak_ (qaa qan hb); clear hb))
    go_ret
    exact ⟨rfl, SM.out _ qan⟩
  | .cPi, h =>
    simp only [Cmd.word, Cmd.bytes]; dsimp only at h; obtain ⟨⟨v, ok⟩, A1, h⟩ := qay h; (try dsimp only at h); obtain ⟨s, A2, h⟩ := qay h; (try dsimp only at h); obtain ⟨z, A3, h⟩ := qay h; (try dsimp only at h); obtain ⟨rfl, rfl, rfl⟩ := qfJ h; go_enter Tryz.func73, Tryz.ntmps73
    go_wp2_with (first | (refine gl_ 103 Tryz.func129 #[.int .i64 n] rfl qbZ ?_; (refine (qc0.calls k n v ok _ A1.out).mono ?_); rintro e w2 ⟨rfl, hb⟩; refine ⟨_, rfl, ?_⟩; replace HB := ak_ (qaa qan hb); clear hb) | (refine gl_ 107 Tryz.func87 #[.int .i64 v] rfl qbZ ?_; (refine (qbm.calls v s _ A2.out (qbb.below HG.out qan)).mono ?_); rintro e w5 ⟨rfl, hb⟩; refine ⟨_, rfl, ?_⟩; replace HB := ak_ (qaa qan hb); clear hb) | (refine gl_ 109 Tryz.func76 #[.string s, .bool ok] rfl qbZ ?_; (refine ((qbV.calls s ok z _ A3.out)).mono ?_); rintro e w8 ⟨rfl, hd_⟩; refine ⟨_, rfl, ?_⟩; have hb := hd_.below; clear hd_; replace HB := ak_ (qaa qan hb); clear hb))
    go_ret
    exact ⟨rfl, SM.out _ qan⟩
  | .cDivisors, h =>
    simp only [Cmd.word, Cmd.bytes]; dsimp only at h; obtain ⟨⟨xs, ok⟩, A1, h⟩ := qay h; (try dsimp only at h); obtain ⟨s, A2, h⟩ := qay h; (try dsimp only at h); obtain ⟨z, A3, h⟩ := qay h; (try dsimp only at h); obtain ⟨rfl, rfl, rfl⟩ := qfJ h; go_enter Tryz.func73, Tryz.ntmps73
    go_wp2_with (first | (refine gl_ 114 Tryz.func130 #[.int .i64 n] rfl qbZ ?_; (refine (qc9.calls k n xs ok _ A1.out).mono ?_); rintro e w2 ⟨vx, rfl, hox, hb⟩; refine ⟨_, rfl, ?_⟩; have HX := ak_ (Kd.qax hox (Nat.le_trans HBS.out (qab qan))); clear hox; obtain ⟨Ax, cx, ex⟩ := Kd.qaI HX.out; subst ex; replace HB := ak_ (qaa qan hb); clear hb) | (refine gl_ 118 Tryz.func131 #[.slice Ax xs.length cx] rfl qbZ ?_; (refine (qbp.calls k _ _ xs s _ qqM (Kd.qao HX.out).2.1 A2.out (qbb.below HG.out qan)).mono ?_); rintro e w5 ⟨rfl, hb⟩; refine ⟨_, rfl, ?_⟩; replace HB := ak_ (qaa qan hb); clear hb) | (refine gl_ 120 Tryz.func76 #[.string s, .bool ok] rfl qbZ ?_; (refine ((qbV.calls s ok z _ A3.out)).mono ?_); rintro e w8 ⟨rfl, hd_⟩; refine ⟨_, rfl, ?_⟩; have hb := hd_.below; clear hd_; replace HB := ak_ (qaa qan hb); clear hb))
    go_ret
    exact ⟨rfl, SM.out _ qan⟩
  | .cTotient, h =>
    simp only [Cmd.word, Cmd.bytes]; dsimp only at h; obtain ⟨⟨v, ok⟩, A1, h⟩ := qay h; (try dsimp only at h); obtain ⟨s, A2, h⟩ := qay h; (try dsimp only at h); obtain ⟨z, A3, h⟩ := qay h; (try dsimp only at h); obtain ⟨rfl, rfl, rfl⟩ := qfJ h; go_enter Tryz.func73, Tryz.ntmps73
    go_wp2_with (first | (refine gl_ 125 Tryz.func132 #[.int .i64 n] rfl qbZ ?_; (refine (qdv.calls k n v ok _ A1.out).mono ?_); rintro e w2 ⟨rfl, hb⟩; refine ⟨_, rfl, ?_⟩; replace HB := ak_ (qaa qan hb); clear hb) | (refine gl_ 129 Tryz.func87 #[.int .i64 v] rfl qbZ ?_; (refine (qbm.calls v s _ A2.out (qbb.below HG.out qan)).mono ?_); rintro e w5 ⟨rfl, hb⟩; refine ⟨_, rfl, ?_⟩; replace HB := ak_ (qaa qan hb); clear hb) | (refine gl_ 131 Tryz.func76 #[.string s, .bool ok] rfl qbZ ?_; (refine ((qbV.calls s ok z _ A3.out)).mono ?_); rintro e w8 ⟨rfl, hd_⟩; refine ⟨_, rfl, ?_⟩; have hb := hd_.below; clear hd_; replace HB := ak_ (qaa qan hb); clear hb))
    go_ret
    exact ⟨rfl, SM.out _ qan⟩
  | .cPattern, h =>
    simp only [Cmd.word, Cmd.bytes]; dsimp only at h; obtain ⟨⟨s, ok⟩, A1, h⟩ := qay h; (try dsimp only at h); obtain ⟨z, A2, h⟩ := qay h; (try dsimp only at h); obtain ⟨rfl, rfl, rfl⟩ := qfJ h; go_enter Tryz.func73, Tryz.ntmps73
    go_wp2_with (first | (refine gl_ 137 Tryz.func133 #[.slice A0 rs.length c0, .int .i64 n] rfl qbZ ?_; (refine (qdu.calls k _ _ rs n s ok _ qjp (Kd.qao HO.out).2.1 A1.out).mono ?_); rintro e w2 ⟨rfl, hb⟩; refine ⟨_, rfl, ?_⟩; replace HB := ak_ (qaa qan hb); clear hb) | (refine gl_ 140 Tryz.func76 #[.string s, .bool ok] rfl qbZ ?_; (refine ((qbV.calls s ok z _ A2.out)).mono ?_); rintro e w8 ⟨rfl, hd_⟩; refine ⟨_, rfl, ?_⟩; have hb := hd_.below; clear hd_; replace HB := ak_ (qaa qan hb); clear hb))
    go_ret
    exact ⟨rfl, SM.out _ qan⟩
mutual
def qaZ.l0 : Nat → ByteArray → List (qac) → Int → Option ((List (qac)))
 | 0, _, _, _ => none
 | k + 1, x0, x3, x4 => if x4 ≤ 10 then (qaZ.l1 k x0 x3 x4 x4 0) else (some x3)
def qaZ.l1 : Nat → ByteArray → List (qac) → Int → Int → Int → Option ((List (qac)))
 | 0, _, _, _, _, _ => none
 | k + 1, x0, x3, x4, x13, x14 => if x14 < x13 then (qaZ.l2 k x0 x3 x4 x14 true x13 x14 (x0.size : Int) 0) else (qaZ.l0 k x0 x3 (wrap64 (x4 + 1)))
def qaZ.l2 : Nat → ByteArray → List (qac) → Int → Int → Bool → Int → Int → Int → Int → Option ((List (qac)))
 | 0, _, _, _, _, _, _, _, _, _ => none
 | k + 1, x0, x3, x4, x5, x6, x13, x14, x18, x19 => if x19 < x18 then (if x6 = true then (if 0 ≤ x19 then (if x19 < (x0.size : Int) then (if (bt x0 x19) = 111 then (if x4 = 0 then (none) else (qaZ.l2 k x0 x3 x4 x5 ((Int.tmod (wrap64 (x19 + 1)) x4) != x5) x13 x14 x18 (wrap64 (x19 + 1)))) else (qaZ.l2 k x0 x3 x4 x5 true x13 x14 x18 (wrap64 (x19 + 1)))) else (none)) else (none)) else (qaZ.l2 k x0 x3 x4 x5 false x13 x14 x18 (wrap64 (x19 + 1)))) else (if x6 = true then (if x3.length < 8796093022208 then (qaZ.l1 k x0 (x3 ++ [(⟨x4, x5⟩ : qac)]) x4 x13 (wrap64 (x14 + 1))) else (none)) else (qaZ.l1 k x0 x3 x4 x13 (wrap64 (x14 + 1))))
end
def qaZ.f (k : Nat) (a0 : ByteArray) : Option ((List (qac))) := qaZ.l0 k a0 (([] : List (qac))) 2
theorem qaZ.calls (k : Nat) (a0 : ByteArray) (r : List (qac)) (w : World) (h : qaZ.f k a0 = some r) :
  Calls Tryz.prog 235 #[.string a0] w fun e w' => ∃ v0_ : Value, e = .returned (v0_) ∧ Kd.R qaL 85 w' w.heap.size (fun _ => True) v0_ r ∧ Below w.heap.size w w' := by
 have qmM := Tryz.underlying85; have HB := br_ w; have H : (qaZ.l0 k a0 (([] : List (qac))) 2) = some r := h; clear h
 obtain ⟨qff, hy_⟩ : ∃ y_ : List (qac), y_ = (([] : List (qac))) := ⟨_, rfl⟩
 replace H : (qaZ.l0 k a0 qff 2) = some r := qe1; have qei := ak_ hy_; clear hy_; have H' := ak_ H; clear H; go_enter Tryz.func235, Tryz.ntmps235
 go_wp2_with (first | ((with_reducible refine qal (N := 8) rfl ?_); refine Kd.qhq qaL _ 85 ?hg (N := 8) ?hd (xs := ([] : List (qac))) (inner := []) (ok := fun _ => True) (okp := fun _ => True) ?hr ?hp (fun _ hk => hk) trivial (Below.refl _ _) (Nat.le_refl _) (by simp) ?_; (case hd => rfl); (case hg => rfl); (case hr => exact qbe); (case hp => exact (qef.none _ _)); intro qit w2 ho3 hb hg_ hnew_; clear hg_ hnew_; (first | rw [← qei.out] at ho3 | (simp only [Int.reduceToNat] at ho3; rw [← qei.out] at ho3)); have qc6 := ak_ (Kd.qax ho3 (qab qan)); replace HB := HB.mw hb; clear hb ho3))
 go_loopg [3, 4] k (fun kq v3 v4 w' => ∃ (qbx : List (qac)) (qcM : Int), v4 = .int .i64 qcM ∧ qag (qaZ.l0 kq a0 qbx qcM = some r) ∧ qag (kq ≤ k) ∧ qag (Kd.R qaL 85 w' w.heap.size (fun _ => True) v3 qbx) ∧ qag (Below w.heap.size w w'))
 case atStart => exact ⟨(qff), (2), qav, H', ⟨Nat.le_refl _⟩, ⟨qo0⟩, ⟨qan⟩⟩
 case round =>
  clear H'; obtain ⟨qbx, qcM, rfl, HA, HK1, qdq, HB⟩ := hrel
  cases gk with
  | zero => exact absurd HA.out (by simp [qaZ.l0])
  | succ k1 =>
   have H := HA.out; clear HA; simp only [qaZ.l0] at H; by_cases c4 : qcM ≤ 10; rotate_left
   ·rw [if_neg c4] at H; have qfx := decide_eq_false c4; clear c4; obtain rfl := sj_ H; go_wp2
    go_ret
    exact ⟨_, qcf, k64_, qan⟩
   rw [if_pos c4] at H; have qfx := decide_eq_true c4; clear c4; have H' := ak_ H; clear H; go_wp2
   go_loopg [3, 14] k1 (fun kq v3 v14 w' => ∃ (qgO : List (qac)) (qiN : Int), v14 = .int .i64 qiN ∧ qag (qaZ.l1 kq a0 qgO qcM qcM qiN = some r) ∧ qag (kq ≤ k1) ∧ qag (Kd.R qaL 85 w' w.heap.size (fun _ => True) v3 qgO) ∧ qag (Below w.heap.size w w'))
   case atStart => exact ⟨(qbx), (0), qav, H', ⟨Nat.le_refl _⟩, ⟨qhX⟩, ⟨qan⟩⟩
   case round =>
    clear H'; (try clear c4); (try clear qfx); obtain ⟨qgO, qiN, rfl, HA, HK2, qdq, HB⟩ := hrel
    cases gk with
    | zero => exact absurd HA.out (by simp [qaZ.l1])
    | succ k2 =>
     have H := HA.out; clear HA; simp only [qaZ.l1] at H; by_cases c5 : qiN < qcM; rotate_left
     ·rw [if_neg c5] at H; have qgJ := decide_eq_false c5; clear c5; have H' := ak_ H; clear H; go_wp2
      go_roundg k2
      case measure => have := HK1.out; have := HK2.out; omega
      case rel => exact ⟨(qgO), (wrap64 (qcM + 1)), qav, H', ⟨qmn⟩, ⟨qhX⟩, ⟨qan⟩⟩
     rw [if_pos c5] at H; have qgJ := decide_eq_true c5; clear c5; have H' := ak_ H; clear H; go_wp2
     go_loopg [6, 19] k2 (fun kq v6 v19 w' => ∃ (x6_3 : Bool) (qg7 : Int), v6 = .bool x6_3 ∧ v19 = .int .i64 qg7 ∧ qag (qaZ.l2 kq a0 qgO qcM qiN x6_3 qcM qiN (a0.size : Int) qg7 = some r) ∧ qag (kq ≤ k2) ∧ qag (Kd.R qaL 85 w' w.heap.size (fun _ => True) u3 qgO) ∧ qag (Below w.heap.size w w'))
     case atStart => exact ⟨(true), (0), qav, qav, H', ⟨Nat.le_refl _⟩, ⟨qhX⟩, ⟨qan⟩⟩
     case round =>
      clear H'; (try clear c4); (try clear qfx); (try clear c5); (try clear qgJ); obtain ⟨x6_3, qg7, rfl, rfl, HA, HK3, qdq, HB⟩ := hrel
      cases gk with
      | zero => exact absurd HA.out (by simp [qaZ.l2])
      | succ k3 =>
       have H := HA.out; clear HA; simp only [qaZ.l2] at H; by_cases c6 : qg7 < (a0.size : Int); rotate_left
       ·rw [if_neg c6] at H; have qgk := decide_eq_false c6; clear c6; by_cases c13 : x6_3 = true; rotate_left
        ·replace c13 := Bool.eq_false_iff.mpr c13; subst c13; rw [if_neg ff_] at H; have H' := ak_ H; clear H; go_wp2
         go_roundg k3
         case measure => have := HK1.out; have := HK2.out; have := HK3.out; omega
         case rel => exact ⟨(qgO), (wrap64 (qiN + 1)), qav, H', ⟨k99_⟩, ⟨qhX⟩, ⟨qan⟩⟩
        subst c13; rw [if_pos rfl] at H; obtain ⟨c14, H⟩ := qck H; have qob := ak_ c14; clear c14
        obtain ⟨qgF, hy_⟩ : ∃ y_ : List (qac), y_ = (qgO ++ [(⟨qcM, qiN⟩ : qac)]) := ⟨_, rfl⟩
        replace H : (qaZ.l1 k3 a0 qgF qcM qcM (wrap64 (qiN + 1))) = some r := qe1; have qiu := ak_ hy_; clear hy_; have H' := ak_ H; clear H
        go_wp2_with (first | ((with_reducible refine qa2 (b := .append) (xs := #[.tmp 39, .tmp 43]) rfl ?_); at_builtin; refine Kd.qcH qaL (w0 := w) w.heap.size rfl (.tmp 39) (.tmp 43) 26 85 (.agg #[(.int .i64 0), (.int .i64 0)]) 16 rfl Tryz.underlying26 qfT rfl (by decide) (by omega) u3 qgO (⟨qcM, qiN⟩ : qac) [.int .i64 qcM, .int .i64 qiN] (fun _ => True) (fun _ => False) rfl rfl ?aP (fun _ hk => hk.elim) ?aF ?aO ?aB ?aS ?aL ?_; (case aP => exact qdm _ _ _ (⟨qcM, qiN⟩ : qac)); (case aB => exact qan); (case aF => exact (fun _ _ => trivial)); (case aO => exact qhX); (case aS => exact (qab qan)); (case aL => have := qob.out; omega); intro v105 w15 ho hb hg hat; rw [← qiu.out] at ho; replace HB := ak_ (hb); have qeh := ak_ (ho); clear qdq; clear ho hb hg hat))
        go_roundg k3
        case measure => have := HK1.out; have := HK2.out; have := HK3.out; omega
        case rel => exact ⟨(qgF), (wrap64 (qiN + 1)), qav, H', ⟨k99_⟩, ⟨qsL⟩, ⟨qan⟩⟩
       rw [if_pos c6] at H; have qgk := decide_eq_true c6; clear c6; by_cases c7 : x6_3 = true; rotate_left
       ·replace c7 := Bool.eq_false_iff.mpr c7; subst c7; rw [if_neg ff_] at H; have H' := ak_ H; clear H; go_wp2
        go_roundg k3
        case measure => have := HK1.out; have := HK2.out; have := HK3.out; omega
        case rel => exact ⟨(false), (wrap64 (qg7 + 1)), qav, qav, H', ⟨k99_⟩, ⟨qhX⟩, ⟨qan⟩⟩
       subst c7; rw [if_pos rfl] at H; obtain ⟨c8, H⟩ := qck H; have qm4 := decide_eq_true c8; clear c8; obtain ⟨c9, H⟩ := qck H; have qln := decide_eq_true c9; clear c9; by_cases c11 : (bt a0 qg7) = 111; rotate_left
       ·rw [if_neg c11] at H; have qfQ : ((bt a0 qg7) == 111) = false := beq_eq_false_iff_ne.mpr c11; have qgT : ((bt a0 qg7) != 111) = true := bne_iff_ne.mpr c11; have H' := ak_ H; clear H; have p10 : 0 ≤ (qg7 : Int) := of_decide_eq_true qaO; have q10 : qg7 < (a0.size : Int) := of_decide_eq_true qaO; have hx10 := qel a0 qg7; replace p10 := eq_true p10; replace q10 := eq_true q10; go_wp2
        go_roundg k3
        case measure => have := HK1.out; have := HK2.out; have := HK3.out; omega
        case rel => exact ⟨(true), (wrap64 (qg7 + 1)), qav, qav, H', ⟨k99_⟩, ⟨qhX⟩, ⟨qan⟩⟩
       rw [if_pos c11] at H; have qfQ : ((bt a0 qg7) == 111) = true := beq_iff_eq.mpr c11; have qgT : ((bt a0 qg7) != 111) = false := bne_eq_false_iff_eq.mpr c11; clear c11; by_cases c12 : qcM = 0
       ·rw [if_pos c12] at H; exact absurd H (by simp)
       rw [if_neg c12] at H; have qhg : (qcM == 0) = false := beq_eq_false_iff_ne.mpr c12; have c12b1 : (qcM != 0) = true := bne_iff_ne.mpr c12; have H' := ak_ H; clear H; have p10 : 0 ≤ (qg7 : Int) := of_decide_eq_true qaO; have q10 : qg7 < (a0.size : Int) := of_decide_eq_true qaO; have hx10 := qel a0 qg7; replace p10 := eq_true p10; replace q10 := eq_true q10; go_wp2
       go_roundg k3
       case measure => have := HK1.out; have := HK2.out; have := HK3.out; omega
       case rel => exact ⟨(((Int.tmod (wrap64 (qg7 + 1)) qcM) != qiN)), (wrap64 (qg7 + 1)), qav, qav, H', ⟨k99_⟩, ⟨qhX⟩, ⟨qan⟩⟩
def qbs.l0 : Nat → ByteArray → List (qac) → Int → Int → Option (Bool)
 | 0, _, _, _, _ => none
 | k + 1, x0, x1, x7, x8 => if x8 < x7 then (if 0 ≤ x8 then (if x8 < (x0.size : Int) then (if (bt x0 x8) = 63 then (qbs.l0 k x0 x1 x7 (wrap64 (x8 + 1))) else ((qcT.f x1 (wrap64 (x8 + 1))).bind fun qat => (if (qat != ((bt x0 x8) == 111)) = true then (some false) else (qbs.l0 k x0 x1 x7 (wrap64 (x8 + 1)))))) else (none)) else (none)) else (some true)
def qbs.f (k : Nat) (a0 : ByteArray) (l1 : List (qac)) : Option (Bool) := qbs.l0 k a0 l1 (a0.size : Int) 0
def qbs.T4 : Bool × List (List Nat × List Nat) := (true, [([], []), ([], []), ([0, 1], [0, 1]), ([2], [2]), ([3], [3]), ([4], [4]), ([4], [4]), ([6, 4], [4, 6]), ([5, 7, 4, 4], [4, 5, 7]), ([4], [4]), ([4], [4]), ([9, 10, 4], [4, 9, 10]), ([11, 4], [4, 11]), ([8, 12, 4], [4, 8, 12]), ([4, 13], [4, 13])])
def qbs.B4 : List Nat := [0, 0, 3, 7, 15, 31, 31, 95, 255, 31, 31, 1567, 3615, 8191, 16383]
theorem qbs.tab4 : qhS .any (opsOf Tryz.f237 4) = qbs.T4 := by kernel_rfl
theorem qbs.qqv : qeU qbs.T4.2 qbs.B4 = true := by kernel_rfl
theorem qbs.calls (k : Nat) (a0 : ByteArray) (A1 : Option Addr) (c1 : Nat) (l1 : List (qac)) (r : Bool) (w : World) (hr1 : Kd.C qaL w A1 l1.length l1) (hc1 : l1.length ≤ c1) (h : qbs.f k a0 l1 = some r) :
  Calls Tryz.prog 237 #[.string a0, .slice A1 l1.length c1] w fun e w' => e = .returned (.bool r) ∧ Below w.heap.size w w' := by
 have HR1 := ak_ hr1; have HC1 := ak_ hc1; clear hr1 hc1; have HB := br_ w; have H : (qbs.l0 k a0 l1 (a0.size : Int) 0) = some r := h; clear h; have H' := ak_ H; clear H; go_enter Tryz.func237, Tryz.ntmps237; go_wp2
 go_loopg [8] k (fun kq v8 w' => ∃ (qdh : Int), v8 = .int .i64 qdh ∧ qag (qbs.l0 kq a0 l1 (a0.size : Int) qdh = some r) ∧ qag (kq ≤ k) ∧ qag (Below w.heap.size w w'))
 case atStart => exact ⟨(0), qav, H', ⟨Nat.le_refl _⟩, ⟨qan⟩⟩
 case round =>
  clear H'; obtain ⟨qdh, rfl, HA, HK1, HB⟩ := hrel
  cases gk with
  | zero => exact absurd HA.out (by simp [qbs.l0])
  | succ k1 =>
   have H := HA.out; clear HA; simp only [qbs.l0] at H; by_cases c3 : qdh < (a0.size : Int); rotate_left
   ·rw [if_neg c3] at H; have qfk := decide_eq_false c3; clear c3; obtain rfl := sj_ H; go_wp2
    go_ret
    exact ⟨qcf, qan⟩
   rw [if_pos c3] at H; have qfk := decide_eq_true c3; clear c3; obtain ⟨c4, H⟩ := qck H; have qfx := decide_eq_true c4; clear c4; obtain ⟨c5, H⟩ := qck H; have qgJ := decide_eq_true c5; clear c5; by_cases c7 : (bt a0 qdh) = 63
   ·rw [if_pos c7] at H; have qgU : ((bt a0 qdh) == 63) = true := beq_iff_eq.mpr c7; have qmL : ((bt a0 qdh) != 63) = false := bne_eq_false_iff_eq.mpr c7; clear c7; have H' := ak_ H; clear H
    try go_wp2
    replace HB := ak_ (qah HB.out); have p6 : 0 ≤ (qdh : Int) := of_decide_eq_true qaO; have q6 : qdh < (a0.size : Int) := of_decide_eq_true qaO; have hx6 := qel a0 qdh; replace p6 := eq_true p6; replace q6 := eq_true q6; refine qe6 (n := 15) (S := fun w' => True) (ds := []) (rA_ [0, 15]) (by kernel_rfl) rfl rfl trivial (fun hHeld => ?_); refine qdn qbs.tab4 qbs.qqv (fun HT_ HW_ => ?_)
    generalize wr.drew = w8 at HB hHeld ⊢
    refine pu_ 0 11 [1, 14] ?_; refine pu_ 1 12 [2, 13] ?_; refine ta_ 2 13 [3, 12] ?_; refine pu_ 3 14 [4, 11] ?_; refine pu_ 4 15 [5, 10] ?_; refine pz_ 5 16 [6, 9] ?_; refine pz_ 6 17 [7, 8] ?_; refine pz_ 7 18 [8, 7] ?_; refine pz_ 8 19 [9, 6] ?_; refine pz_ 9 20 [10, 5] ?_; refine pz_ 10 21 [11, 4] ?_; refine pz_ 11 22 [12, 3] ?_; refine pz_ 12 23 [13, 2] ?_; refine pz_ 13 24 [14, 1] ?_; refine pu_ 14 25 [15] ?_; refine qgu (qeC HT_.out (by kernel_rfl)) ?_
    try go_wp2
    go_roundg k1
    case measure => have := HK1.out; omega
    case rel => exact ⟨(wrap64 (qdh + 1)), qav, H', ⟨qcW⟩, ⟨qan⟩⟩
   rw [if_neg c7] at H; have qgU : ((bt a0 qdh) == 63) = false := beq_eq_false_iff_ne.mpr c7; have qmL : ((bt a0 qdh) != 63) = true := bne_iff_ne.mpr c7; obtain ⟨qat, A9, H⟩ := qay H; (try dsimp only at H); by_cases c11 : (qat != ((bt a0 qdh) == 111)) = true
   ·rw [if_pos c11] at H; have qfQ : (qat != ((bt a0 qdh) == 111)) = true := c11; (try (have qgT : decide (qat = ((bt a0 qdh) == 111)) = false := by simpa using c11)); (try (have qrD : (qat == ((bt a0 qdh) == 111)) = false := by simpa using c11)); (try (have c11b3 : ¬ (qat = ((bt a0 qdh) == 111)) := by simpa using c11)); clear c11; obtain rfl := sj_ H
    try go_wp2
    replace HB := ak_ (qah HB.out); have p6 : 0 ≤ (qdh : Int) := of_decide_eq_true qaO; have q6 : qdh < (a0.size : Int) := of_decide_eq_true qaO; have hx6 := qel a0 qdh; replace p6 := eq_true p6; replace q6 := eq_true q6; have p10 : 0 ≤ (qdh : Int) := of_decide_eq_true qaO; have q10 : qdh < (a0.size : Int) := of_decide_eq_true qaO; have hx10 := qel a0 qdh; replace p10 := eq_true p10; replace q10 := eq_true q10; refine qe6 (n := 15) (S := fun w' => True) (ds := []) (rA_ [0, 15]) (by kernel_rfl) rfl rfl trivial (fun hHeld => ?_); refine qdn qbs.tab4 qbs.qqv (fun HT_ HW_ => ?_)
    generalize wr.drew = w12 at HB hHeld ⊢
    refine pu_ 0 11 [1, 14] ?_; refine pu_ 1 12 [2, 13] ?_; refine ta_ 2 13 [3, 12] ?_; refine pu_ 3 14 [4, 11] ?_; refine pu_ 4 15 [5, 10] ?_; refine pu_ 5 16 [6, 9] ?_; refine pu_ 6 17 [7, 8] ?_; refine pu_ 7 18 [8, 7] ?_; refine pu_ 9 20 [8, 1, 1, 5] ?_; refine pu_ 10 21 [8, 1, 2, 4] ?_; refine ta_ 11 22 [8, 1, 3, 3] ?_; refine pu_ 12 23 [8, 1, 4, 2] ?_; refine qfH (i := 8) (N := some 19) (rA_ [13, 2]) rfl rfl (qc4 HT_.out (by kernel_rfl)) (by decide) (fun K hK => ?_); refine qfR Tryz.func199 (by kernel_rfl) rfl #[.slice A1 l1.length c1, .int .i64 (wrap64 (qdh + 1))] (by rfl) rfl rfl qbK ?_
    with_reducible refine (qcT.calls _ _ l1 (wrap64 (qdh + 1)) qat _ ?qaA ?qaB A9.out).mono ?_
    (case qaA => repeat (first | exact (Kd.qeg HR1.out HB.out) | (with_reducible refine Kd.C_alloc ?_ _) | (with_reducible refine Kd.C_drewN ?_ _) | (with_reducible refine Kd.C_drew ?_)))
    (case qaB => exact HC1.out)
    rintro e w13 ⟨rfl, hb⟩; refine ⟨_, rfl, ?_⟩; replace HB := HB.mw hb; (try clear hb); (try clear hb2); (try clear hk); (try clear hi); refine hK.out _ _ trivial (fun hHeld => ?_); clear hK K; refine nm_ 19 ?_; refine pu_ 13 24 [14, 1] ?_; refine pu_ 14 25 [15] ?_; refine qgu (qeC HT_.out (by kernel_rfl)) ?_
    try go_wp2
    go_ret
    exact ⟨qcf, qan⟩
   rw [if_neg c11] at H
   have qfQ : (qat != ((bt a0 qdh) == 111)) = false := by simpa using c11
   (try (have qgT : decide (qat = ((bt a0 qdh) == 111)) = true := by simpa using c11)); (try (have qrD : (qat == ((bt a0 qdh) == 111)) = true := by simpa using c11)); clear c11; have H' := ak_ H; clear H
   try go_wp2
   replace HB := ak_ (qah HB.out); have p6 : 0 ≤ (qdh : Int) := of_decide_eq_true qaO; have q6 : qdh < (a0.size : Int) := of_decide_eq_true qaO; have hx6 := qel a0 qdh; replace p6 := eq_true p6; replace q6 := eq_true q6; have p10 : 0 ≤ (qdh : Int) := of_decide_eq_true qaO; have q10 : qdh < (a0.size : Int) := of_decide_eq_true qaO; have hx10 := qel a0 qdh; replace p10 := eq_true p10; replace q10 := eq_true q10; refine qe6 (n := 15) (S := fun w' => True) (ds := []) (rA_ [0, 15]) (by kernel_rfl) rfl rfl trivial (fun hHeld => ?_); refine qdn qbs.tab4 qbs.qqv (fun HT_ HW_ => ?_)
   generalize wr.drew = w14 at HB hHeld ⊢
   refine pu_ 0 11 [1, 14] ?_; refine pu_ 1 12 [2, 13] ?_; refine ta_ 2 13 [3, 12] ?_; refine pu_ 3 14 [4, 11] ?_; refine pu_ 4 15 [5, 10] ?_; refine pu_ 5 16 [6, 9] ?_; refine pu_ 6 17 [7, 8] ?_; refine pu_ 7 18 [8, 7] ?_; refine pu_ 9 20 [8, 1, 1, 5] ?_; refine pu_ 10 21 [8, 1, 2, 4] ?_; refine ta_ 11 22 [8, 1, 3, 3] ?_; refine pu_ 12 23 [8, 1, 4, 2] ?_; refine qfH (i := 8) (N := some 19) (rA_ [13, 2]) rfl rfl (qc4 HT_.out (by kernel_rfl)) (by decide) (fun K hK => ?_); refine qfR Tryz.func199 (by kernel_rfl) rfl #[.slice A1 l1.length c1, .int .i64 (wrap64 (qdh + 1))] (by rfl) rfl rfl qbK ?_
   with_reducible refine (qcT.calls _ _ l1 (wrap64 (qdh + 1)) qat _ ?qaA ?qaB A9.out).mono ?_
   (case qaA => repeat (first | exact (Kd.qeg HR1.out HB.out) | (with_reducible refine Kd.C_alloc ?_ _) | (with_reducible refine Kd.C_drewN ?_ _) | (with_reducible refine Kd.C_drew ?_)))
   (case qaB => exact HC1.out)
   rintro e w15 ⟨rfl, hb⟩; refine ⟨_, rfl, ?_⟩; replace HB := HB.mw hb; (try clear hb); (try clear hb2); (try clear hk); (try clear hi); refine hK.out _ _ trivial (fun hHeld => ?_); clear hK K; refine nm_ 19 ?_; refine pu_ 13 24 [14, 1] ?_; refine pu_ 14 25 [15] ?_; refine qgu (qeC HT_.out (by kernel_rfl)) ?_
   try go_wp2
   go_roundg k1
   case measure => have := HK1.out; omega
   case rel => exact ⟨(wrap64 (qdh + 1)), qav, H', ⟨qcW⟩, ⟨qan⟩⟩
mutual
def qa5.f : Nat → ByteArray → Int → Int → List qac → List qac → Int → List (List qac) → Option (List (List qac))
  | 0, _, _, _, _, _, _, _ => none
  | k + 1, p, R, most, rules, list, frm, out => if (out.length : Int) = most then some out else (if (list.length : Int) = R then ((qbs.f k p list).bind fun t => if t = true then (if out.length < 5864062014805 then some (out ++ [list]) else none) else some out) else qa5.l0 k p R most rules list out frm)
def qa5.l0 : Nat → ByteArray → Int → Int → List qac → List qac → List (List qac) → Int → Option (List (List qac))
  | 0, _, _, _, _, _, _, _ => none
  | k + 1, p, R, most, rules, list, out, i => if i < (rules.length : Int) then (if 0 ≤ i then (if list.length < 8796093022207 then ((qa5.f k p R most rules (list ++ [qae rules i]) (wrap64 (i + 1)) out).bind fun o => qa5.l0 k p R most rules list o (wrap64 (i + 1))) else none) else none) else some out
end
theorem goesV_ {P : Program} {ops : Array Oper} {Q : Exit → Act → World → Prop} {oi : Oper} {N : Option Tmp} {a : Act} {w : World} {K : Act → World → Prop} {f : FuncId} {fn : Func} {fv : Operand} {xs : Array Operand} {ts : Array TypeId} (lb : Array Value) (hf : P.funcs[f]? = some fn) (hname : (fn.name == "runtime.NumGoroutine") = false) (hb : fn.body.isSome = true) (args : Array Value)
    (hw : Region.wanted oi (yielded ops a.tmps) = true) (hN : oi.dst = N) (hop : oi.op = .call { callee := .value fv, args := xs, argTypes := ts }) (hv : a.eval fv = .func (.func f) #[] lb) (hargs : xs.map a.eval = args)
    (h : Calls P f (args ++ lb) w fun e w' => ∃ v, e = .returned v ∧ K (a.put N v) w') : if Region.wanted oi (yielded ops a.tmps) = true then Oper.wp P oi a w K Q else K (a.put N undef) w := by
  refine call_ f (args ++ lb) hw hN ?_ h; have he := qow hf hname hb (args ++ lb) w; unfold execOp
  simp [hop, resolve, Deferred.ofValue, invoke, hv, hargs, he]
structure qfs (g : Nat) (row : Option Nat) (w w' : World) : Prop where
  os : w'.os = w.os
  tape : w'.tape = w.tape
  output : w'.output = w.output
  size : w.heap.size ≤ w'.heap.size
  block : ∀ k, k < w.heap.size → k ≠ g → some k ≠ row → w'.heap[k]? = w.heap[k]?
section
variable {g : Nat} {row row' : Option Nat} {w w1 w2 : World}
theorem qfs.qbS (h : Below w.heap.size w w1) : qfs g row w w1 := ⟨h.os, h.tape, h.output, h.size, fun k hk _ _ => h.block k hk⟩
theorem qfs.qjT (h : w.grownBy w1 row) : qfs g row w w1 := ⟨h.os, h.tape, h.output, h.size, fun k hk _ hr => h.block k hk hr⟩
theorem qfs.refl (w : World) : qfs g row w w := qfs.qbS (Below.refl _ _)
theorem qfs.trans (h : qfs g row w w1) (h2 : qfs g row' w1 w2) (hr : ∀ k, row' = some k → row = some k ∨ w.heap.size ≤ k) : qfs g row w w2 :=
  ⟨h2.os.trans h.os, h2.tape.trans h.tape, h2.output.trans h.output, Nat.le_trans h.size h2.size, fun k hk hg hne => (h2.block k (Nat.lt_of_lt_of_le hk h.size) hg (fun e => by
    rcases hr k e.symm with hr | hb
    ·exact hne hr.symm
    omega)).trans (h.block k hk hg hne)⟩
theorem qfs.qez (h : qfs g row w w1) (hb : Below w1.heap.size w1 w2) : qfs g row w w2 := qfs.trans h (qfs.qbS (row := none) hb) (fun k hk => by simp at hk)
theorem qfs.set (h : qfs g row w w1) (u : Value) : qfs g row w (w1.setCell ⟨g, 0, none⟩ u) :=
  ⟨h.os, h.tape, h.output, by simpa [World.setCell] using h.size, fun k hk hg hr => (Below.heap_setCell w1 ⟨g, 0, none⟩ u k hg).trans (h.block k hk hg hr)⟩
theorem qfs.blk {b gL : Nat} {o : Obj} (h : qfs g (some gL) w w1) (hb : w.heap[b]? = some o) (hne : b ≠ g ∧ b ≠ gL) : w1.heap[b]? = some o := (h.block b (qdU hb) hne.1 (by simpa using hne.2)).trans hb
end
def ChFix (w0 : World) (bs gL g gM gP gR gC : Nat) (p : ByteArray) (R most : Int) (AR : Option Addr) (cR : Nat) (rules : List qac) : Prop :=
  (g < w0.heap.size ∧ g ≠ gL ∧ bs ≤ w0.heap.size) ∧ ((gM ≠ g ∧ gM ≠ gL) ∧ (gP ≠ g ∧ gP ≠ gL) ∧ (gR ≠ g ∧ gR ≠ gL) ∧ (gC ≠ g ∧ gC ≠ gL)) ∧ w0.heap[gM]? = some (.cells #[.int .i64 most] 3 (0, 0)) ∧ w0.heap[gP]? = some (.cells #[.string p, .int .i64 R] 99 (0, 0)) ∧ w0.heap[gR]? = some (.cells #[.slice AR rules.length cR] 26 (0, 0)) ∧ w0.heap[gC]? = some (.cells #[.func (.func 236) #[] #[.pointer (some ⟨g, 0, none⟩), .pointer (some ⟨gM, 0, none⟩), .pointer (some ⟨gP, 0, none⟩), .pointer (some ⟨gR, 0, none⟩), .pointer (some ⟨gC, 0, none⟩)]] 198 (0, 0)) ∧ rules.length ≤ cR ∧ (∀ W', qfs g (some gL) w0 W' → Kd.C qaL W' AR rules.length rules)
def ChSt (w0 : World) (bs gL g : Nat) (vo : Value) (out : List (List qac)) (W : World) : Prop :=
  W.heap[g]? = some (.cells #[vo] 145 (0, 0)) ∧ Kd.S (Kd.slice 85 qaL) 26 W bs (fun k => k = gL ∨ w0.heap.size ≤ k) vo out ∧ qfs g (some gL) w0 W
theorem ChSt.below {w0 : World} {bs gL g : Nat} {vo : Value} {out : List (List qac)} {W W1 : World} (h : ChSt w0 bs gL g vo out W) (hb : Below W.heap.size W W1) : ChSt w0 bs gL g vo out W1 :=
  ⟨qar h.1 hb, Kd.qgR h.2.1 hb, qfs.qez h.2.2 hb⟩
def ChRo (W : World) (vo v : Value) : Prop := ∀ k, v.ownBlock = some k → vo.ownBlock = some k ∨ W.heap.size ≤ k
theorem ch_list {w0 : World} {bs gL g b' : Nat} {ok' : Nat → Prop} {vo : Value} {out : List (List qac)} {W W1 : World} {A : Option Addr} {c : Nat} {l : List qac} (hS : ChSt w0 bs gL g vo out W) (h : Kd.R qaL 85 W b' ok' (.slice A l.length c) l) (hm : qfs g vo.ownBlock W W1) : Kd.C qaL W1 A l.length l :=
  (Kd.qao (Kd.qj1 (Kd.qe0 h) (fun k hk hlt => hm.block k hlt (fun e => by
    obtain ⟨_, _, _, q, hq, cells', hc'⟩ := hk; rw [e, hS.1] at hc'
    injection hc' with hc'
    injection hc' with _ hq'
    subst hq'
    revert hq
    decide) (fun e => by
    obtain ⟨cells, hc⟩ := Kd.qj3 hS.2.1 k e.symm; obtain ⟨_, _, _, q, hq, cells', hc'⟩ := hk; rw [hc] at hc'
    injection hc' with hc'
    injection hc' with _ hq'
    subst hq'
    revert hq
    decide)))).2.2
theorem ch_rules {gL g b' : Nat} {ok' : Nat → Prop} {W W1 : World} {cs : Array Value} {A : Option Addr} {c : Nat} {l : List qac} (hG : W.heap[g]? = some (.cells cs 145 (0, 0))) (hL : ∃ cells, W.heap[gL]? = some (.cells cells 26 (0, 0))) (h : Kd.R qaL 85 W b' ok' (.slice A l.length c) l) (hm : qfs g (some gL) W W1) : Kd.C qaL W1 A l.length l :=
  (Kd.qao (Kd.qj1 (Kd.qe0 h) (fun k hk hlt => hm.block k hlt (fun e => by
    obtain ⟨_, _, _, q, hq, cells', hc'⟩ := hk; rw [e, hG] at hc'
    injection hc' with hc'
    injection hc' with _ hq'
    subst hq'
    revert hq
    decide) (fun e => by
    obtain ⟨cells, hc⟩ := hL; obtain ⟨_, _, _, q, hq, cells', hc'⟩ := hk
    injection e with e
    rw [e, hc] at hc'
    injection hc' with hc'
    injection hc' with _ hq'
    subst hq'
    revert hq
    decide)))).2.2
theorem qoX : (Tryz.prog.info? 26).map (fun i => (i.zero, i.size, i.bytes)) = some (some (.slice none 0 0), 1, 24) := by kernel_rfl
theorem qa5.own (w0 : World) (bs gL g gM gP gR gC : Nat) (p : ByteArray) (R most : Int) (AR : Option Addr) (cR : Nat) (rules : List qac) (hfix : qag (ChFix w0 bs gL g gM gP gR gC p R most AR cR rules)) (k : Nat) : ∀ (list : List qac) (frm : Int) (out r : List (List qac)) (Al : Option Addr) (cl : Nat) (vo : Value) (W : World)
    (_ : ChSt w0 bs gL g vo out W) (_ : list.length ≤ cl) (_ : Kd.R qaL 85 W w0.heap.size (fun _ => True) (.slice Al list.length cl) list) (_ : Kd.S (Kd.slice 85 qaL) 26 W bs (fun k => (k = gL ∨ w0.heap.size ≤ k) ∧ some k ≠ (Value.slice Al list.length cl).ownBlock) vo out) (_ : qa5.f k p R most rules list frm out = some r),
    Calls Tryz.prog 236 (#[.slice Al list.length cl, .int .i64 frm] ++ #[.pointer (some ⟨g, 0, none⟩), .pointer (some ⟨gM, 0, none⟩), .pointer (some ⟨gP, 0, none⟩), .pointer (some ⟨gR, 0, none⟩), .pointer (some ⟨gC, 0, none⟩)]) W fun e w' => e = .returned (.tuple #[]) ∧ ∃ v1, ChSt w0 bs gL g v1 r w' ∧ qfs g vo.ownBlock W w' ∧ ChRo W vo v1 := by
  induction k using Nat.strongRecOn with
  | ind k ih =>
  intro list frm out r Al cl vo W hst hlc hown hap h; have hcM : W.cell? ⟨gM, 0, none⟩ = some (.int .i64 most) := (qba (qfs.blk hst.2.2 hfix.out.2.2.1 hfix.out.2.1.1) 0).trans rfl; have hcP0 : W.cell? ⟨gP, 0, none⟩ = some (.string p) := (qba (qfs.blk hst.2.2 hfix.out.2.2.2.1 hfix.out.2.1.2.1) 0).trans rfl; have hcP1 : W.cell? ⟨gP, 1, none⟩ = some (.int .i64 R) := (qba (qfs.blk hst.2.2 hfix.out.2.2.2.1 hfix.out.2.1.2.1) 1).trans rfl; have hS0 := hst.2.1; obtain ⟨Ao, co, eo⟩ := Kd.qdL hS0; subst eo; have hcG : W.cell? ⟨g, 0, none⟩ = some (.slice Ao out.length co) := (qba hst.1 0).trans rfl; have HLC := ak_ (show ∀ W1, qfs g (Value.slice Ao out.length co).ownBlock W W1 → Kd.C qaL W1 Al list.length list from fun W1 hm => ch_list hst hown hm); have IH := ak_ ih; have HST0 := ak_ hst; have HLE := ak_ hlc; have HOWN := ak_ hown; have HAP := ak_ hap; have HG := ak_ hfix.out.1; clear ih hst hlc hown hap hS0
  cases k with
  | zero => exact absurd h (by simp [qa5.f])
  | succ k =>
    simp only [qa5.f] at h; by_cases c1_ : (out.length : Int) = most
    ·rw [if_pos c1_] at h; have c1b : ((out.length : Int) == most) = true := beq_iff_eq.mpr c1_; have HR := ak_ (Option.some.inj h); clear c1_ h; go_enter Tryz.func236, Tryz.ntmps236; go_wp2; (first | (refine bodyPost_ret (results_none rfl _ _ _) rfl ?_) | go_end0); exact ⟨rfl, _, by rw [← HR.out]; exact HST0.out, qfs.refl _, fun _ h_ => .inl h_⟩
    rw [if_neg c1_] at h; have c1b : ((out.length : Int) == most) = false := beq_eq_false_iff_ne.mpr c1_; clear c1_; by_cases c2_ : (list.length : Int) = R
    ·rw [if_pos c2_] at h; have c2b : ((list.length : Int) == R) = true := beq_iff_eq.mpr c2_; clear c2_; replace h := Option.bind_eq_some_iff.mp h; obtain ⟨t, A0_, h⟩ := h; have A_ := ak_ A0_; clear A0_
     cases t with
     | true =>
       rw [if_pos rfl] at h; by_cases c3_ : out.length < 5864062014805; rotate_left
       ·rw [if_neg c3_] at h; exact absurd h (by simp)
       rw [if_pos c3_] at h; have HLO := ak_ c3_; have HR := ak_ (Option.some.inj h); clear c3_ h; go_enter Tryz.func236, Tryz.ntmps236
       go_wp2_with (first | (refine gl_ 22 Tryz.func237 #[.string p, .slice Al list.length cl] rfl qbZ ?_; (with_reducible refine (qbs.calls k p _ _ list true _ ?qaA ?qaB A_.out).mono ?_); (case qaA => exact HLC.out _ (qfs.refl _)); (case qaB => exact HLE.out); rintro e w1 ⟨rfl, hb⟩; refine ⟨_, rfl, ?_⟩; have HB1 := ak_ hb; have hcG1 : w1.cell? ⟨g, 0, none⟩ = some (.slice Ao out.length co) := (qba (qar HST0.out.1 hb) 0).trans rfl; clear hb) | ((with_reducible refine qa2 (b := .append) (xs := #[.tmp 23, .tmp 25]) rfl ?_); at_builtin; refine Kd.qjJ (Kd.slice 85 qaL) (w0 := w1) bs rfl (.tmp 23) (.tmp 25) 145 26 (.slice none 0 0) 24 rfl Tryz.underlying145 qoX rfl (by decide) (by omega) (.slice Ao out.length co) out list [.slice Al list.length cl] (fun k_ => k_ = gL ∨ w0.heap.size ≤ k_) (fun k_ => some k_ = (.slice Al list.length cl : Value).ownBlock) rfl rfl ?aP ?aK ?aF ?aO ?aB ?aS ?aL ?_; (case aP => exact Kd.M_row (Kd.qh8 rfl (Kd.qax (Kd.qbv HOWN.out HB1.out) HG.out.2.2))); (case aF => exact (fun k_ hk => .inr (Nat.le_trans (Nat.le_trans HST0.out.2.2.size HB1.out.size) hk))); (case aK => exact (fun k_ hk => ⟨.inr (Kd.qfj HOWN.out k_ hk.symm), fun e_ => ((Kd.S_R HAP.out).1 k_ e_.symm).2 hk⟩)); (case aO => exact Kd.qgR HAP.out HB1.out); (case aB => exact Below.refl _ _); (case aS => exact Nat.le_trans HG.out.2.2 (Nat.le_trans HST0.out.2.2.size HB1.out.size)); (case aL => have h_ := HLO.out; omega); intro v1 w4 ho hb hg hat; rw [HR.out] at ho; obtain ⟨A1v, c1v, e1v⟩ := Kd.qdL ho; subst e1v; have HO4 := ak_ ho; have HG4 := ak_ hg; have HAT := ak_ hat; have hbk4 := qdH (qar HST0.out.1 HB1.out) hg (fun e_ => by have h1_ := (Kd.S_R HST0.out.2.1).1 g e_.symm; have h2_ := HG.out; omega); have HK4 := ak_ hbk4; have hcG4 : w4.cell? ⟨g, 0, none⟩ = some (.slice Ao out.length co) := (qba hbk4 0).trans rfl; have hfG4 := qad hbk4 0; clear ho hb hg hat hbk4))
       (first | (refine bodyPost_ret (results_none rfl _ _ _) rfl ?_) | go_end0); refine ⟨rfl, (.slice A1v r.length c1v), ?_, ?_, ?_⟩
       ·refine ⟨qbl HK4.out 0 (.slice A1v r.length c1v) rfl, ?_, ?_⟩
        ·exact Kd.qgo (Kd.S_far (p := ⟨g, 0, none⟩) (Kd.ql4 HO4.out) (fun k_ hk => by have h1_ := hk.1; have h2_ := HG.out; show k_ ≠ g; omega) (.slice A1v r.length c1v)) (fun _ hk => hk.1)
        exact qfs.set (qfs.trans (qfs.qez HST0.out.2.2 HB1.out) (qfs.qjT HG4.out) (fun k_ hk => ((Kd.S_R HST0.out.2.1).1 k_ hk).imp (fun e_ => by rw [e_]) id)) _
       ·exact qfs.set (qfs.trans (qfs.qbS HB1.out) (qfs.qjT HG4.out) (fun _ h_ => .inl h_)) _
       exact (fun k_ hk => HAT.out.elim (fun e_ => .inl (e_ ▸ hk)) (fun ⟨b_, e_, hb_⟩ => .inr (by rw [e_] at hk; injection hk with hk; have := HB1.out.size; omega)))
     | false =>
       rw [if_neg (by decide)] at h; have HR := ak_ (Option.some.inj h); clear h; go_enter Tryz.func236, Tryz.ntmps236
       go_wp2_with ((refine gl_ 22 Tryz.func237 #[.string p, .slice Al list.length cl] rfl qbZ ?_; (with_reducible refine (qbs.calls k p _ _ list false _ ?qaA ?qaB A_.out).mono ?_); (case qaA => exact HLC.out _ (qfs.refl _)); (case qaB => exact HLE.out); rintro e w1 ⟨rfl, hb⟩; refine ⟨_, rfl, ?_⟩; have HB1 := ak_ hb; clear hb))
       (first | (refine bodyPost_ret (results_none rfl _ _ _) rfl ?_) | go_end0); exact ⟨rfl, _, by rw [← HR.out]; exact ChSt.below HST0.out HB1.out, qfs.qbS HB1.out, fun _ h_ => .inl h_⟩
    rw [if_neg c2_] at h; have c2b : ((list.length : Int) == R) = false := beq_eq_false_iff_ne.mpr c2_; clear c2_; have H' := ak_ h; clear h; have HMV0 := ak_ (qfs.refl (g := g) (row := (Value.slice Ao out.length co).ownBlock) W); have HRO0 := ak_ (show ChRo W (Value.slice Ao out.length co) (Value.slice Ao out.length co) from fun _ h_ => .inl h_); go_enter Tryz.func236, Tryz.ntmps236; go_wp2
    go_loopg [9] k (fun kq v9 wx => ∃ (o : List (List qac)) (i : Int) (vq : Value), v9 = .int .i64 i ∧ qag (qa5.l0 kq p R most rules list o i = some r) ∧ qag (kq ≤ k) ∧ qag (ChSt w0 bs gL g vq o wx) ∧ qag (qfs g (Value.slice Ao out.length co).ownBlock W wx) ∧ qag (ChRo W (Value.slice Ao out.length co) vq))
    case atStart => exact ⟨out, frm, _, rfl, H', ⟨Nat.le_refl _⟩, HST0, HMV0, HRO0⟩
    case round =>
      clear H' HMV0 HRO0 hcG hcM hcP0 hcP1; obtain ⟨o, i, vq, rfl, HA_, HK, HST, HMV, HRO⟩ := hrel
      cases gk with
      | zero => exact absurd HA_.out (by simp [qa5.l0])
      | succ k1 =>
        have H := HA_.out; clear HA_; simp only [qa5.l0] at H; have hcR : wr.cell? ⟨gR, 0, none⟩ = some (.slice AR rules.length cR) := (qba (qfs.blk HST.out.2.2 hfix.out.2.2.2.2.1 hfix.out.2.1.2.2.1) 0).trans rfl; by_cases c1_ : i < (rules.length : Int); rotate_left
        ·rw [if_neg c1_] at H; have c1b_ := decide_eq_false c1_; clear c1_; have HR := ak_ (sj_ H); clear H; go_wp2; (first | (refine bodyPost_ret (results_none rfl _ _ _) rfl ?_) | go_end0); exact ⟨rfl, _, by rw [← HR.out]; exact HST.out, HMV.out, HRO.out⟩
        rw [if_pos c1_] at H; have c1b_ := decide_eq_true c1_; obtain ⟨c2_, H⟩ := qck H; have c2b_ := decide_eq_true c2_; obtain ⟨c3_, H⟩ := qck H; have HLB := ak_ c3_; clear c3_; replace H := Option.bind_eq_some_iff.mp H; obtain ⟨o2, A0_, H⟩ := H; have A_ := ak_ A0_; have H' := ak_ H; clear A0_ H; obtain ⟨Aq, cq, eq_⟩ := Kd.qdL HST.out.2.1; subst eq_; obtain ⟨ad, e_, hx0, hx1⟩ := qdW (hfix.out.2.2.2.2.2.2.2 _ HST.out.2.2) i c2_ c1_; subst e_; have hcC : wr.cell? ⟨gC, 0, none⟩ = some (.func (.func 236) #[] #[.pointer (some ⟨g, 0, none⟩), .pointer (some ⟨gM, 0, none⟩), .pointer (some ⟨gP, 0, none⟩), .pointer (some ⟨gR, 0, none⟩), .pointer (some ⟨gC, 0, none⟩)]) := (qba (qfs.blk HST.out.2.2 hfix.out.2.2.2.2.2.1 hfix.out.2.1.2.2.2) 0).trans rfl; have HXc := ak_ (show wr.drew.cell? ⟨gC, 0, none⟩ = _ from hcC); have HXr := ak_ (show wr.drew.cell? ⟨gR, 0, none⟩ = _ from hcR); have HX0 := ak_ (show wr.drew.cell? (ad.add (i.toNat * 2)) = _ from hx0); have HX1 := ak_ (show wr.drew.cell? ⟨(ad.add (i.toNat * 2)).block, (ad.add (i.toNat * 2)).off + 1, none⟩ = _ from hx1); have HBx := ak_ (qah (Below.refl wr.heap.size wr)); clear hx0 hx1 hcC; go_wp2; refine qe6 (n := 13) (S := fun w' => w'.cell? ⟨gC, 0, none⟩ = some (.func (.func 236) #[] #[.pointer (some ⟨g, 0, none⟩), .pointer (some ⟨gM, 0, none⟩), .pointer (some ⟨gP, 0, none⟩), .pointer (some ⟨gR, 0, none⟩), .pointer (some ⟨gC, 0, none⟩)]) ∧ w'.cell? ⟨gR, 0, none⟩ = some (.slice (some ad) rules.length cR) ∧ w'.cell? (ad.add (i.toNat * 2)) = some (.int .i64 (qae rules i).f0) ∧ w'.cell? ⟨(ad.add (i.toNat * 2)).block, (ad.add (i.toNat * 2)).off + 1, none⟩ = some (.int .i64 (qae rules i).f1)) (ds := [12]) #[false, false, false, false, false, false, false, false, false, false, false, false, false] (by kernel_rfl) rfl rfl ⟨HXc.out, HXr.out, HX0.out, HX1.out⟩ (fun hHeld => ?_)
        generalize wr.drew = wS at HXc HXr HX0 HX1 HBx hHeld ⊢
        have HBc := br_ wS; refine qgy (i := 2) (N := some 36) (v := ?_) (a' := ?_) #[false, false, true, false, false, false, false, false, false, false, false, false, false] rfl rfl (by kernel_rfl) (fun _ _ _ h => h) (Or.inl ⟨by rfl, ?_⟩) ?_ ?_; rotate_left; intro w'; go_simp; with_reducible rfl
        rotate_left; exact qmq
        refine qgy (i := 5) (N := some 39) (v := ?_) (a' := ?_) #[false, false, true, false, false, true, false, false, false, false, false, false, false] rfl rfl (by kernel_rfl) (fun _ _ _ h => h) (Or.inl ⟨by rfl, ?_⟩) ?_ ?_; rotate_left; intro w'; go_simp; with_reducible rfl
        rotate_left; exact qmq
        refine qgy (i := 10) (N := some 44) (v := ?_) (a' := ?_) #[false, false, true, false, false, true, false, false, false, false, true, false, false] rfl rfl (by kernel_rfl) (fun _ _ _ h => h) (Or.inl ⟨by rfl, ?_⟩) ?_ ?_; rotate_left; intro w'; go_simp; with_reducible rfl
        rotate_left; exact qmq
        refine qgy (i := 11) (N := some 45) (v := ?_) (a' := ?_) #[false, false, true, false, false, true, false, false, false, false, true, true, false] rfl rfl (by kernel_rfl) (fun _ _ _ h => h) (Or.inl ⟨by rfl, ?_⟩) ?_ ?_; rotate_left; intro w'; go_simp; with_reducible rfl
        rotate_left; exact qmq
        refine qmD (i := 0) (N := some 34) (v := ?_) (a' := ?_) #[true, false, true, false, false, true, false, false, false, false, true, true, false] rfl rfl (by kernel_rfl) (fun _ _ _ h => h) (Or.inl ⟨by rfl, ?_⟩) hHeld ?_ ?_; rotate_left; rintro w' ⟨s0, s1, s2, s3⟩; go_simp; with_reducible rfl
        rotate_left; exact qmq
        refine qmD (i := 4) (N := some 38) (v := ?_) (a' := ?_) #[true, false, true, false, true, true, false, false, false, false, true, true, false] rfl rfl (by kernel_rfl) (fun _ _ _ h => h) (Or.inl ⟨by rfl, ?_⟩) hHeld ?_ ?_; rotate_left; rintro w' ⟨s0, s1, s2, s3⟩; go_simp; with_reducible rfl
        rotate_left; exact qmq
        refine qgy (i := 6) (N := some 40) (v := ?_) (a' := ?_) #[true, false, true, false, true, true, true, false, false, false, true, true, false] rfl rfl (by kernel_rfl) (fun _ _ _ h => h) (Or.inl ⟨by rfl, ?_⟩) ?_ ?_; rotate_left; intro w'; go_simp; with_reducible rfl
        rotate_left; exact qmq
        refine qmD (i := 7) (N := some 41) (v := ?_) (a' := ?_) #[true, false, true, false, true, true, true, true, false, false, true, true, false] rfl rfl (by kernel_rfl) (fun _ _ _ h => h) (Or.inl ⟨by rfl, ?_⟩) hHeld ?_ ?_; rotate_left; rintro w' ⟨s0, s1, s2, s3⟩; go_simp; with_reducible rfl
        rotate_left; exact qmq
        refine qsJ (σ := Value × Value × Value) 2 #[true, true, true, true, true, true, true, true, true, false, true, true, false] (fun s_ => [(35, s_.1), (37, s_.2.1), (42, s_.2.2)]) (fun s_ w' => Kd.R qaL 85 w' wS.heap.size (fun _ => True) s_.2.1 list ∧ Kd.R qaL 85 w' wS.heap.size (fun _ => True) s_.2.2 [qae rules i] ∧ Below wS.heap.size wS w') ?_ ?_; rotate_left
        · intro hCont
          refine two_ (i := 1) (j := 8) (Ni := some 35) (Nj := some 42) #[true, true, true, false, true, true, true, true, false, false, true, true, false] #[true, false, true, false, true, true, true, true, true, false, true, true, false] rfl rfl rfl rfl (by kernel_rfl) (by decide) (by decide) (fun K hK => ?_) (fun K hK => ?_)
          ·skip
           refine Kd.qdS qaL _ 85 ?hg (N := 35) ?hd (xs := ([] : List qac)) (inner := []) (ok := fun _ => True) (okp := fun _ => True) ?hr ?hp (fun _ hk => hk) trivial (Below.refl _ _) (Nat.le_refl _) (by simp) ?_
           (case hd => rfl)
           (case hg => rfl)
           (case hr => exact qbe)
           (case hp => exact qef.none _ _)
           intro v35 w1_0 ho hb hg_ hnew_; clear hg_ hnew_; have HL0 := ak_ (Kd.qax ho (qab HBc.out)); clear ho; have n9_ := ak_ (qaa HBc.out hb); clear HBc hb; have HBc := n9_; clear n9_; refine hK.out _ _ ⟨(qau HBc.out HXc.out), (qau HBc.out HXr.out), (qau HBc.out HX0.out), (qau HBc.out HX1.out)⟩ (fun hHeld => ?_); clear hK K; refine qep (a' := ?_) ?_ ?_; rotate_left
           · show Act.put _ (some 35) _ = _
             simp only [Act.put, List.setIfInBounds_toArray, List.set_cons_zero, List.set_cons_succ, qd7, qew]; rfl
           refine two_ (i := 3) (j := 8) (Ni := some 37) (Nj := some 42) #[true, true, true, true, true, true, true, true, false, false, true, true, false] #[true, true, true, false, true, true, true, true, true, false, true, true, false] rfl rfl rfl rfl (by kernel_rfl) (by decide) (by decide) (fun K hK => ?_) (fun K hK => ?_)
           ·skip
            refine Kd.qbY qaL (w0 := wS) wS.heap.size (by rfl) (.tmp 35) (.tmp 36) 26 85 (.agg #[(.int .i64 0), (.int .i64 0)]) 16 rfl Tryz.underlying26 qcY rfl (by decide) (by omega) v35 ([] : List qac) list _ _ _ (fun _ => True) (fun _ => False) rfl rfl HL0.out ?aR (fun _ _ h => h) (fun _ h => h.elim) (fun _ _ => trivial) HBc.out (qab HBc.out) ?aL ?_
            (case aR => exact HLC.out _ (qfs.qez (qfs.qez HMV.out HBx.out) HBc.out))
            (case aL => have h_ := HLB.out; simp only [List.length_nil]; omega)
            intro v37 w3_1 ho hb hg hat_; simp only [List.nil_append] at ho; clear hg hat_ HL0 HBc; have HA := ak_ ho; have HBc := ak_ hb; clear ho hb; refine hK.out _ _ ⟨(qau HBc.out HXc.out), (qau HBc.out HXr.out), (qau HBc.out HX0.out), (qau HBc.out HX1.out)⟩ (fun hHeld => ?_); clear hK K; refine qep (a' := ?_) ?_ ?_; rotate_left
            · show Act.put _ (some 37) _ = _
              simp only [Act.put, List.setIfInBounds_toArray, List.set_cons_zero, List.set_cons_succ, qd7, qew]; rfl
            refine qfH (i := 8) (N := some 42) #[true, true, true, true, true, true, true, true, true, false, true, true, false] rfl rfl (by kernel_rfl) (by decide) (fun K hK => ?_); refine Kd.qdS qaL _ 85 ?hg (N := 42) ?hd (xs := ([qae rules i] : List qac)) (inner := [.int .i64 (qae rules i).f0, .int .i64 (qae rules i).f1]) (ok := fun _ => True) (okp := fun _ => True) ?hr ?hp (fun _ hk => hk) trivial (Below.refl _ _) (Nat.le_refl _) (by simp) ?_
            (case hd => rfl)
            (case hg => rfl)
            (case hr => exact qbe)
            (case hp => exact qef.front (qdm _ _ _ (qae rules i)) rfl (qef.none _ _) rfl)
            intro v42 w8_2 ho hb hg_ hnew_; clear hg_ hnew_; have n1_ := ak_ (Kd.qbv HA.out hb); clear HA; have HA := n1_; clear n1_; have HL1 := ak_ (Kd.qax ho (qab HBc.out)); clear ho; have n9_ := ak_ (qaa HBc.out hb); clear HBc hb; have HBc := n9_; clear n9_; refine hK.out _ _ ⟨(qau HBc.out HXc.out), (qau HBc.out HXr.out), (qau HBc.out HX0.out), (qau HBc.out HX1.out)⟩ (fun hHeld => ?_); clear hK K; refine qep (a' := ?_) ?_ ?_; rotate_left
            · show Act.put _ (some 42) _ = _
              simp only [Act.put, List.setIfInBounds_toArray, List.set_cons_zero, List.set_cons_succ, qd7, qew]; rfl
            exact qep qqN (hCont (v35, v37, v42) _ ⟨HA.out, Kd.qa9 HL1.out (fun _ _ => trivial), HBc.out⟩)
           skip
           refine Kd.qdS qaL _ 85 ?hg (N := 42) ?hd (xs := ([qae rules i] : List qac)) (inner := [.int .i64 (qae rules i).f0, .int .i64 (qae rules i).f1]) (ok := fun _ => True) (okp := fun _ => True) ?hr ?hp (fun _ hk => hk) trivial (Below.refl _ _) (Nat.le_refl _) (by simp) ?_
           (case hd => rfl)
           (case hg => rfl)
           (case hr => exact qbe)
           (case hp => exact qef.front (qdm _ _ _ (qae rules i)) rfl (qef.none _ _) rfl)
           intro v42 w8_1 ho hb hg_ hnew_; clear hg_ hnew_; have HL1 := ak_ (Kd.qa9 (Kd.qax (Kd.qh1 ho (Kd.qjI HL0.out)) (qab HBc.out)) (fun _ hk => hk.2)); have n1_ := ak_ (Kd.qbv HL0.out hb); clear HL0 ho; have HL0 := n1_; clear n1_; have n9_ := ak_ (qaa HBc.out hb); clear HBc hb; have HBc := n9_; clear n9_; refine hK.out _ _ ⟨(qau HBc.out HXc.out), (qau HBc.out HXr.out), (qau HBc.out HX0.out), (qau HBc.out HX1.out)⟩ (fun hHeld => ?_); clear hK K; refine qep (a' := ?_) ?_ ?_; rotate_left
           · show Act.put _ (some 42) _ = _
             simp only [Act.put, List.setIfInBounds_toArray, List.set_cons_zero, List.set_cons_succ, qd7, qew]; rfl
           refine qfH (i := 3) (N := some 37) #[true, true, true, true, true, true, true, true, true, false, true, true, false] rfl rfl (by kernel_rfl) (by decide) (fun K hK => ?_); refine Kd.qbY qaL (w0 := wS) wS.heap.size (by rfl) (.tmp 35) (.tmp 36) 26 85 (.agg #[(.int .i64 0), (.int .i64 0)]) 16 rfl Tryz.underlying26 qcY rfl (by decide) (by omega) v35 ([] : List qac) list _ _ _ (fun _ => True) (fun _ => False) rfl rfl HL0.out ?aR (fun _ _ h => h) (fun _ h => h.elim) (fun _ _ => trivial) HBc.out (qab HBc.out) ?aL ?_
           (case aR => exact HLC.out _ (qfs.qez (qfs.qez HMV.out HBx.out) HBc.out))
           (case aL => have h_ := HLB.out; simp only [List.length_nil]; omega)
           intro v37 w3_2 ho hb hg hat_; simp only [List.nil_append] at ho; have n1_ := ak_ (Kd.qiW HL1.out hg (fun _ hk => hk)); clear HL1; have HL1 := n1_; clear n1_; clear hg hat_ HL0 HBc; have HA := ak_ ho; have HBc := ak_ hb; clear ho hb; refine hK.out _ _ ⟨(qau HBc.out HXc.out), (qau HBc.out HXr.out), (qau HBc.out HX0.out), (qau HBc.out HX1.out)⟩ (fun hHeld => ?_); clear hK K; refine qep (a' := ?_) ?_ ?_; rotate_left
           · show Act.put _ (some 37) _ = _
             simp only [Act.put, List.setIfInBounds_toArray, List.set_cons_zero, List.set_cons_succ, qd7, qew]; rfl
           exact qep qqN (hCont (v35, v37, v42) _ ⟨HA.out, Kd.qa9 HL1.out (fun _ _ => trivial), HBc.out⟩)
          skip
          refine Kd.qdS qaL _ 85 ?hg (N := 42) ?hd (xs := ([qae rules i] : List qac)) (inner := [.int .i64 (qae rules i).f0, .int .i64 (qae rules i).f1]) (ok := fun _ => True) (okp := fun _ => True) ?hr ?hp (fun _ hk => hk) trivial (Below.refl _ _) (Nat.le_refl _) (by simp) ?_
          (case hd => rfl)
          (case hg => rfl)
          (case hr => exact qbe)
          (case hp => exact qef.front (qdm _ _ _ (qae rules i)) rfl (qef.none _ _) rfl)
          intro v42 w8_0 ho hb hg_ hnew_; clear hg_ hnew_; have HL1 := ak_ (Kd.qax ho (qab HBc.out)); clear ho; have n9_ := ak_ (qaa HBc.out hb); clear HBc hb; have HBc := n9_; clear n9_; refine hK.out _ _ ⟨(qau HBc.out HXc.out), (qau HBc.out HXr.out), (qau HBc.out HX0.out), (qau HBc.out HX1.out)⟩ (fun hHeld => ?_); clear hK K; refine qep (a' := ?_) ?_ ?_; rotate_left
          · show Act.put _ (some 42) _ = _
            simp only [Act.put, List.setIfInBounds_toArray, List.set_cons_zero, List.set_cons_succ, qd7, qew]; rfl
          refine qfH (i := 1) (N := some 35) #[true, true, true, false, true, true, true, true, true, false, true, true, false] rfl rfl (by kernel_rfl) (by decide) (fun K hK => ?_); refine Kd.qdS qaL _ 85 ?hg (N := 35) ?hd (xs := ([] : List qac)) (inner := []) (ok := fun _ => True) (okp := fun _ => True) ?hr ?hp (fun _ hk => hk) trivial (Below.refl _ _) (Nat.le_refl _) (by simp) ?_
          (case hd => rfl)
          (case hg => rfl)
          (case hr => exact qbe)
          (case hp => exact qef.none _ _)
          intro v35 w1_1 ho hb hg_ hnew_; clear hg_ hnew_; have n1_ := ak_ (Kd.qa9 (Kd.qfB HL1.out (Kd.qfj ho) hb) (fun _ hk => hk.2)); clear HL1; have HL1 := n1_; clear n1_; have HL0 := ak_ (Kd.qax ho (qab HBc.out)); clear ho; have n9_ := ak_ (qaa HBc.out hb); clear HBc hb; have HBc := n9_; clear n9_; refine hK.out _ _ ⟨(qau HBc.out HXc.out), (qau HBc.out HXr.out), (qau HBc.out HX0.out), (qau HBc.out HX1.out)⟩ (fun hHeld => ?_); clear hK K; refine qep (a' := ?_) ?_ ?_; rotate_left
          · show Act.put _ (some 35) _ = _
            simp only [Act.put, List.setIfInBounds_toArray, List.set_cons_zero, List.set_cons_succ, qd7, qew]; rfl
          refine qfH (i := 3) (N := some 37) #[true, true, true, true, true, true, true, true, true, false, true, true, false] rfl rfl (by kernel_rfl) (by decide) (fun K hK => ?_); refine Kd.qbY qaL (w0 := wS) wS.heap.size (by rfl) (.tmp 35) (.tmp 36) 26 85 (.agg #[(.int .i64 0), (.int .i64 0)]) 16 rfl Tryz.underlying26 qcY rfl (by decide) (by omega) v35 ([] : List qac) list _ _ _ (fun _ => True) (fun _ => False) rfl rfl HL0.out ?aR (fun _ _ h => h) (fun _ h => h.elim) (fun _ _ => trivial) HBc.out (qab HBc.out) ?aL ?_
          (case aR => exact HLC.out _ (qfs.qez (qfs.qez HMV.out HBx.out) HBc.out))
          (case aL => have h_ := HLB.out; simp only [List.length_nil]; omega)
          intro v37 w3_2 ho hb hg hat_; simp only [List.nil_append] at ho; have n1_ := ak_ (Kd.qiW HL1.out hg (fun _ hk => hk)); clear HL1; have HL1 := n1_; clear n1_; clear hg hat_ HL0 HBc; have HA := ak_ ho; have HBc := ak_ hb; clear ho hb; refine hK.out _ _ ⟨(qau HBc.out HXc.out), (qau HBc.out HXr.out), (qau HBc.out HX0.out), (qau HBc.out HX1.out)⟩ (fun hHeld => ?_); clear hK K; refine qep (a' := ?_) ?_ ?_; rotate_left
          · show Act.put _ (some 37) _ = _
            simp only [Act.put, List.setIfInBounds_toArray, List.set_cons_zero, List.set_cons_succ, qd7, qew]; rfl
          exact qep qqN (hCont (v35, v37, v42) _ ⟨HA.out, Kd.qa9 HL1.out (fun _ _ => trivial), HBc.out⟩)
        rintro ⟨v35, v37, v42⟩ wJ ⟨ha_, hl_, hb_⟩; clear HBc; have HA := ak_ ha_; have HL1 := ak_ hl_; have HBc := ak_ hb_; clear ha_ hl_ hb_; obtain ⟨A42, c42, e42⟩ := Kd.qaI HL1.out; dsimp only at e42; subst e42; refine qep (a' := ?_) ?_ ?_; rotate_left
        · simp only [qiH, Act.put, List.setIfInBounds_toArray, List.set_cons_zero, List.set_cons_succ]
          rfl
        refine qfH (i := 9) (N := some 43) #[true, true, true, true, true, true, true, true, true, true, true, true, false] rfl rfl (by kernel_rfl) (by decide) (fun K hK => ?_); refine Kd.qbY qaL (w0 := wS) wS.heap.size (by rfl) (.tmp 37) (.tmp 42) 26 85 (.agg #[(.int .i64 0), (.int .i64 0)]) 16 rfl Tryz.underlying26 qcY rfl (by decide) (by omega) v37 list [qae rules i] _ _ _ (fun _ => True) (fun _ => False) rfl rfl HA.out ?aR (fun _ _ h => h) (fun _ h => h.elim) (fun _ _ => trivial) HBc.out (qab HBc.out) ?aL ?_
        (case aR => exact (Kd.qao HL1.out).2.2)
        (case aL => have h_ := HLB.out; simp only [List.length_singleton]; omega)
        intro v43 wB ho hb hg hat_; clear hg hat_ HA HL1 HBc; have HA := ak_ ho; have HBc := ak_ hb; clear ho hb; obtain ⟨A43, c43, e43⟩ := Kd.qaI HA.out; subst e43; refine hK.out _ _ ⟨(qau HBc.out HXc.out), (qau HBc.out HXr.out), (qau HBc.out HX0.out), (qau HBc.out HX1.out)⟩ (fun hHeld => ?_); clear hK K; refine qep (a' := ?_) ?_ ?_; rotate_left
        · show Act.put _ (some 43) _ = _
          simp only [Act.put, List.setIfInBounds_toArray, List.set_cons_zero, List.set_cons_succ, qd7, qew]; rfl
        refine last_ (i := 12) (N := some 46) #[true, true, true, true, true, true, true, true, true, true, true, true, true] rfl rfl (by kernel_rfl) (by decide) (fun K hK => ?_); refine goesV_ #[.pointer (some ⟨g, 0, none⟩), .pointer (some ⟨gM, 0, none⟩), .pointer (some ⟨gP, 0, none⟩), .pointer (some ⟨gR, 0, none⟩), .pointer (some ⟨gC, 0, none⟩)] Tryz.func236 (by kernel_rfl) rfl #[.slice A43 (list ++ [qae rules i]).length c43, .int .i64 (wrap64 (i + 1))] (by rfl) rfl rfl rfl qbZ ?_; have HSB := ak_ (ChSt.below (ChSt.below HST.out HBx.out) HBc.out); refine (IH.out k1 (by have := HK.out; omega) (list ++ [qae rules i]) (wrap64 (i + 1)) o o2 A43 c43 (.slice Aq o.length cq) _ ?s1 ?s2 ?s3 ?s4 A_.out).mono ?_
        (case s1 => exact HSB.out)
        (case s2 => exact (Kd.qao HA.out).2.1)
        (case s3 => exact Kd.qax HA.out (Nat.le_trans HST.out.2.2.size HBx.out.size))
        (case s4 => exact Kd.qgo (Kd.qgR (Kd.qgR (Kd.ql4 HST.out.2.1) HBx.out) HBc.out) (fun k_ hk => ⟨hk.1, fun e_ => by have h1_ := Kd.qfj HA.out k_ e_.symm; have h2_ := hk.2.2.1; have h3_ := HBx.out.size; omega⟩))
        rintro e wC ⟨rfl, v1, h1_, h2_, h3_⟩; refine ⟨_, rfl, ?_⟩; have HSTN := ak_ h1_; have HMVN := ak_ (qfs.trans (qfs.qez (qfs.qez HMV.out HBx.out) HBc.out) h2_ HRO.out); have HRON := ak_ (show ChRo W (Value.slice Ao out.length co) v1 from fun k_ hk => (h3_ k_ hk).elim (fun e_ => HRO.out k_ e_) (fun hb_ => .inr (Nat.le_trans (Nat.le_trans HMV.out.size (Nat.le_trans HBx.out.size HBc.out.size)) hb_))); clear h1_ h2_ h3_ HSB; refine hK.out _ _ ?_; clear hK K; refine qep (a' := ?_) ?_ ?_; rotate_left
        · show Act.put _ (some 46) _ = _
          simp only [Act.put, List.setIfInBounds_toArray, List.set_cons_zero, List.set_cons_succ, qd7, qew]; rfl
        refine qgu (by kernel_rfl) ?_; go_wp2
        go_roundg k1
        case measure => have := HK.out; omega
        case rel => exact ⟨o2, wrap64 (i + 1), v1, (by first | rfl | (simp; done)), H', ⟨by have := HK.out; omega⟩, HSTN, HMVN, HRON⟩
def qcK.f (k : Nat) (qbP : ByteArray) (qcz : Int) (a1 : Int) : Option (List (List qac)) := (qaZ.f k qbP).bind fun rules => qa5.f k qbP qcz a1 rules [] 0 []
theorem qcK.calls (k : Nat) (qbP : ByteArray) (qcz : Int) (a1 : Int) (r : List (List qac)) (w : World) (h : qcK.f k qbP qcz a1 = some r) :
    Calls Tryz.prog 197 #[.agg #[.string qbP, .int .i64 qcz], .int .i64 a1] w fun e w' => ∃ v0_ : Value, e = .returned (v0_) ∧ Kd.S (Kd.slice 85 qaL) 26 w' w.heap.size (fun _ => True) v0_ r ∧ Below w.heap.size w w' := by
  have hu := Tryz.underlying99; unfold qcK.f at h; replace h := Option.bind_eq_some_iff.mp h; obtain ⟨rules, A1_, h⟩ := h; have A1 := ak_ A1_; have H := ak_ h; clear A1_ h; go_enter Tryz.func197, Tryz.ntmps197
  go_wp2_with (first | ((with_reducible refine qal (N := 2) rfl ?_); refine bx_ 2 rfl (cs := #[.string qbP, .int .i64 qcz]) (t := 99) qbe ?_; intro gP hg w1 hbox hb; have BP1 := ak_ hbox; have HB1 := ak_ hb; have GP := ak_ (show w.heap.size ≤ gP by rw [hg]; exact Nat.le_refl _); clear hbox hb hg) | ((with_reducible refine qal (N := 3) rfl ?_); refine bx_ 3 rfl (cs := #[.int .i64 a1]) (t := 3) qbe ?_; intro gM hg w2 hbox hb; have BM2 := ak_ hbox; have BP2 := ak_ (qar BP1.out hb); have HB2 := ak_ (qaa HB1.out hb); have GM := ak_ (show gP < gM by rw [hg]; exact qdU BP1.out); have hcP0 := qed BP2.out; clear BP1 HB1; clear hbox hb hg) | (refine gl_ 10 Tryz.func235 #[.string qbP] rfl qbZ ?_; (with_reducible refine (qaZ.calls k qbP rules _ A1.out).mono ?_); rintro e w3 ⟨v10, rfl, ho, hb⟩; refine ⟨_, rfl, ?_⟩; obtain ⟨A10, c10, e10⟩ := Kd.qaI ho; subst e10; have HL3 := ak_ ho; have BP3 := ak_ (qar BP2.out hb); have BM3 := ak_ (qar BM2.out hb); have HB3 := ak_ (qaa HB2.out hb); clear ho hb hcP0 BP2 BM2 HB2) | ((with_reducible refine qal (N := 5) rfl ?_); refine bx_ 5 rfl (cs := #[.slice none 0 0]) (t := 26) qbe ?_; intro gR hg w4 hbox hb; have BR4 := ak_ hbox; have BP4 := ak_ (qar BP3.out hb); have BM4 := ak_ (qar BM3.out hb); have HL4 := ak_ (Kd.qbv HL3.out hb); have HB4 := ak_ (qaa HB3.out hb); have GR := ak_ (show gM < gR by rw [hg]; exact qdU BM3.out); have hcR : w4.cell? ⟨gR, 0, none⟩ = some (.slice none 0 0) := (qba hbox 0).trans rfl; have hfR := qad hbox 0; clear BP3 BM3 HL3 HB3; clear hbox hb hg) | ((with_reducible refine qal (N := 11) rfl ?_); obtain ⟨gL, hgL⟩ : ∃ g_, g_ = (w4.setCell ⟨gR, 0, none⟩ (.slice A10 rules.length c10)).heap.size := ⟨_, rfl⟩; refine Kd.qhq (Kd.tag (fun _ => 0) (Kd.slice 85 qaL)) _ 26 ?hg (N := 11) ?hd (xs := ([] : List (List qac × Nat))) (inner := []) (ok := fun k_ => k_ = gL) (okp := fun _ => False) ?hr ?hp (fun _ hk => hk.elim) hgL.symm (Below.refl _ _) (Nat.le_refl _) (by simp) ?_; (case hd => rfl); (case hg => rfl); (case hr => exact qbe); (case hp => exact qef.none _ _); intro v11 w5 ho hb hg_ hnew_; clear hg_; obtain ⟨b_, hb1_, -⟩ := hnew_; have hb2_ := ho.1 b_ hb1_; have GLT := ak_ (show gL < w5.heap.size by rw [← hb2_]; exact Kd.qjI ho b_ hb1_); have HTL := ak_ (show ∃ cells_, w5.heap[gL]? = some (.cells cells_ 26 (0, 0)) by rw [← hb2_]; exact Kd.qe7 ho b_ hb1_); clear hb1_ hb2_; obtain ⟨A11, c11, e11⟩ := Kd.qaI ho; replace e11 : v11 = (.slice A11 0 c11) := e11; subst e11; have HS5 := ak_ (Kd.qax ho (show w.heap.size ≤ (w4.setCell ⟨gR, 0, none⟩ (.slice A10 rules.length c10)).heap.size by have := HB4.out.size; simpa [World.setCell] using this)); have BR5 := ak_ (qar (qbl (cs' := #[(.slice A10 rules.length c10)]) BR4.out 0 (.slice A10 rules.length c10) rfl) hb); have BP5 := ak_ (qar (qcZ BP4.out (p := ⟨gR, 0, none⟩) (by have h1_ := GM.out; have h2_ := GR.out; show gP ≠ gR; omega) (.slice A10 rules.length c10)) hb); have BM5 := ak_ (qar (qcZ BM4.out (p := ⟨gR, 0, none⟩) (by have h2_ := GR.out; show gM ≠ gR; omega) (.slice A10 rules.length c10)) hb); have HL5 := ak_ (Kd.qbv (Kd.qgQ HL4.out BR4.out (by decide) 0 (.slice A10 rules.length c10)) hb); have HB5 := ak_ (qaa (qas HB4.out (by have h0_ := GP.out; have h1_ := GM.out; have h2_ := GR.out; omega)) hb); have GL := ak_ (show gR < gL by rw [hgL]; have := qdU BR4.out; simpa [World.setCell] using this); clear hgL ho hb BR4 BP4 BM4 HL4 HB4 hcR hfR) | ((with_reducible refine qal (N := 6) rfl ?_); refine bx_ 6 rfl (cs := #[.slice none 0 0]) (t := 145) qbe ?_; intro gO hg w6 hbox hb; have BO6 := ak_ hbox; have BR6 := ak_ (qar BR5.out hb); have BP6 := ak_ (qar BP5.out hb); have BM6 := ak_ (qar BM5.out hb); have HL6 := ak_ (Kd.qbv HL5.out hb); have HS6 := ak_ (Kd.qbv HS5.out hb); have HTL6 := ak_ (HTL.out.elim (fun c_ hc_ => ⟨c_, qar hc_ hb⟩) : ∃ cells_, w6.heap[gL]? = some (.cells cells_ 26 (0, 0))); have HB6 := ak_ (qaa HB5.out hb); have GO := ak_ (show gL < gO ∧ gR < gO by rw [hg]; exact ⟨GLT.out, qdU BR5.out⟩); have hcO : w6.cell? ⟨gO, 0, none⟩ = some (.slice none 0 0) := (qba hbox 0).trans rfl; have hfO := qad hbox 0; clear BR5 BP5 BM5 HL5 HS5 HB5 HTL GLT; clear hbox hb hg) | ((with_reducible refine qal (N := 7) rfl ?_); refine bx_ 7 rfl (cs := #[.nilFunc]) (t := 198) qbe ?_; intro gC hg w8 hbox hb; have BC8 := ak_ hbox; have BO8 := ak_ (qar (qbl (cs' := #[(.slice A11 0 c11)]) BO6.out 0 (.slice A11 0 c11) rfl) hb); have BR8 := ak_ (qar (qcZ BR6.out (p := ⟨gO, 0, none⟩) (by have h1_ := GO.out.2; show gR ≠ gO; omega) (.slice A11 0 c11)) hb); have BP8 := ak_ (qar (qcZ BP6.out (p := ⟨gO, 0, none⟩) (by have h1_ := GO.out.2; have h2_ := GR.out; have h3_ := GM.out; show gP ≠ gO; omega) (.slice A11 0 c11)) hb); have BM8 := ak_ (qar (qcZ BM6.out (p := ⟨gO, 0, none⟩) (by have h1_ := GO.out.2; have h2_ := GR.out; show gM ≠ gO; omega) (.slice A11 0 c11)) hb); have HL8 := ak_ (Kd.qbv (Kd.qgQ HL6.out BO6.out (by decide) 0 (.slice A11 0 c11)) hb); have HS8 := ak_ (Kd.qbv (Kd.qcV (p := ⟨gO, 0, none⟩) HS6.out (fun k_ hk => by have h1_ := GO.out.1; show k_ ≠ gO; omega) (.slice A11 0 c11)) hb); have HB8 := ak_ (qaa (qas HB6.out (by have h0_ := GP.out; have h1_ := GM.out; have h2_ := GR.out; have h3_ := GO.out.2; omega)) hb); have HTL8 := ak_ (HTL6.out.elim (fun c_ hc_ => ⟨c_, qar (qcZ hc_ (p := ⟨gO, 0, none⟩) (by have h1_ := GO.out.1; show gL ≠ gO; omega) _) hb⟩) : ∃ cells_, w8.heap[gL]? = some (.cells cells_ 26 (0, 0))); have GC := ak_ (show gO < gC by rw [hg]; have := qdU BO6.out; simpa [World.setCell] using this); have hcC : w8.cell? ⟨gC, 0, none⟩ = some .nilFunc := (qba hbox 0).trans rfl; have hfC := qad hbox 0; have hstF : ∀ (m : Mode) (W : World), Sem.run Tryz.prog (store ⟨gC, 0, none⟩ (.func (.func 236) #[] #[.pointer (some ⟨gO, 0, none⟩), .pointer (some ⟨gM, 0, none⟩), .pointer (some ⟨gP, 0, none⟩), .pointer (some ⟨gR, 0, none⟩), .pointer (some ⟨gC, 0, none⟩)]) m) W = stored Tryz.prog W ⟨gC, 0, none⟩ (.func (.func 236) #[] #[.pointer (some ⟨gO, 0, none⟩), .pointer (some ⟨gM, 0, none⟩), .pointer (some ⟨gP, 0, none⟩), .pointer (some ⟨gR, 0, none⟩), .pointer (some ⟨gC, 0, none⟩)]) m := fun m W => run_store _ W _ _ m rfl; clear BO6 BR6 BP6 BM6 HL6 HS6 HB6 HTL6 hcO hfO; clear hbox hb hg))
  have BC0 := ak_ (show (w8.setCell ⟨gC, 0, none⟩ (.func (.func 236) #[] #[.pointer (some ⟨gO, 0, none⟩), .pointer (some ⟨gM, 0, none⟩), .pointer (some ⟨gP, 0, none⟩), .pointer (some ⟨gR, 0, none⟩), .pointer (some ⟨gC, 0, none⟩)])).heap[gC]? = _ from qbl (cs' := #[(.func (.func 236) #[] #[.pointer (some ⟨gO, 0, none⟩), .pointer (some ⟨gM, 0, none⟩), .pointer (some ⟨gP, 0, none⟩), .pointer (some ⟨gR, 0, none⟩), .pointer (some ⟨gC, 0, none⟩)])]) BC8.out 0 (.func (.func 236) #[] #[.pointer (some ⟨gO, 0, none⟩), .pointer (some ⟨gM, 0, none⟩), .pointer (some ⟨gP, 0, none⟩), .pointer (some ⟨gR, 0, none⟩), .pointer (some ⟨gC, 0, none⟩)]) rfl); have BO0 := ak_ (show (w8.setCell ⟨gC, 0, none⟩ (.func (.func 236) #[] #[.pointer (some ⟨gO, 0, none⟩), .pointer (some ⟨gM, 0, none⟩), .pointer (some ⟨gP, 0, none⟩), .pointer (some ⟨gR, 0, none⟩), .pointer (some ⟨gC, 0, none⟩)])).heap[gO]? = _ from qcZ BO8.out (p := ⟨gC, 0, none⟩) (by have h1_ := GC.out; show gO ≠ gC; omega) _); have BR0 := ak_ (show (w8.setCell ⟨gC, 0, none⟩ (.func (.func 236) #[] #[.pointer (some ⟨gO, 0, none⟩), .pointer (some ⟨gM, 0, none⟩), .pointer (some ⟨gP, 0, none⟩), .pointer (some ⟨gR, 0, none⟩), .pointer (some ⟨gC, 0, none⟩)])).heap[gR]? = _ from qcZ BR8.out (p := ⟨gC, 0, none⟩) (by have h1_ := GC.out; have h2_ := GO.out.2; show gR ≠ gC; omega) _); have BP0 := ak_ (show (w8.setCell ⟨gC, 0, none⟩ (.func (.func 236) #[] #[.pointer (some ⟨gO, 0, none⟩), .pointer (some ⟨gM, 0, none⟩), .pointer (some ⟨gP, 0, none⟩), .pointer (some ⟨gR, 0, none⟩), .pointer (some ⟨gC, 0, none⟩)])).heap[gP]? = _ from qcZ BP8.out (p := ⟨gC, 0, none⟩) (by have h1_ := GC.out; have h2_ := GO.out.2; have h3_ := GR.out; have h4_ := GM.out; show gP ≠ gC; omega) _); have BM0 := ak_ (show (w8.setCell ⟨gC, 0, none⟩ (.func (.func 236) #[] #[.pointer (some ⟨gO, 0, none⟩), .pointer (some ⟨gM, 0, none⟩), .pointer (some ⟨gP, 0, none⟩), .pointer (some ⟨gR, 0, none⟩), .pointer (some ⟨gC, 0, none⟩)])).heap[gM]? = _ from qcZ BM8.out (p := ⟨gC, 0, none⟩) (by have h1_ := GC.out; have h2_ := GO.out.2; have h3_ := GR.out; show gM ≠ gC; omega) _); have HL0 := ak_ (Kd.qgQ HL8.out BC8.out (by decide) 0 (.func (.func 236) #[] #[.pointer (some ⟨gO, 0, none⟩), .pointer (some ⟨gM, 0, none⟩), .pointer (some ⟨gP, 0, none⟩), .pointer (some ⟨gR, 0, none⟩), .pointer (some ⟨gC, 0, none⟩)])); have HTL0 := ak_ (HTL8.out.elim (fun c_ hc_ => ⟨c_, qcZ hc_ (p := ⟨gC, 0, none⟩) (by have h1_ := GO.out.1; have h2_ := GC.out; show gL ≠ gC; omega) _⟩) : ∃ cells_, (w8.setCell ⟨gC, 0, none⟩ (.func (.func 236) #[] #[.pointer (some ⟨gO, 0, none⟩), .pointer (some ⟨gM, 0, none⟩), .pointer (some ⟨gP, 0, none⟩), .pointer (some ⟨gR, 0, none⟩), .pointer (some ⟨gC, 0, none⟩)])).heap[gL]? = some (.cells cells_ 26 (0, 0))); have HS0 := ak_ (Kd.qcV (p := ⟨gC, 0, none⟩) HS8.out (fun k_ hk => by have h1_ := GO.out.1; have h2_ := GC.out; show k_ ≠ gC; omega) (.func (.func 236) #[] #[.pointer (some ⟨gO, 0, none⟩), .pointer (some ⟨gM, 0, none⟩), .pointer (some ⟨gP, 0, none⟩), .pointer (some ⟨gR, 0, none⟩), .pointer (some ⟨gC, 0, none⟩)])); have HB0 := ak_ (qas (g := gC) (j := 0) (v := (.func (.func 236) #[] #[.pointer (some ⟨gO, 0, none⟩), .pointer (some ⟨gM, 0, none⟩), .pointer (some ⟨gP, 0, none⟩), .pointer (some ⟨gR, 0, none⟩), .pointer (some ⟨gC, 0, none⟩)])) HB8.out (by have h0_ := GP.out; have h1_ := GM.out; have h2_ := GR.out; have h3_ := GO.out.2; have h4_ := GC.out; omega)); clear BC8 BO8 BR8 BP8 BM8 HL8 HTL8 HS8 HB8 hcC hfC hstF
  generalize w8.setCell ⟨gC, 0, none⟩ (.func (.func 236) #[] #[.pointer (some ⟨gO, 0, none⟩), .pointer (some ⟨gM, 0, none⟩), .pointer (some ⟨gP, 0, none⟩), .pointer (some ⟨gR, 0, none⟩), .pointer (some ⟨gC, 0, none⟩)]) = W0 at BC0 BO0 BR0 BP0 BM0 HL0 HTL0 HS0 HB0 ⊢
  have HF := ak_ (show ChFix W0 w.heap.size gL gO gM gP gR gC qbP qcz a1 A10 c10 rules from ⟨⟨qdU BO0.out, by have h1_ := GO.out.1; omega, HB0.out.size⟩, ⟨⟨by have h1_ := GO.out.2; have h2_ := GR.out; omega, by have h1_ := GL.out; have h2_ := GR.out; omega⟩, ⟨by have h1_ := GO.out.2; have h2_ := GR.out; have h3_ := GM.out; omega, by have h1_ := GL.out; have h2_ := GR.out; have h3_ := GM.out; omega⟩, ⟨by have h1_ := GO.out.2; omega, by have h1_ := GL.out; omega⟩, ⟨by have h1_ := GC.out; omega, by have h1_ := GC.out; have h2_ := GO.out.1; omega⟩⟩, BM0.out, BP0.out, BR0.out, BC0.out, (Kd.qao HL0.out).2.1, fun W' hm => ch_rules BO0.out HTL0.out HL0.out hm⟩); have HSS := ak_ (show Kd.S (Kd.slice 85 qaL) 26 W0 w.heap.size (fun k_ => k_ = gL) (.slice A11 0 c11) [] from ⟨fun _ => 0, HS0.out⟩); refine qmc (args' := #[.slice none ([] : List qac).length 0, .int .i64 0] ++ #[.pointer (some ⟨gO, 0, none⟩), .pointer (some ⟨gM, 0, none⟩), .pointer (some ⟨gP, 0, none⟩), .pointer (some ⟨gR, 0, none⟩), .pointer (some ⟨gC, 0, none⟩)]) rfl ?_; refine (qa5.own W0 w.heap.size gL gO gM gP gR gC qbP qcz a1 A10 c10 rules HF k [] 0 [] r none 0 (.slice A11 0 c11) W0 ⟨BO0.out, Kd.qgo HSS.out (fun _ h_ => .inl h_), qfs.refl _⟩ (Nat.le_refl _) (Kd.qfP _ _ _ _ _) (Kd.qgo HSS.out (fun _ h_ => ⟨.inl h_, by simp [Value.ownBlock]⟩)) H.out).mono ?_; rintro e wE ⟨rfl, v1, h1_, h2_, h3_⟩; have HE1 := ak_ h1_; clear h1_ h2_ h3_; obtain ⟨A1v, c1v, e1v⟩ := Kd.qdL HE1.out.2.1; subst e1v; have hcE : wE.cell? ⟨gO, 0, none⟩ = some (.slice A1v r.length c1v) := (qba HE1.out.1 0).trans rfl; go_wp2
  go_ret
  exact ⟨_, rfl, Kd.qgo HE1.out.2.1 (fun _ _ => trivial), HE1.out.2.2.os.trans HB0.out.os, HE1.out.2.2.tape.trans HB0.out.tape, HE1.out.2.2.output.trans HB0.out.output, Nat.le_trans HB0.out.size HE1.out.2.2.size, fun k_ hk => (HE1.out.2.2.block k_ (Nat.lt_of_lt_of_le hk HB0.out.size) (by have h0_ := GP.out; have h1_ := GM.out; have h2_ := GR.out; have h3_ := GO.out.2; omega) (fun e_ => by injection e_ with e_; have h0_ := GP.out; have h1_ := GM.out; have h2_ := GR.out; have h3_ := GL.out; omega)).trans (HB0.out.block k_ hk)⟩
def qc7.f (k : Nat) (qbP : ByteArray) (qcz : Int) : Option ((List (List (qac))) × Bool) := (qcC.f qbP qcz).bind fun qaR => (if qaR = true then ((qcK.f k qbP qcz 301).bind fun qce => (if (qce.length : Int) > 300 then (some (([] : List (List (qac))), false)) else (some (qce, true)))) else (some (([] : List (List (qac))), false)))
theorem qc7.calls (k : Nat) (qbP : ByteArray) (qcz : Int) (r1 : List (List (qac))) (r2 : Bool) (w : World) (h : qc7.f k qbP qcz = some (r1, r2)) :
  Calls Tryz.prog 136 #[.agg #[.string qbP, .int .i64 qcz]] w fun e w' => ∃ v0_ : Value, e = .returned (.tuple #[v0_, .bool r2]) ∧ Kd.S (Kd.slice 85 qaL) 26 w' w.heap.size (fun _ => True) v0_ r1 ∧ Below w.heap.size w w' := by
 have hu99 := Tryz.underlying99; have HB := br_ w; have H : ((qcC.f qbP qcz).bind fun qaR => (if qaR = true then ((qcK.f k qbP qcz 301).bind fun qce => (if (qce.length : Int) > 300 then (some (([] : List (List (qac))), false)) else (some (qce, true)))) else (some (([] : List (List (qac))), false)))) = some (r1, r2) := h; clear h; obtain ⟨qaR, A2, H⟩ := qay H; (try dsimp only at H); by_cases c3 : qaR = true; rotate_left
 ·replace c3 := Bool.eq_false_iff.mpr c3; subst c3; rw [if_neg ff_] at H; obtain ⟨rfl, rfl⟩ := qdF H; go_enter Tryz.func136, Tryz.ntmps136
  go_wp2_with (first | ((with_reducible refine qal (N := 1) rfl ?_); refine bx_ 1 rfl (cs := #[.string qbP, .int .i64 qcz]) (t := 99) qbe ?_; intro qb6 hg w18 hbox hb; have qaG := ak_ (hbox); have qeO := ak_ (HB.ge hg); have qem := ak_ (HB.ge hg); replace HB := HB.mw hb; clear hb hbox hg; obtain ⟨hcz19_0, hcz19_1, hfz19_0, hfz19_1⟩ := qbG qaG.out) | (refine gl_ 6 Tryz.func134 #[.agg #[.string qbP, .int .i64 qcz]] rfl qbK ?_; (with_reducible refine (qcC.calls qbP qcz false _ A2.out).mono ?_); rintro e w20 ⟨rfl, hb⟩; refine ⟨_, rfl, ?_⟩; replace qaG := qaG.mw hb; replace HB := ak_ (qaa qds hb); (try clear hb)))
  go_ret2
  exact ⟨_, qcf, k55_, qds⟩
 subst c3; rw [if_pos rfl] at H; obtain ⟨qce, A4, H⟩ := qay H; (try dsimp only at H); by_cases c5 : (qce.length : Int) > 300
 ·rw [if_pos c5] at H; have qgJ : decide (300 < (qce.length : Int)) = true := decide_eq_true c5; have qrG : decide (300 < qce.length) = true := decide_eq_true (by omega); clear c5; obtain ⟨rfl, rfl⟩ := qdF H; go_enter Tryz.func136, Tryz.ntmps136
  go_wp2_with (first | ((with_reducible refine qal (N := 1) rfl ?_); refine bx_ 1 rfl (cs := #[.string qbP, .int .i64 qcz]) (t := 99) qbe ?_; intro qb6 hg w6 hbox hb; have qaG := ak_ (hbox); have qeO := ak_ (HB.ge hg); have qem := ak_ (HB.ge hg); replace HB := HB.mw hb; clear hb hbox hg; obtain ⟨qki, qkj, qko, qkp⟩ := qbG qaG.out) | (refine gl_ 6 Tryz.func134 #[.agg #[.string qbP, .int .i64 qcz]] rfl qbK ?_; (with_reducible refine (qcC.calls qbP qcz true _ A2.out).mono ?_); rintro e w8 ⟨rfl, hb⟩; refine ⟨_, rfl, ?_⟩; replace qaG := qaG.mw hb; replace HB := ak_ (qaa qds hb); (try clear hb); obtain ⟨qhx, qhy, qhz, qhA⟩ := qbG qaG.out) | (refine gl_ 9 Tryz.func197 #[.agg #[.string qbP, .int .i64 qcz], .int .i64 301] rfl qbK ?_; (with_reducible refine (qcK.calls k qbP qcz 301 qce _ A4.out).mono ?_); rintro e w10 ⟨qtn, rfl, ho0, hb⟩; refine ⟨_, rfl, ?_⟩; have qeI := ak_ (Kd.qdV ho0 (qab qds)); replace qaG := qaG.mw hb; replace HB := ak_ (qaa qds hb); (try clear hb ho0); obtain ⟨Ao11, co11, eo11⟩ := Kd.qdL qeI.out; subst eo11))
  go_ret2
  exact ⟨_, qcf, k55_, qds⟩
 rw [if_neg c5] at H; have qgJ : decide (300 < (qce.length : Int)) = false := decide_eq_false c5; have qrG : decide (300 < qce.length) = false := decide_eq_false (by omega); clear c5; obtain ⟨rfl, rfl⟩ := qdF H; go_enter Tryz.func136, Tryz.ntmps136
 go_wp2_with (first | ((with_reducible refine qal (N := 1) rfl ?_); refine bx_ 1 rfl (cs := #[.string qbP, .int .i64 qcz]) (t := 99) qbe ?_; intro qb6 hg w12 hbox hb; have qaG := ak_ (hbox); have qeO := ak_ (HB.ge hg); have qem := ak_ (HB.ge hg); replace HB := HB.mw hb; clear hb hbox hg; obtain ⟨qmh, qmi, qmj, qmk⟩ := qbG qaG.out) | (refine gl_ 6 Tryz.func134 #[.agg #[.string qbP, .int .i64 qcz]] rfl qbK ?_; (with_reducible refine (qcC.calls qbP qcz true _ A2.out).mono ?_); rintro e w14 ⟨rfl, hb⟩; refine ⟨_, rfl, ?_⟩; replace qaG := qaG.mw hb; replace HB := ak_ (qaa qds hb); (try clear hb); obtain ⟨qoF, qoG, qoM, qoN⟩ := qbG qaG.out) | (refine gl_ 9 Tryz.func197 #[.agg #[.string qbP, .int .i64 qcz], .int .i64 301] rfl qbK ?_; (with_reducible refine (qcK.calls k qbP qcz 301 qce _ A4.out).mono ?_); rintro e w16 ⟨qtn, rfl, ho0, hb⟩; refine ⟨_, rfl, ?_⟩; have qeI := ak_ (Kd.qdV ho0 (qab qds)); replace qaG := qaG.mw hb; replace HB := ak_ (qaa qds hb); (try clear hb ho0); obtain ⟨Ao17, co17, eo17⟩ := Kd.qdL qeI.out; subst eo17))
 go_ret2
 exact ⟨_, qcf, by (with_reducible repeat (first | apply Kd.qdi | apply Kd.qdj | apply Kd.qeb)); exact qeI.out, qds⟩
def qc1.f (k : Nat) (qbP : ByteArray) (qcz : Int) : Option ((List (qac)) × Bool) := (qc7.f k qbP qcz).bind fun qeR => (if qeR.2 = true then (if (qeR.1.length : Int) = 0 then (some (([] : List (qac)), false)) else (if 0 < (qeR.1.length : Int) then (some (qeq qeR.1 0, true)) else (none))) else (some (([] : List (qac)), false)))
theorem qc1.calls (k : Nat) (qbP : ByteArray) (qcz : Int) (r1 : List (qac)) (r2 : Bool) (w : World) (h : qc1.f k qbP qcz = some (r1, r2)) :
  Calls Tryz.prog 75 #[.agg #[.string qbP, .int .i64 qcz]] w fun e w' => ∃ v0_ : Value, e = .returned (.tuple #[v0_, .bool r2]) ∧ Kd.R qaL 85 w' w.heap.size (fun _ => True) v0_ r1 ∧ Below w.heap.size w w' := by
 have hu99 := Tryz.underlying99; have HB := br_ w; have H : ((qc7.f k qbP qcz).bind fun qeR => (if qeR.2 = true then (if (qeR.1.length : Int) = 0 then (some (([] : List (qac)), false)) else (if 0 < (qeR.1.length : Int) then (some (qeq qeR.1 0, true)) else (none))) else (some (([] : List (qac)), false)))) = some (r1, r2) := h; clear h; obtain ⟨⟨qaR, t105⟩, A2, H⟩ := qay H; (try dsimp only at H); by_cases c3 : t105 = true; rotate_left
 ·replace c3 := Bool.eq_false_iff.mpr c3; subst c3; rw [if_neg ff_] at H; obtain ⟨rfl, rfl⟩ := qdF H; go_enter Tryz.func75, Tryz.ntmps75
  go_wp2_with (first | ((with_reducible refine qal (N := 1) rfl ?_); refine bx_ 1 rfl (cs := #[.string qbP, .int .i64 qcz]) (t := 99) qbe ?_; intro qb6 hg w14 hbox hb; have qaG := ak_ (hbox); have qeO := ak_ (HB.ge hg); have qem := ak_ (HB.ge hg); replace HB := HB.mw hb; clear hb hbox hg; obtain ⟨qoF, qoG, qoM, qoN⟩ := qbG qaG.out) | (refine gl_ 8 Tryz.func136 #[.agg #[.string qbP, .int .i64 qcz]] rfl qbK ?_; (with_reducible refine (qc7.calls k qbP qcz qaR false _ A2.out).mono ?_); rintro e w16 ⟨qhm, rfl, ho0, hb⟩; refine ⟨_, rfl, ?_⟩; have qb1 := ak_ (Kd.qdV ho0 (qab qds)); replace qaG := qaG.mw hb; replace HB := ak_ (qaa qds hb); (try clear hb ho0)))
  go_ret2
  exact ⟨_, qcf, qgN, qds⟩
 subst c3; rw [if_pos rfl] at H; by_cases c4 : (qaR.length : Int) = 0
 ·rw [if_pos c4] at H; have qfx : ((qaR.length : Int) == 0) = true := beq_iff_eq.mpr c4; have qmK : ((qaR.length : Int) != 0) = false := bne_eq_false_iff_eq.mpr c4; clear c4; obtain ⟨rfl, rfl⟩ := qdF H; go_enter Tryz.func75, Tryz.ntmps75
  go_wp2_with (first | ((with_reducible refine qal (N := 1) rfl ?_); refine bx_ 1 rfl (cs := #[.string qbP, .int .i64 qcz]) (t := 99) qbe ?_; intro qb6 hg w5 hbox hb; have qaG := ak_ (hbox); have qeO := ak_ (HB.ge hg); have qem := ak_ (HB.ge hg); replace HB := HB.mw hb; clear hb hbox hg; obtain ⟨qkg, qkh, qkm, qkn⟩ := qbG qaG.out) | (refine gl_ 8 Tryz.func136 #[.agg #[.string qbP, .int .i64 qcz]] rfl qbK ?_; (with_reducible refine (qc7.calls k qbP qcz qaR true _ A2.out).mono ?_); rintro e w7 ⟨qhm, rfl, ho0, hb⟩; refine ⟨_, rfl, ?_⟩; have qb1 := ak_ (Kd.qdV ho0 (qab qds)); replace qaG := qaG.mw hb; replace HB := ak_ (qaa qds hb); (try clear hb ho0); obtain ⟨Ao8, co8, eo8⟩ := Kd.qdL qb1.out; subst eo8))
  go_ret2
  exact ⟨_, qcf, qgN, qds⟩
 rw [if_neg c4] at H; have qfx : ((qaR.length : Int) == 0) = false := beq_eq_false_iff_ne.mpr c4; have qmK : ((qaR.length : Int) != 0) = true := bne_iff_ne.mpr c4
 have c4b2 : ¬ (qaR = []) := fun h_ => c4 (by rw [h_]; rfl)
 obtain ⟨c9, H⟩ := qck H; have qln := decide_eq_true c9; have c9b1 : decide (0 < qaR.length) = true := decide_eq_true (by omega); clear c9; obtain ⟨rfl, rfl⟩ := qdF H; go_enter Tryz.func75, Tryz.ntmps75
 go_wp2_with (first | ((with_reducible refine qal (N := 1) rfl ?_); refine bx_ 1 rfl (cs := #[.string qbP, .int .i64 qcz]) (t := 99) qbe ?_; intro qb6 hg w10 hbox hb; have qaG := ak_ (hbox); have qeO := ak_ (HB.ge hg); have qem := ak_ (HB.ge hg); replace HB := HB.mw hb; clear hb hbox hg; obtain ⟨qf8, qf9, qga, qgb⟩ := qbG qaG.out) | (refine gl_ 8 Tryz.func136 #[.agg #[.string qbP, .int .i64 qcz]] rfl qbK ?_; (with_reducible refine (qc7.calls k qbP qcz qaR true _ A2.out).mono ?_); rintro e w12 ⟨qhm, rfl, ho0, hb⟩; refine ⟨_, rfl, ?_⟩; have qb1 := ak_ (Kd.qdV ho0 (qab qds)); replace qaG := qaG.mw hb; replace HB := ak_ (qaa qds hb); (try clear hb ho0); obtain ⟨Ao13, co13, eo13⟩ := Kd.qdL qb1.out; subst eo13; have qfI : 0 ≤ (0 : Int) := (by omega); have qfK : 0 < (qaR.length : Int) := of_decide_eq_true qaO; obtain ⟨qgS, A106_0, c106_0, qjC, qcr, qku, qkr⟩ := qpB (Kd.qeG qb1.out).2.2 0 qfI qfK; cases qjC; obtain ⟨ce106, qr8, qr6, qnn⟩ := Kd.qrq qb1.out [] 0 qfI (by first | exact qfK | exact of_decide_eq_true qaO | (have e_ := (Kd.qeG qb1.out).1; omega)); obtain ⟨ve106_0, rfl, qid⟩ := qr6; have qgd := qnn 0 _ rfl; rw [Nat.add_zero, show ((Kd.slice 85 qaL)).sz = 1 from rfl, Nat.mul_one] at qgd; replace qgd := Option.some.inj (qgd.symm.trans qcr); rw [qgd] at qid; have qn7 := ak_ (show Kd.R qaL 85 _ _ _ _ (qeq qaR 0) from qid); clear qgd qid; clear qnn qr8; have qs3 : (0 < qaR.length) = True := eq_true (by omega); (try rw [show ((0 : Int)).toNat = 0 from rfl] at qcr); (try rw [Addr.add_zero'] at qcr); have HR106_0 := ak_ qkr; have HC106_0 := ak_ qku; clear qkr qku; replace qfI := eq_true qfI; replace qfK := eq_true qfK))
 go_ret2
 exact ⟨_, qcf, by (with_reducible repeat (first | apply Kd.qap | apply Kd.qaq | apply Kd.qaw)); exact Kd.qa9 qn7.out (fun _ hk => trivial), qds⟩
def qaT.l0 : Nat → List (qac) → List (qac) → Int → Int → Option ((List (qac)) × Bool)
 | 0, _, _, _, _ => none
 | k + 1, x4, x11, x12, x13 => if x13 < x12 then (if 0 ≤ x13 then (if x13 < (x11.length : Int) then ((qfp.f (wrap64 (-((qae x11 x13).f1))) ((qae x11 x13).f0)).bind fun t107 => (if x4.length < 8796093022208 then (qaT.l0 k (x4 ++ [(⟨(qae x11 x13).f0, t107⟩ : qac)]) x11 x12 (wrap64 (x13 + 1))) else (none))) else (none)) else (none)) else (some (x4, true))
def qaT.f (k : Nat) (l0 : List (qac)) : Option ((List (qac)) × Bool) := (qbc.f l0).bind fun qat => (if qat = true then (qaT.l0 k (([] : List (qac))) l0 (l0.length : Int) 0) else (some (([] : List (qac)), false)))
def qaT.T7 : Bool × List (List Nat × List Nat) := (true, [([], []), ([], []), ([1], [1]), ([], []), ([3], [3]), ([4], [4]), ([], []), ([6], [6]), ([5, 7], [5, 7]), ([2, 8], [2, 8]), ([9], [9]), ([0, 10, 8], [0, 10]), ([11, 11, 0, 1, 2, 3, 4, 5, 6, 7, 8, 9, 10, 11], [0, 11])])
def qaT.B7 : List Nat := [0, 0, 2, 0, 8, 24, 0, 64, 248, 510, 1022, 2047, 4095]
theorem qaT.tab7 : qhS .any (opsOf Tryz.f137 7) = qaT.T7 := by kernel_rfl
theorem qaT.ql8 : qeU qaT.T7.2 qaT.B7 = true := by kernel_rfl
theorem qaT.calls (k : Nat) (A0 : Option Addr) (c0 : Nat) (l0 : List (qac)) (r1 : List (qac)) (r2 : Bool) (w : World) (hr0 : Kd.C qaL w A0 l0.length l0) (hc0 : l0.length ≤ c0) (h : qaT.f k l0 = some (r1, r2)) :
  Calls Tryz.prog 137 #[.slice A0 l0.length c0] w fun e w' => ∃ v0_ : Value, e = .returned (.tuple #[v0_, .bool r2]) ∧ Kd.R qaL 85 w' w.heap.size (fun _ => True) v0_ r1 ∧ Below w.heap.size w w' := by
 have qmM := Tryz.underlying85; have HR0 := ak_ hr0; have HC0 := ak_ hc0; clear hr0 hc0; have HB := br_ w; have H : ((qbc.f l0).bind fun qat => (if qat = true then (qaT.l0 k (([] : List (qac))) l0 (l0.length : Int) 0) else (some (([] : List (qac)), false)))) = some (r1, r2) := h; clear h; obtain ⟨qat, A2, H⟩ := qay H; (try dsimp only at H); by_cases c3 : qat = true; rotate_left
 ·replace c3 := Bool.eq_false_iff.mpr c3; subst c3; rw [if_neg ff_] at H; obtain ⟨rfl, rfl⟩ := qdF H; go_enter Tryz.func137, Tryz.ntmps137
  go_wp2_with (first | (refine gl_ 8 Tryz.func53 #[.slice A0 l0.length c0] rfl qbK ?_; (with_reducible refine (qbc.calls _ _ l0 false _ ?qaA ?qaB A2.out).mono ?_); (case qaA => exact qfN); (case qaB => exact qb5); rintro e w17 ⟨rfl, hb⟩; refine ⟨_, rfl, ?_⟩; replace HB := HB.mw hb; (try clear hb)))
  go_ret2
  exact ⟨_, qcf, qgN, qan⟩
 subst c3; rw [if_pos rfl] at H
 obtain ⟨qiR, hy_⟩ : ∃ y_ : List (qac), y_ = (([] : List (qac))) := ⟨_, rfl⟩
 replace H : (qaT.l0 k qiR l0 (l0.length : Int) 0) = some (r1, r2) := qe1; have qgP := ak_ hy_; clear hy_; have H' := ak_ H; clear H; go_enter Tryz.func137, Tryz.ntmps137
 go_wp2_with (first | (refine gl_ 8 Tryz.func53 #[.slice A0 l0.length c0] rfl qbK ?_; (with_reducible refine (qbc.calls _ _ l0 true _ ?qaA ?qaB A2.out).mono ?_); (case qaA => exact qfN); (case qaB => exact qb5); rintro e w4 ⟨rfl, hb⟩; refine ⟨_, rfl, ?_⟩; replace HB := HB.mw hb; (try clear hb)) | ((with_reducible refine qal (N := 10) rfl ?_); refine Kd.qhq qaL _ 85 ?hg (N := 10) ?hd (xs := ([] : List (qac))) (inner := []) (ok := fun _ => True) (okp := fun _ => True) ?hr ?hp (fun _ hk => hk) trivial (Below.refl _ _) (Nat.le_refl _) (by simp) ?_; (case hd => rfl); (case hg => rfl); (case hr => exact qbe); (case hp => exact (qef.none _ _)); intro qhm w5 ho6 hb hg_ hnew_; clear hg_ hnew_; (first | rw [← qgP.out] at ho6 | (simp only [Int.reduceToNat] at ho6; rw [← qgP.out] at ho6)); have qb1 := ak_ (Kd.qax ho6 (qab qan)); replace HB := HB.mw hb; clear hb ho6))
 go_loopg [4, 13] k (fun kq v4 v13 w' => ∃ (qcM : List (qac)) (qeK : Int), v13 = .int .i64 qeK ∧ qag (qaT.l0 kq qcM l0 (l0.length : Int) qeK = some (r1, r2)) ∧ qag (kq ≤ k) ∧ qag (Kd.R qaL 85 w' w.heap.size (fun _ => True) v4 qcM) ∧ qag (Below w.heap.size w w'))
 case atStart => exact ⟨(qiR), (0), qav, H', ⟨Nat.le_refl _⟩, ⟨qra⟩, ⟨qan⟩⟩
 case round =>
  clear H'; (try clear c3); obtain ⟨qcM, qeK, rfl, HA, HK1, qdk, HB⟩ := hrel
  cases gk with
  | zero => exact absurd HA.out (by simp [qaT.l0])
  | succ k1 =>
   have H := HA.out; clear HA; simp only [qaT.l0] at H; by_cases c7 : qeK < (l0.length : Int); rotate_left
   ·rw [if_neg c7] at H; have qgU := decide_eq_false c7; clear c7; obtain ⟨rfl, rfl⟩ := qdF H; go_wp2
    go_ret2
    exact ⟨_, qcf, by (with_reducible repeat (first | apply Kd.qap | apply Kd.qaq | apply Kd.qaw)); exact qdk.out, qan⟩
   rw [if_pos c7] at H; have qgU := decide_eq_true c7; clear c7; obtain ⟨c8, H⟩ := qck H; have qm4 := decide_eq_true c8; clear c8; obtain ⟨c9, H⟩ := qck H; have qln := decide_eq_true c9; clear c9; obtain ⟨t107, A10, H⟩ := qay H; (try dsimp only at H); obtain ⟨c11, H⟩ := qck H; have qoa := ak_ c11; clear c11
   obtain ⟨qiO, hy_⟩ : ∃ y_ : List (qac), y_ = (qcM ++ [(⟨(qae l0 qeK).f0, t107⟩ : qac)]) := ⟨_, rfl⟩
   replace H : (qaT.l0 k1 qiO l0 (l0.length : Int) (wrap64 (qeK + 1))) = some (r1, r2) := qe1; have qoe := ak_ hy_; clear hy_; have H' := ak_ H; clear H; have qhD : 0 ≤ (qeK : Int) := of_decide_eq_true qaO; have qhE : qeK < (l0.length : Int) := of_decide_eq_true qaO; obtain ⟨qec, qnf, qcS, qoS⟩ := qdW HR0.out qeK qhD qhE
   cases qnf
   replace qcS := (HB.out.cell (World.block_lt_of_cell? w _ qcS)).trans qcS; replace qoS := (HB.out.cell (World.block_lt_of_cell? w _ qoS)).trans qoS; replace qhD := eq_true qhD; replace qhE := eq_true qhE
   try go_wp2_with (first | ((with_reducible refine qal (N := 6) rfl ?_); refine bx_ 6 rfl (cs := #[.int .i64 0, .int .i64 0]) (t := 85) qbe ?_; intro qeW hg w12 hbox hb; replace qdk := ak_ (Kd.qbv (Kd.qhK qjQ qeW (Nat.le_of_eq hg.symm)) hb); have qek := ak_ (hbox); have qn4 := ak_ (HB.ge hg); have qmT := ak_ (HB.ge hg); replace HB := HB.mw hb; clear hb hbox hg; obtain ⟨qmh, qmi, qmj, qmk⟩ := qbG qek.out))
   have n0_ : qag (Kd.R qaL 85 ((w12.setCell ⟨qeW, 0, none⟩ (.int .i64 ((qae l0 qeK).f0))).setCell ⟨qeW, 1, none⟩ (.int .i64 ((qae l0 qeK).f1))) w.heap.size (fun k_ => k_ ≠ qeW) u4 qcM) := ⟨by (with_reducible repeat (first | apply Kd.qap | apply Kd.qaq | apply Kd.qaw)); exact Kd.qa9 (Kd.qcV (p := ⟨qeW, 1, none⟩) (Kd.qcV (p := ⟨qeW, 0, none⟩) (Kd.qa9 qdk.out (fun k_ hk => (⟨hk, hk.2⟩ : _ ∧ k_ ≠ qeW))) (fun _ hk => hk.2) (.int .i64 ((qae l0 qeK).f0))) (fun _ hk => hk.2) (.int .i64 ((qae l0 qeK).f1))) (fun _ hk => hk.1.2)⟩
   have n1_ : qag (((w12.setCell ⟨qeW, 0, none⟩ (.int .i64 ((qae l0 qeK).f0))).setCell ⟨qeW, 1, none⟩ (.int .i64 ((qae l0 qeK).f1))).heap[qeW]? = some (.cells #[.int .i64 ((qae l0 qeK).f0), .int .i64 ((qae l0 qeK).f1)] 85 (0, 0))) := ⟨by (with_reducible repeat (first | refine qak ?_ _ | refine qam ?_ | refine qaj ?_ _)); refine qbl (cs := #[.int .i64 ((qae l0 qeK).f0), .int .i64 0]) ?_ 1 _ rfl; (with_reducible repeat (first | refine qak ?_ _ | refine qam ?_ | refine qaj ?_ _)); refine qbl (cs := #[.int .i64 0, .int .i64 0]) ?_ 0 _ rfl; apply_rules only [qek.out, qak, qam, qaj]⟩
   have n2_ : qag (Below w.heap.size w ((w12.setCell ⟨qeW, 0, none⟩ (.int .i64 ((qae l0 qeK).f0))).setCell ⟨qeW, 1, none⟩ (.int .i64 ((qae l0 qeK).f1)))) := ⟨qoZ⟩
   (try clear qdk); (try clear qek); (try clear HB)
   generalize ((w12.setCell ⟨qeW, 0, none⟩ (.int .i64 ((qae l0 qeK).f0))).setCell ⟨qeW, 1, none⟩ (.int .i64 ((qae l0 qeK).f1))) = w14 at n0_ n1_ n2_ ⊢
   have qdk := n0_; have qek := n1_; have HB := n2_; clear n0_ n1_ n2_; replace qdk := ak_ (Kd.qaw qdk.out); replace qek := ak_ (qam qek.out); replace HB := ak_ (qah HB.out); refine qe6 (n := 13) (S := fun w' => w'.cell? ⟨qeW, 0, none⟩ = some (.int .i64 ((qae l0 qeK).f0)) ∧ w'.cell? ⟨qeW, 1, none⟩ = some (.int .i64 ((qae l0 qeK).f1))) (ds := []) (rA_ [0, 13]) (by kernel_rfl) rfl rfl ⟨qed qek.out, qbC qek.out⟩ (fun hHeld => ?_); refine qdn qaT.tab7 qaT.ql8 (fun HT_ HW_ => ?_)
   generalize w14.drew = w15 at qdk qek HB hHeld ⊢
   refine pu_ 0 17 [1, 12] ?_; refine pu_ 1 18 [2, 11] ?_; refine pu_ 3 20 [2, 1, 1, 9] ?_; refine pu_ 6 23 [2, 1, 1, 2, 1, 6] ?_; refine qis 2 19 [4, 2, 1, 6] ?_; refine qis 4 21 [5, 1, 1, 6] ?_; refine pu_ 5 22 [7, 6] ?_; refine qis 7 24 [8, 5] ?_; refine qfH (i := 8) (N := some 25) (rA_ [9, 4]) rfl rfl (qc4 HT_.out (by kernel_rfl)) (by decide) (fun K hK => ?_); refine qfR Tryz.func185 (by kernel_rfl) rfl #[.int .i64 (wrap64 (-((qae l0 qeK).f1))), .int .i64 ((qae l0 qeK).f0)] (by rfl) rfl rfl qbK ?_
   with_reducible refine (qfp.calls (wrap64 (-((qae l0 qeK).f1))) ((qae l0 qeK).f0) t107 _ A10.out).mono ?_
   rintro e w' ⟨rfl, ⟨nd, rfl⟩⟩; refine ⟨_, rfl, ?_⟩; refine hK.out _ _ ⟨qed qek.out, qbC qek.out⟩ (fun hHeld => ?_); clear hK K; refine nm_ 25 ?_; refine pu_ 9 26 [10, 3] ?_; refine qfH (i := 10) (N := some 27) (rA_ [11, 2]) rfl rfl (qc4 HT_.out (by kernel_rfl)) (by decide) (fun K hK => ?_); refine qiL (w1 := ?_) (v := ?_) (by rfl) rfl ?_ ?_; rotate_left 2
   ·go_simp; constructor
    ·rfl
    rfl
   refine hK.out _ _ ⟨(qba (qaj qek.out _) 0).trans rfl, (qba (qaj qek.out _) 1).trans rfl⟩ (fun hHeld => ?_); clear hK K; refine nm_ 27 ?_; refine qfH (i := 11) (N := some 28) (rA_ [12, 1]) rfl rfl (qc4 HT_.out (by kernel_rfl)) (by decide) (fun K hK => ?_); refine Kd.qeV qaL (w0 := w) w.heap.size (by rfl) (.tmp 17) (.tmp 27) 26 85 (.agg #[(.int .i64 0), (.int .i64 0)]) 16 rfl Tryz.underlying26 qfT rfl (by decide) (by omega) u4 qcM (⟨(qae l0 qeK).f0, t107⟩ : qac) [.int .i64 ((qae l0 qeK).f0), .int .i64 t107] (fun k_ => k_ ≠ qeW) (fun _ => False) rfl rfl ?aP (fun _ hk => hk.elim) ?aF ?aO ?aB ?aS ?aL ?_
   (case aP => exact qdm _ _ _ (⟨(qae l0 qeK).f0, t107⟩ : qac))
   (case aB => exact qoZ)
   (case aF => exact (fun k_ hk => Kd.qnk (g := qeW) (o := .cells #[.int .i64 ((qae l0 qeK).f0), .int .i64 ((qae l0 qeK).f1)] 85 (0, 0)) (by apply_rules only [qek.out, qak, qam, qaj]) k_ hk))
   (case aO => exact qjQ)
   (case aS => exact (qab qoZ))
   (case aL => have := qoa.out; omega)
   intro v109 w16 ho hb hg hat; rw [← qoe.out] at ho; replace qek := ak_ (qdH (g := qeW) (o := .cells #[.int .i64 ((qae l0 qeK).f0), .int .i64 ((qae l0 qeK).f1)] 85 (0, 0)) (by apply_rules only [qek.out, qak, qam, qaj]) hg (Kd.qmW qdk.out (fun _ hk => hk))); replace HB := ak_ (hb); have qmU := ak_ (ho); clear qdk; clear ho hb hg hat; refine hK.out _ _ ⟨qed qek.out, qbC qek.out⟩ (fun hHeld => ?_); clear hK K; refine nm_ 28 ?_; refine pu_ 12 4 [13] ?_; refine qgu (qeC HT_.out (by kernel_rfl)) ?_
   try go_wp2
   go_roundg k1
   case measure => have := HK1.out; omega
   case rel => exact ⟨(qiO), (wrap64 (qeK + 1)), qav, H', ⟨qcW⟩, ⟨by (with_reducible repeat (first | apply Kd.qap | apply Kd.qaq | apply Kd.qaw)); exact Kd.qa9 qmU.out (fun _ hk => trivial)⟩, ⟨qoZ⟩⟩
def qbn.l0 : Nat → List (qac) → Int → Int → List (qac) → Int → Option (Bool)
 | 0, _, _, _, _, _ => none
 | k + 1, x0, x1, x2, x7, x8 => if x8 < x2 then ((qcT.f x7 x8).bind fun qlX => (if qlX = true then (some false) else (if 0 ≤ x1 then (if x1 < (x0.length : Int) then (qbn.l0 k x0 x1 x2 x7 (wrap64 (x8 + ((qae x0 x1).f0)))) else (none)) else (none)))) else (some true)
def qbn.f (k : Nat) (l0 : List (qac)) (a1 : Int) (a2 : Int) : Option (Bool) := (some (([] : List (qac)) : List (qac))).bind fun qff => (if qff.length + l0.length < 8796093022208 then ((qcA.f (qff ++ l0) a1 (wrap64 (a1 + 1))).bind fun t107 => (if 0 ≤ a1 then (if a1 < (l0.length : Int) then (qbn.l0 k l0 a1 a2 t107 ((qae l0 a1).f1)) else (none)) else (none))) else (none))
theorem qbn.calls (k : Nat) (A0 : Option Addr) (c0 : Nat) (l0 : List (qac)) (a1 : Int) (a2 : Int) (r : Bool) (w : World) (hr0 : Kd.C qaL w A0 l0.length l0) (hc0 : l0.length ≤ c0) (h : qbn.f k l0 a1 a2 = some r) :
  Calls Tryz.prog 198 #[.slice A0 l0.length c0, .int .i64 a1, .int .i64 a2] w fun e w' => e = .returned (.bool r) ∧ Below w.heap.size w w' := by
 have HR0 := ak_ hr0; have HC0 := ak_ hc0; clear hr0 hc0; have HB := br_ w; have H : ((some (([] : List (qac)) : List (qac))).bind fun qff => (if qff.length + l0.length < 8796093022208 then ((qcA.f (qff ++ l0) a1 (wrap64 (a1 + 1))).bind fun t107 => (if 0 ≤ a1 then (if a1 < (l0.length : Int) then (qbn.l0 k l0 a1 a2 t107 ((qae l0 a1).f1)) else (none)) else (none))) else (none))) = some r := h; clear h
 obtain ⟨qff, hy_⟩ : ∃ y_ : List (qac), y_ = (([] : List (qac))) := ⟨_, rfl⟩
 replace H : (if qff.length + l0.length < 8796093022208 then ((qcA.f (qff ++ l0) a1 (wrap64 (a1 + 1))).bind fun t107 => (if 0 ≤ a1 then (if a1 < (l0.length : Int) then (qbn.l0 k l0 a1 a2 t107 ((qae l0 a1).f1)) else (none)) else (none))) else (none)) = some r := qe1; have qei := ak_ hy_; clear hy_; obtain ⟨c4, H⟩ := qck H; have LMc4 := ak_ c4; clear c4
 obtain ⟨qgF, hy_⟩ : ∃ y_ : List (qac), y_ = (qff ++ l0) := ⟨_, rfl⟩
 replace H : ((qcA.f qgF a1 (wrap64 (a1 + 1))).bind fun t107 => (if 0 ≤ a1 then (if a1 < (l0.length : Int) then (qbn.l0 k l0 a1 a2 t107 ((qae l0 a1).f1)) else (none)) else (none))) = some r := qe1; have qiu := ak_ hy_; clear hy_; obtain ⟨t107, A5, H⟩ := qay H; (try dsimp only at H); obtain ⟨c6, H⟩ := qck H; have qgk := decide_eq_true c6; clear c6; obtain ⟨c7, H⟩ := qck H; have qgU := decide_eq_true c7; clear c7; have H' := ak_ H; clear H; go_enter Tryz.func198, Tryz.ntmps198
 go_wp2_with (first | ((with_reducible refine qal (N := 9) rfl ?_); refine Kd.qhq qaL _ 85 ?hg (N := 9) ?hd (xs := ([] : List (qac))) (inner := []) (ok := fun _ => True) (okp := fun _ => True) ?hr ?hp (fun _ hk => hk) trivial (Below.refl _ _) (Nat.le_refl _) (by simp) ?_; (case hd => rfl); (case hg => rfl); (case hr => exact qbe); (case hp => exact (qef.none _ _)); intro qit w8 ho9 hb hg_ hnew_; clear hg_ hnew_; (first | rw [← qei.out] at ho9 | (simp only [Int.reduceToNat] at ho9; rw [← qei.out] at ho9)); have qc6 := ak_ (Kd.qax ho9 (qab qan)); replace HB := HB.mw hb; clear hb ho9) | ((with_reducible refine qa2 (b := .append) (xs := #[.tmp 9, .tmp 10]) rfl ?_); at_builtin; refine Kd.qdK qaL (w0 := w) w.heap.size rfl (.tmp 9) (.tmp 10) 26 85 (.agg #[(.int .i64 0), (.int .i64 0)]) 16 rfl Tryz.underlying26 qfT rfl (by decide) (by omega) qit qff l0 _ _ _ (fun _ => True) (fun _ => False) rfl rfl ?aO ?aR (fun _ _ h => h) (fun _ h => h.elim) ?aF ?aB ?aS ?aL ?_; (case aR => repeat (first | exact (Kd.qeg HR0.out HB.out) | (with_reducible refine Kd.C_alloc ?_ _) | (with_reducible refine Kd.C_drewN ?_ _) | (with_reducible refine Kd.C_drew ?_))); (case aB => exact qan); (case aF => exact (fun _ _ => trivial)); (case aO => exact qo0); (case aS => exact (qab qan)); (case aL => have := LMc4.out; omega); intro v105 w10 ho hb hg hat; rw [← qiu.out] at ho; replace HB := ak_ (hb); have qeh := ak_ (ho); clear qc6; clear ho hb hg hat; obtain ⟨Ao11, co11, eo11⟩ := Kd.qaI qeh.out; subst eo11) | (refine gl_ 15 Tryz.func123 #[.slice Ao11 qgF.length co11, .int .i64 a1, .int .i64 (wrap64 (a1 + 1))] rfl qbK ?_; (refine (qcA.own _ _ w.heap.size qgF a1 (wrap64 (a1 + 1)) t107 _ (qab qan) qsL A5.out).mono ?_); rintro e w12 ⟨v108, rfl, ho0, hg⟩; refine ⟨_, rfl, ?_⟩; have n1_ := ak_ ho0; have n2_ := ak_ (Below.grown qan hg (qab qan) (Kd.qfj qsL)); clear qeh; clear HB; have qiT := n1_; have HB := n2_; clear n1_ n2_; (try clear hg ho0); have qmu : 0 ≤ (a1 : Int) := of_decide_eq_true qaO; have qmw : a1 < (l0.length : Int) := of_decide_eq_true qaO; obtain ⟨qqt, e110, qfn, qoU⟩ := qdW HR0.out a1 qmu qmw; cases e110; replace qfn := (HB.out.cell (World.block_lt_of_cell? w _ qfn)).trans qfn; replace qoU := (HB.out.cell (World.block_lt_of_cell? w _ qoU)).trans qoU; replace qmu := eq_true qmu; replace qmw := eq_true qmw))
 go_loopg [8] k (fun kq v8 w' => ∃ (qdh : Int), v8 = .int .i64 qdh ∧ qag (qbn.l0 kq l0 a1 a2 t107 qdh = some r) ∧ qag (kq ≤ k) ∧ qag (Kd.R qaL 85 w' w.heap.size (fun _ => True) v108 t107) ∧ qag (Below w.heap.size w w'))
 case atStart => exact ⟨((qae l0 a1).f1), qav, H', ⟨Nat.le_refl _⟩, ⟨by (with_reducible repeat (first | apply Kd.qap | apply Kd.qaq | apply Kd.qaw)); exact Kd.qa9 qiT.out (fun _ hk => trivial)⟩, ⟨qan⟩⟩
 case round =>
  clear H'
  skip
  obtain ⟨qdh, rfl, HA, HK1, qgH, HB⟩ := hrel
  cases gk with
  | zero => exact absurd HA.out (by simp [qbn.l0])
  | succ k1 =>
   have H := HA.out; clear HA; simp only [qbn.l0] at H; by_cases c13 : qdh < a2; rotate_left
   ·rw [if_neg c13] at H; have qk6 := decide_eq_false c13; clear c13; obtain rfl := sj_ H; go_wp2
    go_ret
    exact ⟨qcf, qan⟩
   rw [if_pos c13] at H; have qk6 := decide_eq_true c13; clear c13; obtain ⟨qlX, A14, H⟩ := qay H; (try dsimp only at H); by_cases c15 : qlX = true
   ·subst c15; rw [if_pos rfl] at H; obtain rfl := sj_ H; obtain ⟨Ao16, co16, eo16⟩ := Kd.qaI qgH.out; subst eo16
    go_wp2_with (first | (refine gl_ 33 Tryz.func199 #[.slice Ao16 t107.length co16, .int .i64 qdh] rfl qbK ?_; (with_reducible refine (qcT.calls _ _ t107 qdh true _ ?qaA ?qaB A14.out).mono ?_); (case qaA => exact k44_); (case qaB => exact (Kd.qao qgH.out).2.1); rintro e w17 ⟨rfl, hb⟩; refine ⟨_, rfl, ?_⟩; replace qgH := qgH.mw hb; replace HB := HB.mw hb; (try clear hb)))
    go_ret
    exact ⟨qcf, qan⟩
   replace c15 := Bool.eq_false_iff.mpr c15; subst c15; rw [if_neg ff_] at H; obtain ⟨c18, H⟩ := qck H; have qqw := decide_eq_true c18; clear c18; obtain ⟨c19, H⟩ := qck H; have c19b0 := decide_eq_true c19; clear c19; have H' := ak_ H; clear H; obtain ⟨Ao20, co20, eo20⟩ := Kd.qaI qgH.out; subst eo20
   go_wp2_with (first | (refine gl_ 33 Tryz.func199 #[.slice Ao20 t107.length co20, .int .i64 qdh] rfl qbK ?_; (with_reducible refine (qcT.calls _ _ t107 qdh false _ ?qaA ?qaB A14.out).mono ?_); (case qaA => exact k44_); (case qaB => exact (Kd.qao qgH.out).2.1); rintro e w21 ⟨rfl, hb⟩; refine ⟨_, rfl, ?_⟩; replace qgH := qgH.mw hb; replace HB := HB.mw hb; (try clear hb); have p112 : 0 ≤ (a1 : Int) := of_decide_eq_true qaO; have q112 : a1 < (l0.length : Int) := of_decide_eq_true qaO; obtain ⟨ad112, e112, qoV, qoW⟩ := qdW HR0.out a1 p112 q112; obtain rfl : qqt = ad112 := (by injection e112); replace qoV := (HB.out.cell (World.block_lt_of_cell? w _ qoV)).trans qoV; replace qoW := (HB.out.cell (World.block_lt_of_cell? w _ qoW)).trans qoW; replace p112 := eq_true p112; replace q112 := eq_true q112))
   go_roundg k1
   case measure => have := HK1.out; omega
   case rel => exact ⟨(wrap64 (qdh + ((qae l0 a1).f0))), qav, H', ⟨qcW⟩, ⟨qlC⟩, ⟨qan⟩⟩
def qa7.l0 : Nat → Int → List (qac) → Int → Option ((List (qac)) × Bool)
 | 0, _, _, _ => none
 | k + 1, x4, x6, x7 => if x7 ≥ 0 then ((qbn.f k x6 x7 x4).bind fun t109 => (if t109 = true then ((qcA.f x6 x7 (wrap64 (x7 + 1))).bind fun qlW => (qa7.l0 k x4 qlW (wrap64 (x7 - 1)))) else (qa7.l0 k x4 x6 (wrap64 (x7 - 1))))) else (some (x6, true))
def qa7.f (k : Nat) (l0 : List (qac)) : Option ((List (qac)) × Bool) := (qb8.f k l0).bind fun qcR => (if qcR.2 = true then ((some (([] : List (qac)) : List (qac))).bind fun qmJ => (if qmJ.length + l0.length < 8796093022208 then ((some (qmJ ++ l0 : List (qac))).bind fun qkY => (qa7.l0 k qcR.1 qkY (wrap64 ((qkY.length : Int) - 1)))) else (none))) else (some (([] : List (qac)), false)))
theorem qa7.calls (k : Nat) (A0 : Option Addr) (c0 : Nat) (l0 : List (qac)) (r1 : List (qac)) (r2 : Bool) (w : World) (hr0 : Kd.C qaL w A0 l0.length l0) (hc0 : l0.length ≤ c0) (h : qa7.f k l0 = some (r1, r2)) :
  Calls Tryz.prog 138 #[.slice A0 l0.length c0] w fun e w' => ∃ v0_ : Value, e = .returned (.tuple #[v0_, .bool r2]) ∧ Kd.R qaL 85 w' w.heap.size (fun _ => True) v0_ r1 ∧ Below w.heap.size w w' := by
 have HR0 := ak_ hr0; have HC0 := ak_ hc0; clear hr0 hc0; have HB := br_ w; have H : ((qb8.f k l0).bind fun qcR => (if qcR.2 = true then ((some (([] : List (qac)) : List (qac))).bind fun qmJ => (if qmJ.length + l0.length < 8796093022208 then ((some (qmJ ++ l0 : List (qac))).bind fun qkY => (qa7.l0 k qcR.1 qkY (wrap64 ((qkY.length : Int) - 1)))) else (none))) else (some (([] : List (qac)), false)))) = some (r1, r2) := h; clear h; obtain ⟨⟨qat, qaR⟩, A2, H⟩ := qay H; (try dsimp only at H); by_cases c3 : qaR = true; rotate_left
 ·replace c3 := Bool.eq_false_iff.mpr c3; subst c3; rw [if_neg ff_] at H; obtain ⟨rfl, rfl⟩ := qdF H; go_enter Tryz.func138, Tryz.ntmps138
  go_wp2_with (first | (refine gl_ 10 Tryz.func140 #[.slice A0 l0.length c0] rfl qbK ?_; (with_reducible refine (qb8.calls k _ _ l0 qat false _ ?qaA ?qaB A2.out).mono ?_); (case qaA => exact qfN); (case qaB => exact qb5); rintro e w19 ⟨rfl, hb⟩; refine ⟨_, rfl, ?_⟩; replace HB := HB.mw hb; (try clear hb)))
  go_ret2
  exact ⟨_, qcf, qgN, qan⟩
 subst c3; rw [if_pos rfl] at H
 obtain ⟨qmJ, hy_⟩ : ∃ y_ : List (qac), y_ = (([] : List (qac))) := ⟨_, rfl⟩
 replace H : (if qmJ.length + l0.length < 8796093022208 then ((some (qmJ ++ l0 : List (qac))).bind fun qkY => (qa7.l0 k qat qkY (wrap64 ((qkY.length : Int) - 1)))) else (none)) = some (r1, r2) := qe1; have ql2 := ak_ hy_; clear hy_; obtain ⟨c4, H⟩ := qck H; have LMc4 := ak_ c4; clear c4
 obtain ⟨qkY, hy_⟩ : ∃ y_ : List (qac), y_ = (qmJ ++ l0) := ⟨_, rfl⟩
 replace H : (qa7.l0 k qat qkY (wrap64 ((qkY.length : Int) - 1))) = some (r1, r2) := qe1; have qod := ak_ hy_; clear hy_; have H' := ak_ H; clear H; go_enter Tryz.func138, Tryz.ntmps138
 go_wp2_with (first | (refine gl_ 10 Tryz.func140 #[.slice A0 l0.length c0] rfl qbK ?_; (with_reducible refine (qb8.calls k _ _ l0 qat true _ ?qaA ?qaB A2.out).mono ?_); (case qaA => exact qfN); (case qaB => exact qb5); rintro e w5 ⟨rfl, hb⟩; refine ⟨_, rfl, ?_⟩; replace HB := HB.mw hb; (try clear hb)) | ((with_reducible refine qal (N := 15) rfl ?_); refine Kd.qhq qaL _ 85 ?hg (N := 15) ?hd (xs := ([] : List (qac))) (inner := []) (ok := fun _ => True) (okp := fun _ => True) ?hr ?hp (fun _ hk => hk) trivial (Below.refl _ _) (Nat.le_refl _) (by simp) ?_; (case hd => rfl); (case hg => rfl); (case hr => exact qbe); (case hp => exact (qef.none _ _)); intro qtn w6 ho7 hb hg_ hnew_; clear hg_ hnew_; (first | rw [← ql2.out] at ho7 | (simp only [Int.reduceToNat] at ho7; rw [← ql2.out] at ho7)); have qeI := ak_ (Kd.qax ho7 (qab qan)); replace HB := HB.mw hb; clear hb ho7) | ((with_reducible refine qa2 (b := .append) (xs := #[.tmp 15, .tmp 16]) rfl ?_); at_builtin; refine Kd.qdK qaL (w0 := w) w.heap.size rfl (.tmp 15) (.tmp 16) 26 85 (.agg #[(.int .i64 0), (.int .i64 0)]) 16 rfl Tryz.underlying26 qfT rfl (by decide) (by omega) qtn qmJ l0 _ _ _ (fun _ => True) (fun _ => False) rfl rfl ?aO ?aR (fun _ _ h => h) (fun _ h => h.elim) ?aF ?aB ?aS ?aL ?_; (case aR => repeat (first | exact (Kd.qeg HR0.out HB.out) | (with_reducible refine Kd.C_alloc ?_ _) | (with_reducible refine Kd.C_drewN ?_ _) | (with_reducible refine Kd.C_drew ?_))); (case aB => exact qan); (case aF => exact (fun _ _ => trivial)); (case aO => exact (by apply_rules only [qeI.out, Kd.qap, Kd.qaq, Kd.qaw])); (case aS => exact (qab qan)); (case aL => have := LMc4.out; omega); intro v107 w8 ho hb hg hat; rw [← qod.out] at ho; replace HB := ak_ (hb); have qgm := ak_ (ho); clear qeI; clear ho hb hg hat; obtain ⟨Ao9, co9, eo9⟩ := Kd.qaI qgm.out; subst eo9))
 go_loopg [6, 7] k (fun kq v6 v7 w' => ∃ (qdl : List (qac)) (qc5 : Int), v7 = .int .i64 qc5 ∧ qag (qa7.l0 kq qat qdl qc5 = some (r1, r2)) ∧ qag (kq ≤ k) ∧ qag (Kd.R qaL 85 w' w.heap.size (fun _ => True) v6 qdl) ∧ qag (Below w.heap.size w w'))
 case atStart => exact ⟨(qkY), (wrap64 ((qkY.length : Int) - 1)), qav, H', ⟨Nat.le_refl _⟩, ⟨k85_⟩, ⟨qan⟩⟩
 case round =>
  clear H'; (try clear c3); (try clear c4); obtain ⟨qdl, qc5, rfl, HA, HK1, qfv, HB⟩ := hrel
  cases gk with
  | zero => exact absurd HA.out (by simp [qa7.l0])
  | succ k1 =>
   have H := HA.out; clear HA; simp only [qa7.l0] at H; by_cases c10 : qc5 ≥ 0; rotate_left
   ·rw [if_neg c10] at H; have qgt : decide (0 ≤ qc5) = false := decide_eq_false c10; clear c10; obtain ⟨rfl, rfl⟩ := qdF H; go_wp2
    go_ret2
    exact ⟨_, qcf, by (with_reducible repeat (first | apply Kd.qap | apply Kd.qaq | apply Kd.qaw)); exact qfv.out, qan⟩
   rw [if_pos c10] at H; have qgt : decide (0 ≤ qc5) = true := decide_eq_true c10; clear c10; obtain ⟨t109, A11, H⟩ := qay H; (try dsimp only at H); by_cases c12 : t109 = true
   ·subst c12; rw [if_pos rfl] at H; obtain ⟨qlW, A13, H⟩ := qay H; (try dsimp only at H); have H' := ak_ H; clear H; obtain ⟨Ao14, co14, eo14⟩ := Kd.qaI qfv.out; subst eo14
    go_wp2_with (first | (refine gl_ 28 Tryz.func198 #[.slice Ao14 qdl.length co14, .int .i64 qc5, .int .i64 qat] rfl qbK ?_; (with_reducible refine (qbn.calls k1 _ _ qdl qc5 qat true _ ?qaA ?qaB A11.out).mono ?_); (case qaA => repeat (first | exact (Kd.qao qfv.out).2.2 | (with_reducible refine Kd.C_alloc ?_ _) | (with_reducible refine Kd.C_drewN ?_ _) | (with_reducible refine Kd.C_drew ?_))); (case qaB => exact (Kd.qao qfv.out).2.1); rintro e w15 ⟨rfl, hb⟩; refine ⟨_, rfl, ?_⟩; replace qfv := qfv.mw hb; replace HB := HB.mw hb; (try clear hb)) | (refine gl_ 33 Tryz.func123 #[.slice Ao14 qdl.length co14, .int .i64 qc5, .int .i64 (wrap64 (qc5 + 1))] rfl qbK ?_; (refine (qcA.own _ _ w.heap.size qdl qc5 (wrap64 (qc5 + 1)) qlW _ (qab qan) qo1 A13.out).mono ?_); rintro e w16 ⟨v111, rfl, ho0, hg⟩; refine ⟨_, rfl, ?_⟩; have n1_ := ak_ ho0; have n2_ := ak_ (Below.grown qan hg (qab qan) (Kd.qfj qo1)); clear qfv; clear HB; have qqn := n1_; have HB := n2_; clear n1_ n2_; (try clear hg ho0)))
    go_roundg k1
    case measure => have := HK1.out; omega
    case rel => exact ⟨(qlW), (wrap64 (qc5 - 1)), qav, H', ⟨qcW⟩, ⟨by (with_reducible repeat (first | apply Kd.qap | apply Kd.qaq | apply Kd.qaw)); exact Kd.qa9 qqn.out (fun _ hk => trivial)⟩, ⟨qan⟩⟩
   replace c12 := Bool.eq_false_iff.mpr c12; subst c12; rw [if_neg ff_] at H; have H' := ak_ H; clear H; obtain ⟨Ao17, co17, eo17⟩ := Kd.qaI qfv.out; subst eo17
   go_wp2_with (first | (refine gl_ 28 Tryz.func198 #[.slice Ao17 qdl.length co17, .int .i64 qc5, .int .i64 qat] rfl qbK ?_; (with_reducible refine (qbn.calls k1 _ _ qdl qc5 qat false _ ?qaA ?qaB A11.out).mono ?_); (case qaA => repeat (first | exact (Kd.qao qfv.out).2.2 | (with_reducible refine Kd.C_alloc ?_ _) | (with_reducible refine Kd.C_drewN ?_ _) | (with_reducible refine Kd.C_drew ?_))); (case qaB => exact (Kd.qao qfv.out).2.1); rintro e w18 ⟨rfl, hb⟩; refine ⟨_, rfl, ?_⟩; replace qfv := qfv.mw hb; replace HB := HB.mw hb; (try clear hb)))
   go_roundg k1
   case measure => have := HK1.out; omega
   case rel => exact ⟨(qdl), (wrap64 (qc5 - 1)), qav, H', ⟨qcW⟩, ⟨qo1⟩, ⟨qan⟩⟩
end
end Go.Proofs.YtjeoabbnalamcaaGreatDoor.P
