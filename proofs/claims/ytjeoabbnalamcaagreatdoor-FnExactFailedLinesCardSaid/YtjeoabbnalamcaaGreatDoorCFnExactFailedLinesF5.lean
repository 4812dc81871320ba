/- What functions of the program answer. Proved in this text: its theorems. Conditions: as each theorem states them. -/
import Derived.Test.YtjeoabbnalamcaaGreatDoorCFnExactFailedLinesP
import Derived.Test.YtjeoabbnalamcaaGreatDoorCFnExactFailedLinesF2
import Derived.Test.YtjeoabbnalamcaaGreatDoorCFnExactFailedLinesF4
import Derived.Test.YtjeoabbnalamcaaGreatDoorCFnExactFailedLinesF0
namespace Go.Proofs.YtjeoabbnalamcaaGreatDoor.P
open Go.RowKit Go.Proofs.YtjeoabbnalamcaaGreatDoorW.qa0 Go.Proofs.YtjeoabbnalamcaaGreatDoorW.PrintLast Go.Proofs.YtjeoabbnalamcaaGreatDoorW.PrintMore
set_option linter.unusedVariables false
set_option linter.unusedSimpArgs false
set_option maxHeartbeats 8000000
set_option maxRecDepth 100000
section
attribute [local go_sem] qg2 qg4 qij qik qgg qgh qg3 qg5
def qcG.l0 (k : Nat) : List ByteArray → List qac → Int → List ByteArray → Option (List qac × Int × List ByteArray × Bool)
  | [], rs, mo, out => some (rs, mo, out, true)
  | y :: t, rs, mo, out => (qea.f k rs mo y).bind fun p => qcG.l0 k t p.1 p.2.1 (out ++ [p.2.2])
def qcG.f (k : Nat) (s : ByteArray) : Option (List qac × Int × List ByteArray × Bool) := if s.size ≤ 3000 then ((qbk.f k s 10).bind fun ws => if ws.length ≤ 1048577 then (match ws.getLast? with
  | none => none
  | some last => if last.toList = [] then (if ws.length ≤ 51 then ((qdP.f k).bind fun d => qcG.l0 k (ws.take (ws.length - 1)) d.1 d.2 []) else some ([], 0, [], false)) else some ([], 0, [], false)) else none) else some ([], 0, [], false)
theorem qqR {P : Program} {ops : Array Oper} {rest : List Oper} {a : Act} {Q : Exit → Act → World → Prop} {W : World} {c} (h : ∀ W' : World, W' = W → W'.heap.size = W.heap.size → wpList P ops Q rest a (W'.alloc c)) : wpList P ops Q rest a (W.alloc c) := h W rfl rfl
theorem qcG.calls (k : Nat) (s : ByteArray) (r1 : List qac) (r2 : Int) (r3 : List ByteArray) (r4 : Bool) (w : World) (h : qcG.f k s = some (r1, r2, r3, r4)) :
    Calls Tryz.prog 57 #[.string s] w fun e w' => ∃ v0_ v1_ : Value, e = .returned (.tuple #[.agg #[v0_, .int .i64 r2], v1_, .bool r4]) ∧ Kd.R qaL 85 w' w.heap.size (fun _ => True) v0_ r1 ∧ Kd.R Kd.string 9 w' w.heap.size (fun _ => True) v1_ r3 ∧ Below w.heap.size w w' := by
  have hu := Tryz.underlying28; obtain ⟨i0_, qn0, _, hsz_, _⟩ := info_parts qml; have HB := br_ w; unfold qcG.f at h; by_cases hs : s.size ≤ 3000; rotate_left
  ·rw [if_neg hs] at h; have hsb : decide (3000 < (s.size : Int)) = true := decide_eq_true (by omega); have hsc : decide (3000 < s.size) = true := decide_eq_true (by omega); clear hs; obtain ⟨rfl, rfl, rfl, rfl⟩ := pj4_ h; go_enter Tryz.func57, Tryz.ntmps57
   go_wp2_with (first | ((with_reducible refine qal (N := 2) rfl ?_); refine bx_ 2 rfl (cs := #[(.slice none 0 0), (.int .i64 0)]) (t := 28) qbe ?_; intro g2 hg w2 hbox hb; have B2 := ak_ hbox; have G2 := ak_ (show w.heap.size ≤ g2 from qsK); replace HB := ak_ (qaa qan hb); obtain ⟨qsz, qr3⟩ := qcx B2.out; have qsA := qbC B2.out; have qr4 := qad B2.out 1; clear hb hbox hg))
   refine bodyPost_ret (qb4 (rs := [.cell 2 28, .tmp 3, .tmp 4]) rfl (by simp) (.cell g2 28 #[(.slice none 0 0), (.int .i64 0)] (0, 0) _ rfl k51_ Tryz.underlying28 rfl (by kernel_rfl) (.tmp (.tmp .nil)))) rfl ?_; exact ⟨_, _, rfl, Kd.qfP _ _ _ _ _, Kd.qfP _ _ _ _ _, k57_⟩
  rw [if_pos hs] at h; have hsb : decide (3000 < (s.size : Int)) = false := decide_eq_false (by omega); have hsc : decide (3000 < s.size) = false := decide_eq_false (by omega); clear hs; obtain ⟨ws, A1, h⟩ := qay h; by_cases hwm : ws.length ≤ 1048577; rotate_left
  · rw [if_neg hwm] at h
    exact absurd h (by simp)
  rw [if_pos hwm] at h
  cases hla : ws.getLast? with
  | none => rw [hla] at h; exact absurd h (by simp)
  | some last =>
    rw [hla] at h; dsimp only at h
    have hwp : 0 < ws.length := by cases ws with | nil => cases hla | cons a b => simp
    have HWP := ak_ hwp
    obtain ⟨m, hm⟩ : ∃ m, m = ws.length - 1 := ⟨_, rfl⟩
    have HM := ak_ hm; have HLA := ak_ (show ws[m]? = some last from by rw [hm, ← List.getLast?_eq_getElem?]; exact hla); rw [← hm] at h
    have hml : (ws.length : Int) - 1 = (m : Int) := by omega
    have hmw : wrap64 ((ws.length : Int) - 1) = (m : Int) := by unfold wrap64; omega
    have hmi : IntKind.i64.wrap ((ws.length : Int) - 1) = (m : Int) := by rw [qd7]; exact hmw
    have hm0 : (0 : Int) ≤ (m : Int) := by omega
    have hm1 : (m : Int) < (ws.length : Int) := by omega
    have HWM := ak_ hwm; clear hla hwp hm; by_cases hd : last.toList = []; rotate_left
    ·rw [if_neg hd] at h; have hdb : (last.toList != []) = true := bne_iff_ne.2 hd; have hdc : (last.toList == []) = false := beq_eq_false_iff_ne.2 hd; obtain ⟨rfl, rfl, rfl, rfl⟩ := pj4_ h; clear hd hml hwm; go_enter Tryz.func57, Tryz.ntmps57
     go_wp2_with (first | ((with_reducible refine qal (N := 2) rfl ?_); refine bx_ 2 rfl (cs := #[(.slice none 0 0), (.int .i64 0)]) (t := 28) qbe ?_; intro g2 hg w2 hbox hb; have B2 := ak_ hbox; have G2 := ak_ (show w.heap.size ≤ g2 from qsK); replace HB := ak_ (qaa qan hb); obtain ⟨qsz, qr3⟩ := qcx B2.out; have qsA := qbC B2.out; have qr4 := qad B2.out 1; clear hb hbox hg) | (refine gl_ 18 Tryz.func39 #[.string s, .int .u8 10] rfl qbZ ?_; (refine (qbk.calls k s 10 ws _ A1.out).mono ?_); rintro e w18 ⟨vw, rfl, how, hb⟩; refine ⟨_, rfl, ?_⟩; have HW := ak_ (Kd.qax how (qab qan)); replace B2 := B2.mw hb; replace HB := ak_ (qaa qan hb); obtain ⟨gw, cw, ew, -⟩ := Kd.qeZ HW.out HWP.out; subst ew; have hcut_ := qj9 (P := Tryz.prog) 43 9 .i64 Tryz.underlying43 qn0 (some ⟨gw, 0, none⟩) ws.length cw (m : Int) (by omega) (by have := HM.out; omega) (Kd.qao HW.out).2.1; rw [Int.toNat_natCast] at hcut_; have hl18 : w18.cell? ⟨gw, m, none⟩ = some (.string last) := qcP HW.out m last HLA.out; have HB3 := br_ w18; obtain ⟨qsx, qr1⟩ := qcx B2.out; have qsy := qbC B2.out; have qr2 := qad B2.out 1; clear how hb))
     refine bodyPost_ret (qb4 (rs := [.cell 2 28, .tmp 3, .tmp 4]) rfl (by simp) (.cell g2 28 #[(.slice none 0 0), (.int .i64 0)] (0, 0) _ rfl k51_ Tryz.underlying28 rfl (by kernel_rfl) (.tmp (.tmp .nil)))) rfl ?_; exact ⟨_, _, rfl, Kd.qfP _ _ _ _ _, Kd.qfP _ _ _ _ _, k57_⟩
    rw [if_pos hd] at h; have hdb : (last.toList != []) = false := bne_eq_false_iff_eq.2 hd; have hdc : (last.toList == []) = true := beq_iff_eq.2 hd; by_cases hl : ws.length ≤ 51; rotate_left
    ·rw [if_neg hl] at h; have hlb : decide (50 < (m : Int)) = true := decide_eq_true (by omega); have hlc : decide (50 < m) = true := decide_eq_true (by omega); obtain ⟨rfl, rfl, rfl, rfl⟩ := pj4_ h; clear hd hl hml hwm; go_enter Tryz.func57, Tryz.ntmps57
     go_wp2_with (first | ((with_reducible refine qal (N := 2) rfl ?_); refine bx_ 2 rfl (cs := #[(.slice none 0 0), (.int .i64 0)]) (t := 28) qbe ?_; intro g2 hg w2 hbox hb; have B2 := ak_ hbox; have G2 := ak_ (show w.heap.size ≤ g2 from qsK); replace HB := ak_ (qaa qan hb); obtain ⟨qsz, qr3⟩ := qcx B2.out; have qsA := qbC B2.out; have qr4 := qad B2.out 1; clear hb hbox hg) | (refine gl_ 18 Tryz.func39 #[.string s, .int .u8 10] rfl qbZ ?_; (refine (qbk.calls k s 10 ws _ A1.out).mono ?_); rintro e w18 ⟨vw, rfl, how, hb⟩; refine ⟨_, rfl, ?_⟩; have HW := ak_ (Kd.qax how (qab qan)); replace B2 := B2.mw hb; replace HB := ak_ (qaa qan hb); obtain ⟨gw, cw, ew, -⟩ := Kd.qeZ HW.out HWP.out; subst ew; have hcut_ := qj9 (P := Tryz.prog) 43 9 .i64 Tryz.underlying43 qn0 (some ⟨gw, 0, none⟩) ws.length cw (m : Int) (by omega) (by have := HM.out; omega) (Kd.qao HW.out).2.1; rw [Int.toNat_natCast] at hcut_; have hl18 : w18.cell? ⟨gw, m, none⟩ = some (.string last) := qcP HW.out m last HLA.out; have HB3 := br_ w18; obtain ⟨qsx, qr1⟩ := qcx B2.out; have qsy := qbC B2.out; have qr2 := qad B2.out 1; clear how hb))
     refine bodyPost_ret (qb4 (rs := [.cell 2 28, .tmp 3, .tmp 4]) rfl (by simp) (.cell g2 28 #[(.slice none 0 0), (.int .i64 0)] (0, 0) _ rfl k51_ Tryz.underlying28 rfl (by kernel_rfl) (.tmp (.tmp .nil)))) rfl ?_; exact ⟨_, _, rfl, Kd.qfP _ _ _ _ _, Kd.qfP _ _ _ _ _, k57_⟩
    rw [if_pos hl] at h; obtain ⟨⟨rs0, mo0⟩, AF, h⟩ := qay h; dsimp only at h; have hlb : decide (50 < (m : Int)) = false := decide_eq_false (by have := HM.out; omega); have hlc : decide (50 < m) = false := decide_eq_false (by have := HM.out; omega); have HM51 := ak_ (show m ≤ 50 from by have := HM.out; omega); have H' := ak_ h; clear h hd hl hml hwm; go_enter Tryz.func57, Tryz.ntmps57
    go_wp2_with (first | ((with_reducible refine qal (N := 2) rfl ?_); refine bx_ 2 rfl (cs := #[(.slice none 0 0), (.int .i64 0)]) (t := 28) qbe ?_; intro g2 hg w2 hbox hb; have B2 := ak_ hbox; have G2 := ak_ (show w.heap.size ≤ g2 from qsK); replace HB := ak_ (qaa qan hb); obtain ⟨qsz, qr3⟩ := qcx B2.out; have qsA := qbC B2.out; have qr4 := qad B2.out 1; clear hb hbox hg) | (refine gl_ 18 Tryz.func39 #[.string s, .int .u8 10] rfl qbZ ?_; (refine (qbk.calls k s 10 ws _ A1.out).mono ?_); rintro e w18 ⟨vw, rfl, how, hb⟩; refine ⟨_, rfl, ?_⟩; have HW := ak_ (Kd.qax how (qab qan)); replace B2 := B2.mw hb; replace HB := ak_ (qaa qan hb); obtain ⟨gw, cw, ew, -⟩ := Kd.qeZ HW.out HWP.out; subst ew; have hcut_ := qj9 (P := Tryz.prog) 43 9 .i64 Tryz.underlying43 qn0 (some ⟨gw, 0, none⟩) ws.length cw (m : Int) (by omega) (by have := HM.out; omega) (Kd.qao HW.out).2.1; rw [Int.toNat_natCast] at hcut_; have hl18 : w18.cell? ⟨gw, m, none⟩ = some (.string last) := qcP HW.out m last HLA.out; have HB3 := br_ w18; obtain ⟨qsx, qr1⟩ := qcx B2.out; have qsy := qbC B2.out; have qr2 := qad B2.out 1; clear how hb) | (refine gl_ 32 Tryz.func91 #[] rfl qbZ ?_; (refine (qdP.calls k rs0 mo0 _ AF.out).mono ?_); rintro e w32 ⟨v0, rfl, ho, hb⟩; refine ⟨_, rfl, ?_⟩; have HO := ak_ (Kd.qax ho (qab k49_)); replace HB3 := ak_ (qaa k49_ hb); obtain ⟨A0, c0, eo⟩ := Kd.qaI HO.out; subst eo; clear ho hb) | ((with_reducible refine qal (N := 7) rfl ?_); refine bx_ 7 rfl (cs := #[(.slice none 0 0), (.int .i64 0)]) (t := 28) qbe ?_; intro g7 hg w7 hbox hb; have B7 := ak_ hbox; have G7 := ak_ (show w18.heap.size ≤ g7 from by rw [hg]; exact qab k49_); replace HO := HO.mw hb; replace HB3 := ak_ (qaa k49_ hb); obtain ⟨hdw7_0, fdw7_0⟩ := qcx B7.out; have hdw7_1 := qbC B7.out; have fdw7_1 := qad B7.out 1; have HRT := ak_ (Kd.qcw HO.out B7.out (by decide)); clear hb hbox hg))
    have HB18 := HB; have B2w := B2
    go_loopg [8, 37] m (fun kq v8 v37 w' => ∃ (j : Nat) (qfV : List ByteArray) (rs : List qac) (mo : Int), v37 = .int .i64 (j : Int) ∧ qag (j ≤ m) ∧ qag (qcG.l0 k ((ws.take m).drop j) rs mo qfV = some (r1, r2, r3, r4)) ∧ qag (m - j ≤ kq) ∧ qag (qfV.length = j) ∧ qag (qfD w' w18.heap.size g7 rs mo) ∧ qag (Kd.R Kd.string 9 w' w18.heap.size (fun _ => True) v8 qfV) ∧ qag (Below w18.heap.size w18 w'))
    case atStart => exact ⟨0, [], rs0, mo0, by first | rfl | go_num, ⟨Nat.zero_le _⟩, H', ⟨Nat.le_refl _⟩, ⟨rfl⟩, ⟨A0, c0, (by apply ho_; (with_reducible repeat (first | exact B7.out | refine qak ?_ _ | refine qam ?_ | refine qaj ?_ _ | apply qeB)); rfl), (Kd.qa9 (ok := fun k_ => True ∧ k_ ≠ g7) (by with_reducible repeat (first | exact HRT.out | apply Kd.qap | apply Kd.qaq | apply Kd.qaw | refine Kd.qcV (p := ⟨g7, _, none⟩) ?_ (fun _ hk => hk.2) _)) (fun _ _ => trivial))⟩, ⟨Kd.qfP _ _ _ _ _⟩, ⟨(by with_reducible repeat (first | exact HB3.out | refine qas ?_ G7.out | apply qai | apply qaf | apply qah))⟩⟩
    case round =>
      clear H' B7 HO HRT HB3 HB B2 hmw hmi; obtain ⟨j, qfV, rs, mo, rfl, HJ, HA, HK1, HLO, HD, HO8, HB3⟩ := hrel; obtain ⟨A0, c0, hC7, hO7⟩ := HD.out; have B7 := ak_ hC7; have HO := ak_ hO7; clear hC7 hO7 HD; obtain ⟨hdwr_0, fdwr_0⟩ := qcx B7.out; have hdwr_1 := qbC B7.out; have fdwr_1 := qad B7.out 1; obtain ⟨A8, c8, e8⟩ := Kd.qaI HO8.out; subst e8; have H := HA.out; clear HA; by_cases hj : j < m
      ·have hjb : decide ((j : Int) < (m : Int)) = true := decide_eq_true (by omega); have hjc := decide_eq_true hj
       have hjd : (j : Int) < (m : Int) := by omega
       have hj0 : (0 : Int) ≤ (j : Int) := by omega
       have hjl : j < (ws.take m).length := by rw [List.length_take]; have := HM.out; omega
       obtain ⟨y, hy⟩ : ∃ y, y = (ws.take m)[j] := ⟨_, rfl⟩
       rw [List.drop_eq_getElem_cons hjl, ← hy] at H
       have hyj : ws[j]? = some y := by rw [hy, List.getElem_take, List.getElem?_eq_getElem]
       have hswr : wr.cell? ⟨gw, j, none⟩ = some (.string y) := qcP (Kd.qbv HW.out HB3.out) j y hyj; replace H : ((qea.f k rs mo y).bind fun p => qcG.l0 k ((ws.take m).drop (j + 1)) p.1 p.2.1 (qfV ++ [p.2.2])) = some (r1, r2, r3, r4) := H; obtain ⟨⟨rs2, mo2, txt⟩, AS, H⟩ := qay H; have H' := ak_ H; have HJ2 := ak_ (show j + 1 ≤ m from hj); clear H hy hyj hjl hj
       go_wp2_with (first | (refine gl_ 44 Tryz.func40 #[.agg #[.slice A0 rs.length c0, .int .i64 mo], .string y] rfl qbZ ?_; (refine (qm7 k w18.heap.size A0 c0 rs mo y rs2 mo2 txt _ (qab k49_) k94_ AS.out).mono ?_); rintro e w44 ⟨A2, c2, rfl, hR2, hb⟩; refine ⟨_, rfl, ?_⟩; have HO2 := ak_ hR2; replace B7 := B7.mw hb; replace HO8 := HO8.mw hb; replace HB3 := ak_ (qaa k49_ hb); obtain ⟨hdw44_0, fdw44_0⟩ := qcx B7.out; have hdw44_1 := qbC B7.out; have fdw44_1 := qad B7.out 1; clear hb hR2) | ((with_reducible refine qal (N := 11) rfl ?_); refine bx_ 11 rfl (cs := #[(.slice none 0 0), (.int .i64 0)]) (t := 28) qbe ?_; intro g11 hg w11 hbox hb; have B11 := ak_ hbox; have G11 := ak_ (show w18.heap.size ≤ g11 from by rw [hg]; exact qab k49_); have NE := ak_ (show g7 ≠ g11 from by rw [hg]; exact Nat.ne_of_lt (qdU (by apply_rules only [B7.out, qak, qam, qaj]))); have ne1_ := NE.out; have ne2_ : ¬ g11 = g7 := fun e_ => NE.out e_.symm; replace B7 := B7.mw hb; replace HO2 := HO2.mw hb; replace HO8 := HO8.mw hb; replace HB3 := ak_ (qaa k49_ hb); obtain ⟨hdw11_0, fdw11_0⟩ := qcx B7.out; have hdw11_1 := qbC B7.out; have fdw11_1 := qad B7.out 1; obtain ⟨hew11_0, few11_0⟩ := qcx B11.out; have hew11_1 := qbC B11.out; have few11_1 := qad B11.out 1; have HRT2 := ak_ (Kd.qcw (Kd.qcw HO2.out B7.out (by decide)) B11.out (by decide)); have HRT8 := ak_ (Kd.qcw (Kd.qcw HO8.out B7.out (by decide)) B11.out (by decide)); clear hb hbox hg) | ((with_reducible refine qa2 (b := .append) (xs := #[.tmp 48, .tmp 50]) rfl ?_); refine qqR (fun w50 hw50 hsz50 => ?_); have HR8 := ak_ (show Kd.R Kd.string 9 w50 w18.heap.size (fun _ => True) (.slice A8 qfV.length c8) qfV from by rw [hw50]; exact (Kd.qa9 (ok := fun k_ => (True ∧ k_ ≠ g7) ∧ k_ ≠ g11) (by with_reducible repeat (first | exact HRT8.out | apply Kd.qap | apply Kd.qaq | apply Kd.qaw | refine Kd.qcV (p := ⟨g7, _, none⟩) ?_ (fun _ hk => hk.1.2) _ | refine Kd.qcV (p := ⟨g11, _, none⟩) ?_ (fun _ hk => hk.2) _)) (fun _ _ => trivial))); have HD50 := ak_ (show qfD w50 w18.heap.size g7 rs2 mo2 from by rw [hw50]; exact ⟨A2, c2, (by apply ho_; (with_reducible repeat (first | exact B7.out | refine qak ?_ _ | refine qam ?_ | refine qaj ?_ _ | apply qeB | apply qcZ (hp := NE.out))); rfl), (Kd.qa9 (ok := fun k_ => (True ∧ k_ ≠ g7) ∧ k_ ≠ g11) (by with_reducible repeat (first | exact HRT2.out | apply Kd.qap | apply Kd.qaq | apply Kd.qaw | refine Kd.qcV (p := ⟨g7, _, none⟩) ?_ (fun _ hk => hk.1.2) _ | refine Kd.qcV (p := ⟨g11, _, none⟩) ?_ (fun _ hk => hk.2) _)) (fun _ _ => trivial))⟩); have HB50 := ak_ (show Below w18.heap.size w18 w50 from by rw [hw50]; exact k49_); clear hw50; at_builtin; refine Kd.qcH Kd.string (w0 := w18) w18.heap.size rfl (.tmp 48) (.tmp 50) 43 9 (.string ⟨#[]⟩) 16 rfl Tryz.underlying43 qml rfl (by decide) (by omega) (.slice A8 qfV.length c8) qfV txt [.string txt] (fun _ => True) (fun _ => False) rfl ?aX ?aP (fun _ hk => hk.elim) ?aF ?aO ?aB ?aS ?aL ?_; (case aX => rw [hsz50]; simp only [Deep.nblk_setCell]; rfl); (case aP => exact rfl); (case aB => exact HB50.out); (case aF => exact (fun _ _ => trivial)); (case aO => exact HR8.out); (case aS => exact (qab HB50.out)); (case aL => have := HLO.out; have := HWM.out; have := HM.out; have := HJ.out; omega); intro v51 w51 ho hb hg hat; have HD2 := ak_ (show qfD w51 w18.heap.size g7 rs2 mo2 from by obtain ⟨A_, c_, h1_, h2_⟩ := HD50.out; exact ⟨A_, c_, qdH h1_ hg (Kd.qpw HR8.out h1_ (by decide)), Kd.qfw h2_ (Kd.qe7 HR8.out) (by decide) hg⟩); clear HB3; have HB3 := ak_ hb; have HO51 := ak_ ho; clear ho hb hg hat HR8 HD50 HB50 hsz50))
       go_roundg (m - (j + 1))
       case measure => have := HK1.out; have := HJ2.out; omega
       case rel => exact ⟨j + 1, qfV ++ [txt], rs2, mo2, (by have h1_ := HJ2.out; have h2_ := HM51.out; rw [show wrap64 ((j : Int) + 1) = ((j + 1 : Nat) : Int) from by unfold wrap64; omega]), HJ2, H', ⟨Nat.le_refl _⟩, ⟨by rw [List.length_append, HLO.out]; rfl⟩, HD2, HO51, HB3⟩
      have hjb : decide ((j : Int) < (m : Int)) = false := decide_eq_false (by omega); have hjc := decide_eq_false hj; rw [List.drop_of_length_le (by rw [List.length_take]; omega)] at H; replace H : some (rs, mo, qfV, true) = some (r1, r2, r3, r4) := H; obtain ⟨rfl, rfl, rfl, rfl⟩ := pj4_ H; have B2 := ak_ (qar B2w.out HB3.out); have HB := ak_ (qaa HB18.out HB3.out); obtain ⟨hzwr_0, fzwr_0⟩ := qcx B2.out; have hzwr_1 := qbC B2.out; have fzwr_1 := qad B2.out 1; have HRT := ak_ (Kd.qcw (Kd.qax HO.out (qab HB18.out)) B2.out (by decide)); have HRT8 := ak_ (Kd.qcw (Kd.qax HO8.out (qab HB18.out)) B2.out (by decide)); clear hj; go_wp2; refine bodyPost_ret (qb4 (rs := [.cell 2 28, .tmp 3, .tmp 4]) rfl (by simp) (.cell g2 28 #[(.slice A0 rs.length c0), (.int .i64 mo)] (0, 0) _ rfl k51_ Tryz.underlying28 rfl (by kernel_rfl) (.tmp (.tmp .nil)))) rfl ?_; exact ⟨_, .slice A8 qfV.length c8, rfl, (Kd.qa9 (ok := fun k_ => True ∧ k_ ≠ g2) (by with_reducible repeat (first | exact HRT.out | apply Kd.qap | apply Kd.qaq | apply Kd.qaw | refine Kd.qcV (p := ⟨g2, _, none⟩) ?_ (fun _ hk => hk.2) _)) (fun _ _ => trivial)), (Kd.qa9 (ok := fun k_ => True ∧ k_ ≠ g2) (by with_reducible repeat (first | exact HRT8.out | apply Kd.qap | apply Kd.qaq | apply Kd.qaw | refine Kd.qcV (p := ⟨g2, _, none⟩) ?_ (fun _ hk => hk.2) _)) (fun _ _ => trivial)), k57_⟩
def qa3.l0 : Nat → Bool → List Int → List ByteArray → Int → Int → Option (List Int × Bool)
 | 0, _, _, _, _, _ => none
 | k + 1, x6, x7, x16, x17, x18 => if x18 < x17 then (if 0 ≤ x18 then (if x18 < (x16.length : Int) then (if (qeJ ByteArray.empty x16 x18).toList = ([110, 111] : List UInt8) then (if x7.length < 17592186044416 then (qa3.l0 k x6 (x7 ++ [wrap64 (x18 + 1)]) x16 x17 (wrap64 (x18 + 1))) else (none)) else (if (qeJ ByteArray.empty x16 x18).toList = ([119, 104, 97, 116] : List UInt8) then (if x7.length < 17592186044416 then (qa3.l0 k x6 (x7 ++ [wrap64 (x18 + 1)]) x16 x17 (wrap64 (x18 + 1))) else (none)) else (qa3.l0 k x6 x7 x16 x17 (wrap64 (x18 + 1))))) else (none)) else (none)) else (some (x7, x6))
def qa3.f (k : Nat) (a0 : ByteArray) : Option (List Int × Bool) := (qcG.f k a0).bind fun qcR => (qa3.l0 k qcR.2.2.2 ([] : List Int) qcR.2.2.1 (qcR.2.2.1.length : Int) 0)
theorem qa3.calls (k : Nat) (a0 : ByteArray) (r1 : List Int) (r2 : Bool) (w : World) (h : qa3.f k a0 = some (r1, r2)) :
  Calls Tryz.prog 32 #[.string a0] w fun e w' => ∃ v0_ : Value, e = .returned (.tuple #[v0_, .bool r2]) ∧ Kd.R (Kd.int .i64) 3 w' w.heap.size (fun _ => True) v0_ r1 ∧ Below w.heap.size w w' := by
 have hu28 := Tryz.underlying28; have HB := br_ w; have H : ((qcG.f k a0).bind fun qcR => (qa3.l0 k qcR.2.2.2 ([] : List Int) qcR.2.2.1 (qcR.2.2.1.length : Int) 0)) = some (r1, r2) := h; clear h; obtain ⟨⟨qat, qcg, t105, qqi⟩, A2, H⟩ := qay H; (try dsimp only at H); have H' := ak_ H; clear H; go_enter Tryz.func32, Tryz.ntmps32
 go_wp2_with (first | (refine gl_ 12 Tryz.func57 #[.string a0] rfl qbK ?_; (with_reducible refine (qcG.calls k a0 qat qcg t105 qqi _ A2.out).mono ?_); rintro e w3 ⟨qit, qq6, rfl, ho0, ho1, hb⟩; refine ⟨_, rfl, ?_⟩; have qc6 := ak_ (Kd.qax ho0 (qab qan)); have qe2 := ak_ (Kd.qax ho1 (qab qan)); replace HB := HB.mw hb; (try clear hb ho0 ho1)) | ((with_reducible refine qal (N := 4) rfl ?_); refine bx_ 4 rfl (cs := #[.slice none 0 0, .int .i64 0]) (t := 28) qbe ?_; intro qhw hg w4 hbox hb; replace qc6 := qc6.mw hb; replace qe2 := qe2.mw hb; have qf5 := ak_ (hbox); have GW109 := ak_ (HB.ge hg); have GE109 := ak_ (HB.ge hg); replace HB := HB.mw hb; clear hb hbox hg; obtain ⟨Ao5, co5, eo5⟩ := Kd.qaI qc6.out; subst eo5; obtain ⟨qkg, qkh, qkm, qkn⟩ := qbG qf5.out; obtain ⟨Ao7, co7, eo7⟩ := Kd.qaI qe2.out; subst eo7))
 go_loopg [7, 18] k (fun kq v7 v18 w' => ∃ (qc5 : List Int) (qet : Int), v18 = .int .i64 qet ∧ qag (qa3.l0 kq qqi qc5 t105 (t105.length : Int) qet = some (r1, r2)) ∧ qag (kq ≤ k) ∧ qag (Kd.R (Kd.int .i64) 3 w' w.heap.size (fun _ => True) v7 qc5) ∧ qag (Kd.R Kd.string 9 w' w.heap.size (fun _ => True) (.slice Ao7 t105.length co7) t105) ∧ qag (Kd.R qaL 85 w' w.heap.size (fun _ => True) (.slice Ao5 qat.length co5) qat) ∧ qag (w'.heap[qhw]? = some (.cells #[(.slice Ao5 qat.length co5), .int .i64 qcg] 28 (0, 0))) ∧ qag (Below w.heap.size w w'))
 case atStart => exact ⟨(([] : List Int)), (0), qav, H', ⟨Nat.le_refl _⟩, ⟨qgN⟩, ⟨k19_⟩, ⟨by (with_reducible repeat (first | apply Kd.qap | apply Kd.qaq | apply Kd.qaw)); exact Kd.qa9 (Kd.qcV (p := ⟨qhw, 1, none⟩) (Kd.qcV (p := ⟨qhw, 0, none⟩) (Kd.qcw qc6.out qf5.out (by decide)) (fun _ hk => hk.2) (.slice Ao5 qat.length co5)) (fun _ hk => hk.2) (.int .i64 qcg)) (fun _ hk => trivial)⟩, ⟨by (with_reducible repeat (first | refine qak ?_ _ | refine qam ?_ | refine qaj ?_ _)); refine qbl (cs := #[.slice Ao5 qat.length co5, .int .i64 0]) ?_ 1 _ rfl; (with_reducible repeat (first | refine qak ?_ _ | refine qam ?_ | refine qaj ?_ _)); refine qbl (cs := #[.slice none 0 0, .int .i64 0]) ?_ 0 _ rfl; apply_rules only [qf5.out, qak, qam, qaj]⟩, ⟨qk9⟩⟩
 case round =>
  clear H'; (try clear qkg); (try clear qkh); (try clear qkm); (try clear qkn); obtain ⟨qc5, qet, rfl, HA, HK1, qgH, qk2, qgG, qf5, HB⟩ := hrel
  cases gk with
  | zero => exact absurd HA.out (by simp [qa3.l0])
  | succ k1 =>
   have H := HA.out; clear HA; simp only [qa3.l0] at H; by_cases c8 : qet < (t105.length : Int); rotate_left
   ·rw [if_neg c8] at H; have qm4 := decide_eq_false c8; clear c8; obtain ⟨rfl, rfl⟩ := qdF H; go_wp2
    go_ret2
    exact ⟨_, qcf, by (with_reducible repeat (first | apply Kd.qap | apply Kd.qaq | apply Kd.qaw)); exact qgH.out, qk9⟩
   rw [if_pos c8] at H; have qm4 := decide_eq_true c8; clear c8; obtain ⟨c9, H⟩ := qck H; have qln := decide_eq_true c9; clear c9; obtain ⟨c10, H⟩ := qck H; have qgt := decide_eq_true c10; clear c10; by_cases c11 : (qeJ ByteArray.empty t105 qet).toList = ([110, 111] : List UInt8)
   ·rw [if_pos c11] at H; have qfQ : ((qeJ ByteArray.empty t105 qet).toList == ([110, 111] : List UInt8)) = true := beq_iff_eq.mpr c11; have qgT : ((qeJ ByteArray.empty t105 qet).toList != ([110, 111] : List UInt8)) = false := bne_eq_false_iff_eq.mpr c11; clear c11; obtain ⟨c12, H⟩ := qck H; have LMc12 := ak_ c12; clear c12
    obtain ⟨qhZ, hy_⟩ : ∃ y_ : List Int, y_ = (qc5 ++ [wrap64 (qet + 1)]) := ⟨_, rfl⟩
    replace H : (qa3.l0 k1 qqi qhZ t105 (t105.length : Int) (wrap64 (qet + 1))) = some (r1, r2) := qe1; have qqp := ak_ hy_; clear hy_; have H' := ak_ H; clear H; have qmu : 0 ≤ (qet : Int) := of_decide_eq_true qaO; have qmw : qet < (t105.length : Int) := of_decide_eq_true qaO; obtain ⟨qqt, e110, qfn⟩ := Kd.qeu (Kd.qao qk2.out).2.2 qet qmu qmw
    cases e110
    replace qmu := eq_true qmu; replace qmw := eq_true qmw
    go_wp2_with (first | ((with_reducible refine qa2 (b := .append) (xs := #[.tmp 29, .tmp 32]) rfl ?_); at_builtin; refine Kd.qcH (Kd.int .i64) (w0 := w) w.heap.size rfl (.tmp 29) (.tmp 32) 48 3 (.int .i64 0) 8 rfl Tryz.underlying48 info3 rfl (by decide) (by omega) u7 qc5 (wrap64 (qet + 1)) [.int .i64 (wrap64 (qet + 1))] (fun _ => True) (fun _ => False) rfl rfl ?aP (fun _ hk => hk.elim) ?aF ?aO ?aB ?aS ?aL ?_; (case aP => exact rfl); (case aB => exact qk9); (case aF => exact (fun _ _ => trivial)); (case aO => exact qlC); (case aS => exact (qab qk9)); (case aL => have := LMc12.out; omega); intro v112 w13 ho hb hg hat; rw [← qqp.out] at ho; replace qk2 := ak_ (Kd.qfw (by apply_rules only [qk2.out, Kd.qap, Kd.qaq, Kd.qaw]) (Kd.qe7 qlC) (by decide) hg); replace qgG := ak_ (Kd.qfw k81_ (Kd.qe7 qlC) (by decide) hg); replace qf5 := ak_ (qdH (g := qhw) (o := .cells #[.slice Ao5 qat.length co5, .int .i64 qcg] 28 (0, 0)) qsM hg (Kd.qpw qgH.out qf5.out (by decide))); replace HB := ak_ (hb); have qrh := ak_ (ho); clear qgH; clear ho hb hg hat))
    go_roundg k1
    case measure => have := HK1.out; omega
    case rel => exact ⟨(qhZ), (wrap64 (qet + 1)), qav, H', ⟨qcW⟩, ⟨by apply_rules only [qrh.out, Kd.qap, Kd.qaq, Kd.qaw]⟩, ⟨by apply_rules only [qk2.out, Kd.qap, Kd.qaq, Kd.qaw]⟩, ⟨k81_⟩, ⟨qsM⟩, ⟨qk9⟩⟩
   rw [if_neg c11] at H; have qfQ : ((qeJ ByteArray.empty t105 qet).toList == ([110, 111] : List UInt8)) = false := beq_eq_false_iff_ne.mpr c11; have qgT : ((qeJ ByteArray.empty t105 qet).toList != ([110, 111] : List UInt8)) = true := bne_iff_ne.mpr c11; by_cases c14 : (qeJ ByteArray.empty t105 qet).toList = ([119, 104, 97, 116] : List UInt8); rotate_left
   ·rw [if_neg c14] at H; have qj5 : ((qeJ ByteArray.empty t105 qet).toList == ([119, 104, 97, 116] : List UInt8)) = false := beq_eq_false_iff_ne.mpr c14; have qrE : ((qeJ ByteArray.empty t105 qet).toList != ([119, 104, 97, 116] : List UInt8)) = true := bne_iff_ne.mpr c14; have H' := ak_ H; clear H; have qmu : 0 ≤ (qet : Int) := of_decide_eq_true qaO; have qmw : qet < (t105.length : Int) := of_decide_eq_true qaO; obtain ⟨qqt, e110, qfn⟩ := Kd.qeu (Kd.qao qk2.out).2.2 qet qmu qmw
    cases e110
    replace qmu := eq_true qmu; replace qmw := eq_true qmw; go_wp2
    go_roundg k1
    case measure => have := HK1.out; omega
    case rel => exact ⟨(qc5), (wrap64 (qet + 1)), qav, H', ⟨qcW⟩, ⟨qlC⟩, ⟨by apply_rules only [qk2.out, Kd.qap, Kd.qaq, Kd.qaw]⟩, ⟨k81_⟩, ⟨qsM⟩, ⟨qk9⟩⟩
   rw [if_pos c14] at H; have qj5 : ((qeJ ByteArray.empty t105 qet).toList == ([119, 104, 97, 116] : List UInt8)) = true := beq_iff_eq.mpr c14; have qrE : ((qeJ ByteArray.empty t105 qet).toList != ([119, 104, 97, 116] : List UInt8)) = false := bne_eq_false_iff_eq.mpr c14; clear c14; obtain ⟨c15, H⟩ := qck H; have qrj := ak_ c15; clear c15
   obtain ⟨y114, hy_⟩ : ∃ y_ : List Int, y_ = (qc5 ++ [wrap64 (qet + 1)]) := ⟨_, rfl⟩
   replace H : (qa3.l0 k1 qqi y114 t105 (t105.length : Int) (wrap64 (qet + 1))) = some (r1, r2) := qe1; have Ny114 := ak_ hy_; clear hy_; have H' := ak_ H; clear H; have qmu : 0 ≤ (qet : Int) := of_decide_eq_true qaO; have qmw : qet < (t105.length : Int) := of_decide_eq_true qaO; obtain ⟨qqt, e110, qfn⟩ := Kd.qeu (Kd.qao qk2.out).2.2 qet qmu qmw
   cases e110
   replace qmu := eq_true qmu; replace qmw := eq_true qmw
   go_wp2_with (first | ((with_reducible refine qa2 (b := .append) (xs := #[.tmp 29, .tmp 32]) rfl ?_); at_builtin; refine Kd.qcH (Kd.int .i64) (w0 := w) w.heap.size rfl (.tmp 29) (.tmp 32) 48 3 (.int .i64 0) 8 rfl Tryz.underlying48 info3 rfl (by decide) (by omega) u7 qc5 (wrap64 (qet + 1)) [.int .i64 (wrap64 (qet + 1))] (fun _ => True) (fun _ => False) rfl rfl ?aP (fun _ hk => hk.elim) ?aF ?aO ?aB ?aS ?aL ?_; (case aP => exact rfl); (case aB => exact qk9); (case aF => exact (fun _ _ => trivial)); (case aO => exact qlC); (case aS => exact (qab qk9)); (case aL => have := qrj.out; omega); intro v115 w16 ho hb hg hat; rw [← Ny114.out] at ho; replace qk2 := ak_ (Kd.qfw (by apply_rules only [qk2.out, Kd.qap, Kd.qaq, Kd.qaw]) (Kd.qe7 qlC) (by decide) hg); replace qgG := ak_ (Kd.qfw k81_ (Kd.qe7 qlC) (by decide) hg); replace qf5 := ak_ (qdH (g := qhw) (o := .cells #[.slice Ao5 qat.length co5, .int .i64 qcg] 28 (0, 0)) qsM hg (Kd.qpw qgH.out qf5.out (by decide))); replace HB := ak_ (hb); have qn8 := ak_ (ho); clear qgH; clear ho hb hg hat))
   go_roundg k1
   case measure => have := HK1.out; omega
   case rel => exact ⟨(y114), (wrap64 (qet + 1)), qav, H', ⟨qcW⟩, ⟨by apply_rules only [qn8.out, Kd.qap, Kd.qaq, Kd.qaw]⟩, ⟨by apply_rules only [qk2.out, Kd.qap, Kd.qaq, Kd.qaw]⟩, ⟨k81_⟩, ⟨qsM⟩, ⟨qk9⟩⟩
def qcl.l0 : Nat → List Int → List Int → Int → Option (Bool)
 | 0, _, _, _ => none
 | k + 1, x0, x1, x5 => if x5 < (x0.length : Int) then (if 0 ≤ x5 then (if x5 < (x1.length : Int) then (if (rd x0 x5) = (rd x1 x5) then (qcl.l0 k x0 x1 (wrap64 (x5 + 1))) else (some false)) else (none)) else (none)) else (some true)
def qcl.f (k : Nat) (l0 : List Int) (l1 : List Int) : Option (Bool) := if (l0.length : Int) = (l1.length : Int) then (qcl.l0 k l0 l1 0) else (some false)
theorem qcl.calls (k : Nat) (A0 : Option Addr) (c0 : Nat) (l0 : List Int) (A1 : Option Addr) (c1 : Nat) (l1 : List Int) (r : Bool) (w : World) (hr0 : Kd.C (Kd.int .i64) w A0 l0.length l0) (hc0 : l0.length ≤ c0) (hr1 : Kd.C (Kd.int .i64) w A1 l1.length l1) (hc1 : l1.length ≤ c1) (h : qcl.f k l0 l1 = some r) :
  Calls Tryz.prog 33 #[.slice A0 l0.length c0, .slice A1 l1.length c1] w fun e w' => e = .returned (.bool r) ∧ qcN w w' := by
 have HR0 := ak_ hr0; have HC0 := ak_ hc0; clear hr0 hc0; have HR1 := ak_ hr1; have HC1 := ak_ hc1; clear hr1 hc1; have H : (if (l0.length : Int) = (l1.length : Int) then (qcl.l0 k l0 l1 0) else (some false)) = some r := h; clear h; by_cases c3 : (l0.length : Int) = (l1.length : Int); rotate_left
 ·rw [if_neg c3] at H; have qfk : ((l0.length : Int) == (l1.length : Int)) = false := beq_eq_false_iff_ne.mpr c3; have qmb : ((l0.length : Int) != (l1.length : Int)) = true := bne_iff_ne.mpr c3; have c3b2 : (l0.length == l1.length) = false := k102_; obtain rfl := sj_ H; go_enter Tryz.func33, Tryz.ntmps33; go_wp2
  repeat (go_quiet (fail); try go_wp2)
  go_ret
  exact ⟨qav, qcO⟩
 rw [if_pos c3] at H; have qfk : ((l0.length : Int) == (l1.length : Int)) = true := beq_iff_eq.mpr c3; have qmb : ((l0.length : Int) != (l1.length : Int)) = false := bne_eq_false_iff_eq.mpr c3; have c3b2 : (l0.length == l1.length) = true := k102_; clear c3; have H' := ak_ H; clear H; go_enter Tryz.func33, Tryz.ntmps33; go_wp2
 repeat (go_quiet (fail); try go_wp2)
 go_loopg [5] k (fun kq v5 w' => ∃ (qcn : Int), v5 = .int .i64 qcn ∧ qag (qcl.l0 kq l0 l1 qcn = some r) ∧ qag (kq ≤ k) ∧ qcN w w')
 case atStart => exact ⟨(0), qav, H', ⟨Nat.le_refl _⟩, qcO⟩
 case round =>
  clear H'; (try clear c3); (try clear qfk); (try clear qmb); (try clear c3b2); obtain ⟨qcn, rfl, HA, HK1, ⟨m1, rfl⟩⟩ := hrel
  cases gk with
  | zero => exact absurd HA.out (by simp [qcl.l0])
  | succ k1 =>
   have H := HA.out; clear HA; simp only [qcl.l0] at H; by_cases c4 : qcn < (l0.length : Int); rotate_left
   ·rw [if_neg c4] at H; have qfx := decide_eq_false c4; clear c4; obtain rfl := sj_ H; go_wp2
    repeat (go_quiet (fail); try go_wp2)
    go_ret
    exact ⟨qav, qcO⟩
   rw [if_pos c4] at H; have qfx := decide_eq_true c4; clear c4; obtain ⟨c5, H⟩ := qck H; have qgJ := decide_eq_true c5; clear c5; obtain ⟨c6, H⟩ := qck H; have qgk := decide_eq_true c6; clear c6; by_cases c7 : (rd l0 qcn) = (rd l1 qcn); rotate_left
   ·rw [if_neg c7] at H; have qgU : ((rd l0 qcn) == (rd l1 qcn)) = false := beq_eq_false_iff_ne.mpr c7; have qmL : ((rd l0 qcn) != (rd l1 qcn)) = true := bne_iff_ne.mpr c7; obtain rfl := sj_ H; have qeE : 0 ≤ (qcn : Int) := of_decide_eq_true qaO; have qeN : qcn < (l0.length : Int) := of_decide_eq_true qaO; obtain ⟨qhf, qhh, qbw⟩ := Kd.qdO HR0.out qcn qeE qeN
    cases qhh
    replace qeE := eq_true qeE; replace qeN := eq_true qeN; have qsW : 0 ≤ (qcn : Int) := of_decide_eq_true qaO; have qs0 : qcn < (l1.length : Int) := of_decide_eq_true qaO; obtain ⟨ad102, e102, qkw⟩ := Kd.qdO HR1.out qcn qsW qs0
    cases e102
    replace qsW := eq_true qsW; replace qs0 := eq_true qs0; go_wp2
    repeat (go_quiet (fail); try go_wp2)
    go_ret
    exact ⟨qav, qcO⟩
   rw [if_pos c7] at H; have qgU : ((rd l0 qcn) == (rd l1 qcn)) = true := beq_iff_eq.mpr c7; have qmL : ((rd l0 qcn) != (rd l1 qcn)) = false := bne_eq_false_iff_eq.mpr c7; clear c7; have H' := ak_ H; clear H; have qeE : 0 ≤ (qcn : Int) := of_decide_eq_true qaO; have qeN : qcn < (l0.length : Int) := of_decide_eq_true qaO; obtain ⟨qhf, qhh, qbw⟩ := Kd.qdO HR0.out qcn qeE qeN
   cases qhh
   replace qeE := eq_true qeE; replace qeN := eq_true qeN; have qsW : 0 ≤ (qcn : Int) := of_decide_eq_true qaO; have qs0 : qcn < (l1.length : Int) := of_decide_eq_true qaO; obtain ⟨ad102, e102, qkw⟩ := Kd.qdO HR1.out qcn qsW qs0
   cases e102
   replace qsW := eq_true qsW; replace qs0 := eq_true qs0; go_wp2
   repeat (go_quiet (fail); try go_wp2)
   go_roundg k1
   case measure => have := HK1.out; omega
   case rel => exact ⟨(wrap64 (qcn + 1)), qav, H', ⟨qcW⟩, qcO⟩
def qb3.l0 : Nat → List Int → Int → Int → Option (Int × List Int)
 | 0, _, _, _ => none
 | k + 1, x0, x1, x5 => if x5 < (x0.length : Int) then (if 0 ≤ x5 then (qb3.l0 k (x0.set (x5 : Int).toNat x1) (wrap64 (x1 + 1)) (wrap64 (x5 + 1))) else (none)) else (some (x1, x0))
def qb3.f (k : Nat) (l0 : List Int) (a1 : Int) : Option (Int × List Int) := qb3.l0 k l0 a1 0
theorem qb3.calls (k : Nat) (P0_ : Nat → Prop) (qnX : Value) (l0 : List Int) (a1 : Int) (r1 : Int) (r2 : List Int) (w0 w : World) (hB : Below w0.heap.size w0 w) (ho0 : Kd.R (Kd.int .i64) 3 w w0.heap.size P0_ qnX l0) (h : qb3.f k l0 a1 = some (r1, r2)) :
  Calls Tryz.prog 34 #[qnX, .int .i64 a1] w fun e w' => e = .returned (.int .i64 r1) ∧ Kd.R (Kd.int .i64) 3 w' w0.heap.size (fun k_ => (P0_ k_ ∨ w.heap.size ≤ k_)) qnX r2 ∧ Below w0.heap.size w0 w' ∧ Kept w w' (fun k_ => P0_ k_) := by
 have HO0 := ak_ (show Kd.R (Kd.int .i64) 3 w w0.heap.size (fun k_ => (P0_ k_ ∨ w.heap.size ≤ k_)) qnX l0 from Kd.qa9 ho0 (fun k_ hk => (.inl hk))); have HK := ak_ (Kept.refl w (fun k_ => P0_ k_)); have HW0 := ak_ hB.size; have HB := ak_ hB; clear hB; have H : (qb3.l0 k l0 a1 0) = some (r1, r2) := h; clear h; have H' := ak_ H; clear H; go_enter Tryz.func34, Tryz.ntmps34; go_wp2
 go_loopg [1, 5] k (fun kq v1 v5 w' => ∃ (qgD : List Int) (qgE : Int) (qcn : Int), v1 = .int .i64 qgE ∧ v5 = .int .i64 qcn ∧ qag (qb3.l0 kq qgD qgE qcn = some (r1, r2)) ∧ qag (kq ≤ k) ∧ qag (Kd.R (Kd.int .i64) 3 w' w0.heap.size (fun k_ => (P0_ k_ ∨ w.heap.size ≤ k_)) qnX qgD) ∧ qag (Kept w w' (fun k_ => P0_ k_)) ∧ qag (Below w0.heap.size w0 w'))
 case atStart => exact ⟨(l0), (a1), (0), qav, qav, H', ⟨Nat.le_refl _⟩, ⟨by apply_rules only [HO0.out, Kd.qap, Kd.qaq, Kd.qaw]⟩, ⟨k58_⟩, ⟨qan⟩⟩
 case round =>
  clear H'; obtain ⟨qgD, qgE, qcn, rfl, rfl, HA, HK1, HO_0, HK, HB⟩ := hrel
  cases gk with
  | zero => exact absurd HA.out (by simp [qb3.l0])
  | succ k1 =>
   have H := HA.out; clear HA; simp only [qb3.l0] at H; by_cases c3 : qcn < (qgD.length : Int); rotate_left
   ·rw [if_neg c3] at H; have qfk := decide_eq_false c3; clear c3; obtain ⟨rfl, rfl⟩ := qdF H; obtain ⟨Ao9, co9, eo9⟩ := Kd.qaI HO_0.out; subst eo9; go_wp2
    go_ret
    exact ⟨qcf, by (with_reducible repeat (first | apply Kd.qap | apply Kd.qaq | apply Kd.qaw)); exact HO_0.out, qan, k58_⟩
   rw [if_pos c3] at H; have qfk := decide_eq_true c3; clear c3; obtain ⟨c4, H⟩ := qck H; have qfx := decide_eq_true c4; clear c4
   obtain ⟨qff, hy_⟩ : ∃ y_ : List Int, y_ = (qgD.set (qcn : Int).toNat qgE) := ⟨_, rfl⟩
   replace H : (qb3.l0 k1 qff (wrap64 (qgE + 1)) (wrap64 (qcn + 1))) = some (r1, r2) := qe1; have qei := ak_ hy_; clear hy_; have H' := ak_ H; clear H; obtain ⟨Ao6, co6, eo6⟩ := Kd.qaI HO_0.out; subst eo6; have p5 : 0 ≤ (qcn : Int) := of_decide_eq_true qaO; have q5 : (qcn : Int) < ((qgD.length : Int) : Int) := of_decide_eq_true qaO; obtain ⟨go5, co5, eo5, gb5, gl5, cl5, HG5⟩ := Kd.qeZ HO_0.out (by omega); (first | cases eo5 | (injection eo5 with ea_ en_ ec_; (first | subst ea_ | (injection ea_ with ea_; subst ea_)); subst ec_; clear en_)); have GB5 := ak_ gb5; have GG5 := ak_ HG5; clear gb5 gl5 HG5; have HMgo5 := ak_ (show (P0_ go5 ∨ w.heap.size ≤ go5) from (HO_0.out.1 _ rfl)); obtain ⟨hx5_0, hf5_0⟩ := Kd.R_celln 0 HO_0.out (qcn : Int) p5 q5; replace p5 := eq_true p5; replace q5 := eq_true q5; have HP7 := Kd.R_putg HO_0.out (qcn : Int) qgE
   go_wp2_with (first | ((with_reducible refine qqA (t := 3) (p := 15) rfl ?_); refine qpr (t := 3) (p := 15) (v := ?vo_w8) (w1 := (wr.setCell ⟨go5, (qcn : Int).toNat, none⟩ (.int .i64 qgE))) ?hg ?ho ?hn ?hr ?_; (case ho => rfl); (case hg => rfl); (case hn => rfl); (case hr => exact qbe); intro w8 hw; have hg : wr.grownBy w8 (some go5) := (by rw [hw]; exact HP7.2); have hp_ : Kd.R (Kd.int .i64) 3 w8 w0.heap.size (fun k_ => (P0_ k_ ∨ w.heap.size ≤ k_)) (.slice (some ⟨go5, 0, none⟩) qgD.length co6) qff := (by rw [hw, qei.out]; exact HP7.1); clear HP7; replace HB := ak_ ((by rw [hw]; exact qas (HB.out) GB5.out : Below w0.heap.size w0 w8)); replace HK := ak_ (Kept.qjT (S := (fun k_ => P0_ k_)) hg k58_ (fun k_ e_ => (HO_0.out.1 k_ e_))); replace HO_0 := ak_ (hp_); clear hg hw hp_))
   go_roundg k1
   case measure => have := HK1.out; omega
   case rel => exact ⟨(qff), (wrap64 (qgE + 1)), (wrap64 (qcn + 1)), qav, qav, H', ⟨qcW⟩, ⟨by apply_rules only [HO_0.out, Kd.qap, Kd.qaq, Kd.qaw]⟩, ⟨k58_⟩, ⟨qan⟩⟩
def qbL.l0 : Nat → List Int → Int → Int → Option (Int)
 | 0, _, _, _ => none
 | k + 1, x0, x1, x5 => if x5 < (x0.length : Int) then (if 0 ≤ x5 then (if (rd x0 x5) = x1 then (qbL.l0 k x0 (wrap64 (x1 + 1)) (wrap64 (x5 + 1))) else (some (-1))) else (none)) else (some x1)
def qbL.f (k : Nat) (l0 : List Int) (a1 : Int) : Option (Int) := qbL.l0 k l0 a1 0
theorem qbL.calls (k : Nat) (A0 : Option Addr) (c0 : Nat) (l0 : List Int) (a1 : Int) (r : Int) (w : World) (hr0 : Kd.C (Kd.int .i64) w A0 l0.length l0) (hc0 : l0.length ≤ c0) (h : qbL.f k l0 a1 = some r) :
  Calls Tryz.prog 35 #[.slice A0 l0.length c0, .int .i64 a1] w fun e w' => e = .returned (.int .i64 r) ∧ qcN w w' := by
 have HR0 := ak_ hr0; have HC0 := ak_ hc0; clear hr0 hc0; have H : (qbL.l0 k l0 a1 0) = some r := h; clear h; have H' := ak_ H; clear H; go_enter Tryz.func35, Tryz.ntmps35; go_wp2
 go_loopg [1, 5] k (fun kq v1 v5 w' => ∃ (qgE : Int) (qcn : Int), v1 = .int .i64 qgE ∧ v5 = .int .i64 qcn ∧ qag (qbL.l0 kq l0 qgE qcn = some r) ∧ qag (kq ≤ k) ∧ qcN w w')
 case atStart => exact ⟨(a1), (0), qav, qav, H', ⟨Nat.le_refl _⟩, qcO⟩
 case round =>
  clear H'; obtain ⟨qgE, qcn, rfl, rfl, HA, HK1, ⟨m1, rfl⟩⟩ := hrel
  cases gk with
  | zero => exact absurd HA.out (by simp [qbL.l0])
  | succ k1 =>
   have H := HA.out; clear HA; simp only [qbL.l0] at H; by_cases c3 : qcn < (l0.length : Int); rotate_left
   ·rw [if_neg c3] at H; have qfk := decide_eq_false c3; clear c3; obtain rfl := sj_ H; go_wp2
    go_ret
    exact ⟨qav, qcO⟩
   rw [if_pos c3] at H; have qfk := decide_eq_true c3; clear c3; obtain ⟨c4, H⟩ := qck H; have qfx := decide_eq_true c4; clear c4; by_cases c5 : (rd l0 qcn) = qgE; rotate_left
   ·rw [if_neg c5] at H; have qgJ : ((rd l0 qcn) == qgE) = false := beq_eq_false_iff_ne.mpr c5; have qrG : ((rd l0 qcn) != qgE) = true := bne_iff_ne.mpr c5; obtain rfl := sj_ H; have qeE : 0 ≤ (qcn : Int) := of_decide_eq_true qaO; have qeN : qcn < (l0.length : Int) := of_decide_eq_true qaO; obtain ⟨qhf, qhh, qbw⟩ := Kd.qdO HR0.out qcn qeE qeN
    cases qhh
    replace qeE := eq_true qeE; replace qeN := eq_true qeN; go_wp2
    go_ret
    exact ⟨qav, qcO⟩
   rw [if_pos c5] at H; have qgJ : ((rd l0 qcn) == qgE) = true := beq_iff_eq.mpr c5; have qrG : ((rd l0 qcn) != qgE) = false := bne_eq_false_iff_eq.mpr c5; clear c5; have H' := ak_ H; clear H; have qeE : 0 ≤ (qcn : Int) := of_decide_eq_true qaO; have qeN : qcn < (l0.length : Int) := of_decide_eq_true qaO; obtain ⟨qhf, qhh, qbw⟩ := Kd.qdO HR0.out qcn qeE qeN
   cases qhh
   replace qeE := eq_true qeE; replace qeN := eq_true qeN; go_wp2
   go_roundg k1
   case measure => have := HK1.out; omega
   case rel => exact ⟨(wrap64 (qgE + 1)), (wrap64 (qcn + 1)), qav, qav, H', ⟨qcW⟩, qcO⟩
def qca.f (k : Nat) (a0 : ByteArray) : Option (Bool) := if (a0.size : Int) > 1048576 then (some true) else ((qa3.f k a0).bind fun qcR => ((qaS.f k a0).bind fun qoo => ((qcl.f k qoo.1 qcR.1).bind fun t109 => (if t109 = true then (if (qoo.2 != qcR.2) = true then (some false) else ((qb3.f k qoo.1 1).bind fun ql9 => ((qbL.f k ql9.2 1).bind fun qq3 => (if qq3 < 0 then (some false) else (if qq3 = ql9.1 then ((qaS.f k a0).bind fun qrz => ((qcl.f k qrz.1 qcR.1).bind fun t117 => (if t117 = true then (if (qrz.2 != qcR.2) = true then (some false) else ((qbL.f k ql9.2 1).bind fun qq4 => (if qq4 < 0 then (some false) else (if qq4 = ql9.1 then (some true) else (some false))))) else (some false)))) else (some false)))))) else (some false)))))
theorem qca.calls (k : Nat) (a0 : ByteArray) (w : World) (h : qca.f k a0 = some true) (hG : qbb w) :
  Calls Tryz.prog 7 #[.string a0] w fun e w' => e = .returned (.bool true) ∧ Below w.heap.size w w' := by
 have HB := br_ w; have HG := ak_ hG; clear hG; have H : (if (a0.size : Int) > 1048576 then (some true) else ((qa3.f k a0).bind fun qcR => ((qaS.f k a0).bind fun qoo => ((qcl.f k qoo.1 qcR.1).bind fun t109 => (if t109 = true then (if (qoo.2 != qcR.2) = true then (some false) else ((qb3.f k qoo.1 1).bind fun ql9 => ((qbL.f k ql9.2 1).bind fun qq3 => (if qq3 < 0 then (some false) else (if qq3 = ql9.1 then ((qaS.f k a0).bind fun qrz => ((qcl.f k qrz.1 qcR.1).bind fun t117 => (if t117 = true then (if (qrz.2 != qcR.2) = true then (some false) else ((qbL.f k ql9.2 1).bind fun qq4 => (if qq4 < 0 then (some false) else (if qq4 = ql9.1 then (some true) else (some false))))) else (some false)))) else (some false)))))) else (some false)))))) = some true := h; clear h; by_cases c2 : (a0.size : Int) > 1048576
 ·rw [if_pos c2] at H; have qfr : decide (1048576 < (a0.size : Int)) = true := decide_eq_true c2; have qm3 : decide (1048576 < a0.size) = true := decide_eq_true (by omega); clear c2; clear H; go_enter Tryz.func7, Tryz.ntmps7; go_wp2
  go_ret
  exact ⟨qcf, qan⟩
 rw [if_neg c2] at H; have qfr : decide (1048576 < (a0.size : Int)) = false := decide_eq_false c2; have qm3 : decide (1048576 < a0.size) = false := decide_eq_false (by omega); clear c2; obtain ⟨⟨qat, qaR⟩, A3, H⟩ := qay H; (try dsimp only at H); obtain ⟨⟨t105, qf4⟩, A4, H⟩ := qay H; (try dsimp only at H); obtain ⟨t109, A5, H⟩ := qay H; (try dsimp only at H); by_cases c6 : t109 = true; rotate_left
 ·replace c6 := Bool.eq_false_iff.mpr c6; subst c6; rw [if_neg ff_] at H; exact absurd H (by simp)
 subst c6; rw [if_pos rfl] at H; by_cases c7 : (qf4 != qaR) = true
 ·rw [if_pos c7] at H; have qgU : (qf4 != qaR) = true := c7; (try (have qmL : decide (qf4 = qaR) = false := by simpa using c7)); (try (have c7b2 : (qf4 == qaR) = false := by simpa using c7)); (try (have c7b3 : ¬ (qf4 = qaR) := by simpa using c7)); clear c7; exact absurd H (by simp)
 rw [if_neg c7] at H
 have qgU : (qf4 != qaR) = false := by simpa using c7
 (try (have qmL : decide (qf4 = qaR) = true := by simpa using c7)); (try (have c7b2 : (qf4 == qaR) = true := by simpa using c7)); clear c7; obtain ⟨⟨qlW, qlX⟩, A8, H⟩ := qay H; (try dsimp only at H); obtain ⟨qq3, A9, H⟩ := qay H; (try dsimp only at H); by_cases c10 : qq3 < 0
 ·rw [if_pos c10] at H; have qgt := decide_eq_true c10; clear c10; exact absurd H (by simp)
 rw [if_neg c10] at H; have qgt := decide_eq_false c10; clear c10; by_cases c11 : qq3 = qlW; rotate_left
 ·rw [if_neg c11] at H; have qfQ : (qq3 == qlW) = false := beq_eq_false_iff_ne.mpr c11; have qgT : (qq3 != qlW) = true := bne_iff_ne.mpr c11; exact absurd H (by simp)
 rw [if_pos c11] at H; have qfQ : (qq3 == qlW) = true := beq_iff_eq.mpr c11; have qgT : (qq3 != qlW) = false := bne_eq_false_iff_eq.mpr c11; clear c11; obtain ⟨⟨t113, t114⟩, A12, H⟩ := qay H; (try dsimp only at H); obtain ⟨t117, A13, H⟩ := qay H; (try dsimp only at H); by_cases c14 : t117 = true; rotate_left
 ·replace c14 := Bool.eq_false_iff.mpr c14; subst c14; rw [if_neg ff_] at H; exact absurd H (by simp)
 subst c14; rw [if_pos rfl] at H; by_cases c15 : (t114 != qaR) = true
 ·rw [if_pos c15] at H; have qm2 : (t114 != qaR) = true := c15; (try (have qop : decide (t114 = qaR) = false := by simpa using c15)); (try (have c15b2 : (t114 == qaR) = false := by simpa using c15)); (try (have c15b3 : ¬ (t114 = qaR) := by simpa using c15)); clear c15; exact absurd H (by simp)
 rw [if_neg c15] at H
 have qm2 : (t114 != qaR) = false := by simpa using c15
 (try (have qop : decide (t114 = qaR) = true := by simpa using c15)); (try (have c15b2 : (t114 == qaR) = true := by simpa using c15)); clear c15; obtain ⟨qq4, A16, H⟩ := qay H; (try dsimp only at H); by_cases c17 : qq4 < 0
 ·rw [if_pos c17] at H; have qrF := decide_eq_true c17; clear c17; exact absurd H (by simp)
 rw [if_neg c17] at H; have qrF := decide_eq_false c17; clear c17; by_cases c18 : qq4 = qlW; rotate_left
 ·rw [if_neg c18] at H; have qqw : (qq4 == qlW) = false := beq_eq_false_iff_ne.mpr c18; have c18b1 : (qq4 != qlW) = true := bne_iff_ne.mpr c18; exact absurd H (by simp)
 rw [if_pos c18] at H; have qqw : (qq4 == qlW) = true := beq_iff_eq.mpr c18; have c18b1 : (qq4 != qlW) = false := bne_eq_false_iff_eq.mpr c18; clear c18; clear H; go_enter Tryz.func7, Tryz.ntmps7
 go_wp2_with (first | (refine gl_ 16 Tryz.func32 #[.string a0] rfl qbK ?_; (with_reducible refine (qa3.calls k a0 qat qaR _ A3.out).mono ?_); rintro e w19 ⟨qhm, rfl, ho0, hb⟩; refine ⟨_, rfl, ?_⟩; have qb1 := ak_ (Kd.qax ho0 (qab qan)); replace HB := HB.mw hb; (try clear hb ho0)) | (refine gl_ 21 Tryz.func26 #[.string a0] rfl qbK ?_; (refine (qaS.calls k a0 t105 qf4 _ A4.out (qbb.below HG.out qan)).mono ?_); rintro e w20 ⟨v107, rfl, ho0, hb⟩; refine ⟨_, rfl, ?_⟩; have qgm := ak_ (Kd.qax (Kd.qh1 ho0 (Kd.qjI qra)) (qab qan)); replace qb1 := ak_ (Kd.qfB qra (Kd.qfj ho0) hb); replace HB := HB.mw hb; (try clear hb ho0); obtain ⟨Ao21, co21, eo21⟩ := Kd.qaI qgm.out; subst eo21; obtain ⟨Ao22, co22, eo22⟩ := Kd.qaI qb1.out; subst eo22) | (refine gl_ 26 Tryz.func33 #[.slice Ao21 t105.length co21, .slice Ao22 qat.length co22] rfl qbK ?_; (with_reducible refine (qcl.calls k _ _ t105 _ _ qat true _ ?qaA ?qaB ?qpk ?qpl A5.out).mono ?_); (case qaA => exact k39_); (case qaB => exact (Kd.qao qgm.out).2.1); (case qpk => exact k38_); (case qpl => exact (Kd.qao qb1.out).2.1); rintro e w' ⟨rfl, ⟨nd, rfl⟩⟩; refine ⟨_, rfl, ?_⟩) | (refine gl_ 35 Tryz.func34 #[.slice Ao21 t105.length co21, .int .i64 1] rfl qbK ?_; (with_reducible refine (qb3.calls k (fun k_ => some k_ = (.slice Ao21 t105.length co21 : Value).ownBlock) (.slice Ao21 t105.length co21) t105 1 qlW qlX w _ ?qaA ?qaB A8.out).mono ?_); (case qaA => exact qan); (case qaB => exact Kd.qh8 rfl qgm.out); rintro e w23 ⟨rfl, hy0, hb, hkp⟩; refine ⟨_, rfl, ?_⟩; replace qb1 := ak_ (Kd.qa9 (ok' := fun k_ => some k_ ≠ (.slice Ao21 t105.length co21 : Value).ownBlock) (Kd.R_keptB (qb1.out) hkp (fun k_ hk_ hs_ => (hk_.2) hs_)) (fun k_ hk_ => hk_.1.2)); replace qgm := ak_ (Kd.R_reok rfl hy0 (fun k_ e_ => qgm.out.1 k_ e_)); replace HB := ak_ (hb); (try clear hb hkp hy0)) | (refine gl_ 38 Tryz.func35 #[.slice Ao21 qlX.length co21, .int .i64 1] rfl k28_ ?_; (with_reducible refine (qbL.calls k _ _ qlX 1 qq3 _ ?qaA ?qaB A9.out).mono ?_); (case qaA => exact k39_); (case qaB => exact k62_); rintro e w' ⟨rfl, ⟨nd, rfl⟩⟩; refine ⟨_, rfl, ?_⟩) | (refine gl_ 46 Tryz.func26 #[.string a0] rfl qbK ?_; (refine (qaS.calls k a0 t113 t114 _ A12.out (qbb.below HG.out qan)).mono ?_); rintro e w24 ⟨v115, rfl, ho0, hb⟩; refine ⟨_, rfl, ?_⟩; have qn8 := ak_ (Kd.qax (Kd.qh1 (Kd.qh1 ho0 (Kd.qjI qra)) (Kd.qjI k85_)) (qab qan)); replace qb1 := ak_ (Kd.qfB qra (Kd.qfj ho0) hb); replace qgm := ak_ (Kd.qfB k85_ (Kd.qfj ho0) hb); replace HB := HB.mw hb; (try clear hb ho0); obtain ⟨Ao25, co25, eo25⟩ := Kd.qaI qn8.out; subst eo25) | (refine gl_ 51 Tryz.func33 #[.slice Ao25 t113.length co25, .slice Ao22 qat.length co22] rfl qbK ?_; (with_reducible refine (qcl.calls k _ _ t113 _ _ qat true _ ?qaA ?qaB ?qpk ?qpl A13.out).mono ?_); (case qaA => repeat (first | exact (Kd.qao qn8.out).2.2 | (with_reducible refine Kd.C_alloc ?_ _) | (with_reducible refine Kd.C_drewN ?_ _) | (with_reducible refine Kd.C_drew ?_))); (case qaB => exact (Kd.qao qn8.out).2.1); (case qpk => exact k38_); (case qpl => exact (Kd.qao qb1.out).2.1); rintro e w' ⟨rfl, ⟨nd, rfl⟩⟩; refine ⟨_, rfl, ?_⟩) | (refine gl_ 60 Tryz.func35 #[.slice Ao21 qlX.length co21, .int .i64 1] rfl k28_ ?_; (with_reducible refine (qbL.calls k _ _ qlX 1 qq4 _ ?qaA ?qaB A16.out).mono ?_); (case qaA => exact k39_); (case qaB => exact k62_); rintro e w' ⟨rfl, ⟨nd, rfl⟩⟩; refine ⟨_, rfl, ?_⟩))
 go_ret
 exact ⟨qcf, qan⟩
def qca.Pure : Prop := ∀ (a0 : ByteArray), a0.size ≤ 9223372036854775807 → ∃ k, qca.f k a0 = some true
end
end Go.Proofs.YtjeoabbnalamcaaGreatDoor.P
