/- What functions of the program answer. Proved in this text: its theorems. Conditions: as each theorem states them. -/
import Derived.Test.YtjeoabbnalamcaaGreatDoorCFnExactFailedLinesP
import Derived.Test.YtjeoabbnalamcaaGreatDoorCFnExactFailedLinesF2
import Derived.Test.YtjeoabbnalamcaaGreatDoorCFnExactFailedLinesF0
namespace Go.Proofs.YtjeoabbnalamcaaGreatDoor.P
open Go.RowKit Go.Proofs.YtjeoabbnalamcaaGreatDoorW.qa0 Go.Proofs.YtjeoabbnalamcaaGreatDoorW.PrintLast Go.Proofs.YtjeoabbnalamcaaGreatDoorW.PrintMore
set_option linter.unusedVariables false
set_option linter.unusedSimpArgs false
set_option maxHeartbeats 8000000
set_option maxRecDepth 100000
section
attribute [local go_sem] qg2 qg4 qij qik qgg qgh qg3 qg5
theorem qm9 (g n c : Nat) (hn : 0 < n) (hc : n ≤ c) : ∃ A2 : Addr, (∀ W : World, (Instr.slice 43 (.slice (some ⟨g, 0, none⟩) n c) (some (.int .i64 1)) none none).run Tryz.prog W = .ok (.slice (some A2) (n - 1) (c - 1)) W) ∧ (1 < n → A2 = ⟨g, 1, none⟩) := by
  obtain ⟨i0_, qn0, _, hsz_, _⟩ := info_parts qml; have h := qjM (P := Tryz.prog) 43 9 .i64 Tryz.underlying43 qn0 1 hsz_ (some ⟨g, 0, none⟩) n c 1 (by omega) (by omega); by_cases hc1 : c = 1
  ·exact ⟨⟨g, 0, none⟩, fun W => by rw [h W, if_pos (by omega)]; rfl, fun h_ => by omega⟩
  exact ⟨⟨g, 1, none⟩, fun W => by rw [h W, if_neg (by omega)]; rfl, fun _ => rfl⟩
def qhu (k : Nat) (c : Cmd) (t : List ByteArray) : Option (Option (Cmd × List qac × ByteArray × Int)) := if t.length = c.kind.length then (match c.kind, t with
  | [], _ => some (some (c, [], ⟨#[]⟩, 0))
  | 110 :: _, y :: _ => (qaX.f k y).bind fun n => if n ≥ 0 then some (some (c, [], ⟨#[]⟩, n)) else some none
  | 114 :: _, y :: _ => (qbA.f k y).bind fun q => if q.2 = true then some (some (c, q.1, ⟨#[]⟩, 0)) else some none
  | _, y :: _ => some (some (c, [], y, 0))
  | _, [] => none) else some none
def qgi.f (k : Nat) (s : ByteArray) : Option (Option (Cmd × List qac × ByteArray × Int)) := (qbk.f k s 32).bind fun ws => if ws.length ≤ 1048577 then (match ws with
  | [] => none
  | x :: t => match qht x with
    | none => some none
    | some c => qhu k c t) else none
theorem qhv (k : Nat) (A0 : Option Addr) (c0 : Nat) (rs : List qac) (mo : Int) (s : ByteArray) (r : Option (Cmd × List qac × ByteArray × Int)) (w : World) (h : qgi.f k s = some r) :
    Calls Tryz.prog 62 #[.agg #[.slice A0 rs.length c0, .int .i64 mo], .string s] w fun e w' => ∃ (x : ByteArray) (A1 : Option Addr) (n1 c1 : Nat) (tx : ByteArray) (n : Int) (b : Bool), e = .returned (.tuple #[.string x, .agg #[.slice A0 rs.length c0, .int .i64 mo, .slice A1 n1 c1, .string tx, .int .i64 n], .bool b]) ∧ ((r = none ∧ b = false) ∨ (∃ c lr, r = some (c, lr, tx, n) ∧ b = true ∧ x = c.word ∧ n1 = lr.length ∧ Kd.R qaL 85 w' w.heap.size (fun _ => True) (.slice A1 lr.length c1) lr)) ∧ Below w.heap.size w w' := by
  have hu := Tryz.underlying81; have hu2 := Tryz.underlying28; have HB := br_ w; unfold qgi.f at h; obtain ⟨ws, A1, h⟩ := qay h; by_cases hwm : ws.length ≤ 1048577; rotate_left
  · rw [if_neg hwm] at h
    exact absurd h (by simp)
  rw [if_pos hwm] at h
  cases hw0 : ws with
  | nil => rw [hw0] at h; exact absurd h (by simp)
  | cons x0 t =>
    rw [hw0] at h; dsimp only at h
    have hwr_ : wrap64 ((ws.length : Int) - 1) = (ws.length : Int) - 1 := by unfold wrap64; omega
    have hwi_ : IntKind.i64.wrap ((ws.length : Int) - 1) = (ws.length : Int) - 1 := by rw [qd7]; exact hwr_
    have HWP := ak_ (show 0 < ws.length from by rw [hw0]; simp)
    have hlt0 : (0 : Int) < (ws.length : Int) := by have := HWP.out; omega
    have HX0 := ak_ (show ws[0]? = some x0 from by rw [hw0]; rfl)
    have hwl : ws.length = t.length + 1 := by rw [hw0]; rfl
    have HWL := ak_ (show ws.length - 1 = t.length from by omega); have HXT := ak_ (show ∀ y, t = [y] → ws[1]? = some y from fun y hy => by rw [hw0, hy]; rfl)
    obtain ⟨sh, hsh, hshc⟩ : ∃ sh, qeT.f x0 = some sh ∧ ((qht x0 = none ∧ sh = ⟨#[63]⟩ ∧ r = none) ∨ ∃ c, qht x0 = some c ∧ sh = ⟨c.kind.toArray⟩ ∧ qhu k c t = some r) := by
      unfold qeT.f
      cases hc : qht x0 with
      | none => rw [hc] at h; exact ⟨_, rfl, .inl ⟨rfl, rfl, (Option.some.inj h).symm⟩⟩
      | some c => rw [hc] at h; exact ⟨_, rfl, .inr ⟨c, rfl, rfl, h⟩⟩
    have HSH := ak_ hsh
    have hszk : ∀ c : Cmd, (⟨c.kind.toArray⟩ : ByteArray).size = c.kind.length := fun c => by simp [ByteArray.size]
    clear h hsh hw0 hwm; by_cases hle : sh.size = t.length; rotate_left
    ·have hlb : ((sh.size : Int) != wrap64 ((ws.length : Int) - 1)) = true := by rw [hwr_]; exact bne_iff_ne.2 (by omega)
     have hlb2 : ((sh.size : Int) != (ws.length : Int) - 1) = true := bne_iff_ne.2 (by omega)
     have hlc : ((sh.size : Int) == wrap64 ((ws.length : Int) - 1)) = false := by rw [hwr_]; exact beq_eq_false_iff_ne.2 (by omega)
     have HRN := ak_ (show r = none from by
       rcases hshc with ⟨-, -, h_⟩ | ⟨c, -, e_, h_⟩
       ·exact h_
       unfold qhu at h_; rw [if_neg (fun e2_ => hle (by rw [e_, hszk, e2_]))] at h_
       exact (Option.some.inj h_).symm)
     clear hle hshc hwr_ hwi_ hwl; go_enter Tryz.func62, Tryz.ntmps62
     go_wp2_with (first | ((with_reducible refine qal (N := 2) rfl ?_); (try (refine qbH (by rfl) ?_; dsimp only)); refine qdI ?hg (N := 2) ?hd (cs := #[.slice A0 rs.length c0, .int .i64 mo]) (t := 28) ?hr ?_; (case hd => rfl); (case hg => rfl); (case hr => first | (go_simp; done) | (go_simp; rfl)); intro g2 hg w2 hbox hb; have B2 := ak_ hbox; replace HB := ak_ (qaa (by apply_rules only [HB.out, qai, qaf, qah]) hb); obtain ⟨qpR, qpH⟩ := qcx B2.out; have qpS := qbC B2.out; have qpI := qad B2.out 1; clear hb hbox hg) | ((with_reducible refine qal (N := 5) rfl ?_); (try (refine qbH (by rfl) ?_; dsimp only)); refine qdI ?hg (N := 5) ?hd (cs := #[(.slice none 0 0), (.int .i64 0), (.slice none 0 0), (.string (⟨#[]⟩ : ByteArray)), (.int .i64 0)]) (t := 81) ?hr ?_; (case hd => rfl); (case hg => rfl); (case hr => first | (go_simp; done) | (go_simp; rfl)); intro g5 hg w5 hbox hb; have B5 := ak_ hbox; have G5 := ak_ (show w.heap.size ≤ g5 from by rw [hg]; exact qab (by apply_rules only [HB.out, qai, qaf, qah])); replace B2 := B2.mw hb; replace HB := ak_ (qaa (by apply_rules only [HB.out, qai, qaf, qah]) hb); obtain ⟨haw5_0, faw5_0⟩ := qcx B2.out; have haw5_1 := qbC B2.out; have faw5_1 := qad B2.out 1; clear hb hbox hg) | ((with_reducible refine qal (N := 7) rfl ?_); (try (refine qbH (by rfl) ?_; dsimp only)); refine qdI ?hg (N := 7) ?hd (cs := #[(.slice none 0 0), (.int .i64 0), (.slice none 0 0), (.string (⟨#[]⟩ : ByteArray)), (.int .i64 0)]) (t := 81) ?hr ?_; (case hd => rfl); (case hg => rfl); (case hr => first | (go_simp; done) | (go_simp; rfl)); intro g7 hg w7 hbox hb; have B7 := ak_ hbox; have G7 := ak_ (show w.heap.size ≤ g7 from by rw [hg]; exact qab (by apply_rules only [HB.out, qai, qaf, qah])); have NE := ak_ (show g5 ≠ g7 from by rw [hg]; exact Nat.ne_of_lt (qdU (by apply_rules only [B5.out, qak, qam, qaj]))); replace B5 := B5.mw hb; replace HB := ak_ (qaa (by apply_rules only [HB.out, qai, qaf, qah]) hb); obtain ⟨qpT, qpJ⟩ := qcx B7.out; have qpU := qbC B7.out; have qpK := qad B7.out 1; have qpV := qfl B7.out; have qpL := qad B7.out 2; have qpW := qft B7.out; have qpM := qad B7.out 3; have qpX := qfu B7.out; have qpN := qad B7.out 4; clear hb hbox hg) | ((with_reducible refine qdC (f := 39) rfl ?_); (try (refine qbH (by rfl) ?_; dsimp only)); refine qgK (some 16) rfl rfl Tryz.func39 (by kernel_rfl) rfl #[.string s, .int .u8 32] rfl (by (try simp only [List.map_toArray, List.map_cons, List.map_nil]); first | done | rfl) ?_; (refine (qbk.calls k s 32 ws _ A1.out).mono ?_); rintro e w16 ⟨vw, rfl, how, hb⟩; refine ⟨_, rfl, ?_⟩; have hW := qaa (w := w) (by with_reducible repeat (first | exact HB.out | refine qas ?_ G7.out | apply qai | apply qaf | apply qah)) hb; have HW := ak_ (Kd.qax how (qab (w := w) (by with_reducible repeat (first | exact HB.out | refine qas ?_ G7.out | apply qai | apply qaf | apply qah)))); have B7_ := ak_ (show w16.heap[g7]? = some (.cells #[(.slice A0 rs.length c0), (.int .i64 mo), (.slice none 0 0), (.string (⟨#[]⟩ : ByteArray)), (.int .i64 0)] 81 (0, 0)) from qar (by apply ho_; (with_reducible repeat (first | exact B7.out | refine qak ?_ _ | refine qam ?_ | refine qaj ?_ _ | apply qeB)); rfl) hb); have B5_ := ak_ (show w16.heap[g5]? = some (.cells #[(.slice none 0 0), (.int .i64 0), (.slice none 0 0), (.string (⟨#[]⟩ : ByteArray)), (.int .i64 0)] 81 (0, 0)) from qar (by (with_reducible repeat (first | refine qak ?_ _ | refine qam ?_ | refine qaj ?_ _ | refine qcZ ?_ (by exact NE.out) _)); exact B5.out) hb); clear B7 B5 B2 HB; have B7 := B7_; have B5 := B5_; have HB := ak_ hW; clear B7_ B5_ hW hb how; obtain ⟨gw, cw, ew, -⟩ := Kd.qeZ HW.out HWP.out; subst ew; obtain ⟨A2, hcut_, hA2_⟩ := qm9 gw ws.length cw HWP.out (Kd.qao HW.out).2.1; rw [HWL.out] at hcut_; have HA2 := ak_ hA2_; clear hA2_; obtain ⟨hbw16_0, fbw16_0⟩ := qcx B7.out; have hbw16_1 := qbC B7.out; have fbw16_1 := qad B7.out 1; have hbw16_2 := qfl B7.out; have fbw16_2 := qad B7.out 2; have hbw16_3 := qft B7.out; have fbw16_3 := qad B7.out 3; have hbw16_4 := qfu B7.out; have fbw16_4 := qad B7.out 4; obtain ⟨hzw16_0, fzw16_0⟩ := qcx B5.out; have hzw16_1 := qbC B5.out; have fzw16_1 := qad B5.out 1; have hzw16_2 := qfl B5.out; have fzw16_2 := qad B5.out 2; have hzw16_3 := qft B5.out; have fzw16_3 := qad B5.out 3; have hzw16_4 := qfu B5.out; have fzw16_4 := qad B5.out 4; have hsw16_0 : w16.cell? ⟨gw, 0, none⟩ = some (.string x0) := qcP HW.out 0 x0 HX0.out) | ((with_reducible refine qdC (f := 94) rfl ?_); (try (refine qbH (by rfl) ?_; dsimp only)); refine qgK (some 20) rfl rfl Tryz.func94 (by kernel_rfl) rfl #[.string x0] rfl (by (try simp only [List.map_toArray, List.map_cons, List.map_nil]); first | done | rfl) ?_; (refine (qeT.calls x0 sh _ HSH.out).mono ?_); rintro e w20 ⟨rfl, hb⟩; refine ⟨_, rfl, ?_⟩; replace HW := HW.mw hb; replace B7 := B7.mw hb; replace B5 := B5.mw hb; replace HB := ak_ (qaa (by apply_rules only [HB.out, qai, qaf, qah]) hb); obtain ⟨hbw20_0, fbw20_0⟩ := qcx B7.out; have hbw20_1 := qbC B7.out; have fbw20_1 := qad B7.out 1; have hbw20_2 := qfl B7.out; have fbw20_2 := qad B7.out 2; have hbw20_3 := qft B7.out; have fbw20_3 := qad B7.out 3; have hbw20_4 := qfu B7.out; have fbw20_4 := qad B7.out 4; obtain ⟨hzw20_0, fzw20_0⟩ := qcx B5.out; have hzw20_1 := qbC B5.out; have fzw20_1 := qad B5.out 1; have hzw20_2 := qfl B5.out; have fzw20_2 := qad B5.out 2; have hzw20_3 := qft B5.out; have fzw20_3 := qad B5.out 3; have hzw20_4 := qfu B5.out; have fzw20_4 := qad B5.out 4; have hsw20_0 : w20.cell? ⟨gw, 0, none⟩ = some (.string x0) := qcP HW.out 0 x0 HX0.out; clear hb))
     go_region; all_goals (go_wp2; refine bodyPost_ret (qb4 (rs := [.tmp 4, .cell 5 81, .tmp 6]) rfl (by simp) (.tmp (.cell g5 81 #[(.slice A0 rs.length c0), (.int .i64 mo), (.slice none 0 0), (.string (⟨#[]⟩ : ByteArray)), (.int .i64 0)] (0, 0) _ rfl (by apply ho_; (with_reducible repeat (first | exact B5.out | refine qak ?_ _ | refine qam ?_ | refine qaj ?_ _ | apply qeB)); rfl) Tryz.underlying81 rfl (by kernel_rfl) (.tmp .nil)))) rfl ?_; exact ⟨_, _, _, _, _, _, _, rfl, .inl ⟨HRN.out, rfl⟩, (by with_reducible repeat (first | exact HB.out | refine qas ?_ G5.out | refine qas ?_ G7.out | apply qai | apply qaf | apply qah))⟩)
    have hlb : ((sh.size : Int) != wrap64 ((ws.length : Int) - 1)) = false := by rw [hwr_]; exact bne_eq_false_iff_eq.2 (by omega)
    have hlb2 : ((sh.size : Int) != (ws.length : Int) - 1) = false := bne_eq_false_iff_eq.2 (by omega); have hlc : ((sh.size : Int) == (ws.length : Int) - 1) = true := beq_iff_eq.2 (by omega); have HSC := ak_ hshc; have HLE := ak_ hle; clear hle hshc hwl hwr_ hwi_; go_enter Tryz.func62, Tryz.ntmps62
    go_wp2_with (first | ((with_reducible refine qal (N := 2) rfl ?_); (try (refine qbH (by rfl) ?_; dsimp only)); refine qdI ?hg (N := 2) ?hd (cs := #[.slice A0 rs.length c0, .int .i64 mo]) (t := 28) ?hr ?_; (case hd => rfl); (case hg => rfl); (case hr => first | (go_simp; done) | (go_simp; rfl)); intro g2 hg w2 hbox hb; have B2 := ak_ hbox; replace HB := ak_ (qaa (by apply_rules only [HB.out, qai, qaf, qah]) hb); obtain ⟨qpR, qpH⟩ := qcx B2.out; have qpS := qbC B2.out; have qpI := qad B2.out 1; clear hb hbox hg) | ((with_reducible refine qal (N := 5) rfl ?_); (try (refine qbH (by rfl) ?_; dsimp only)); refine qdI ?hg (N := 5) ?hd (cs := #[(.slice none 0 0), (.int .i64 0), (.slice none 0 0), (.string (⟨#[]⟩ : ByteArray)), (.int .i64 0)]) (t := 81) ?hr ?_; (case hd => rfl); (case hg => rfl); (case hr => first | (go_simp; done) | (go_simp; rfl)); intro g5 hg w5 hbox hb; have B5 := ak_ hbox; have G5 := ak_ (show w.heap.size ≤ g5 from by rw [hg]; exact qab (by apply_rules only [HB.out, qai, qaf, qah])); replace B2 := B2.mw hb; replace HB := ak_ (qaa (by apply_rules only [HB.out, qai, qaf, qah]) hb); obtain ⟨haw5_0, faw5_0⟩ := qcx B2.out; have haw5_1 := qbC B2.out; have faw5_1 := qad B2.out 1; clear hb hbox hg) | ((with_reducible refine qal (N := 7) rfl ?_); (try (refine qbH (by rfl) ?_; dsimp only)); refine qdI ?hg (N := 7) ?hd (cs := #[(.slice none 0 0), (.int .i64 0), (.slice none 0 0), (.string (⟨#[]⟩ : ByteArray)), (.int .i64 0)]) (t := 81) ?hr ?_; (case hd => rfl); (case hg => rfl); (case hr => first | (go_simp; done) | (go_simp; rfl)); intro g7 hg w7 hbox hb; have B7 := ak_ hbox; have G7 := ak_ (show w.heap.size ≤ g7 from by rw [hg]; exact qab (by apply_rules only [HB.out, qai, qaf, qah])); have NE := ak_ (show g5 ≠ g7 from by rw [hg]; exact Nat.ne_of_lt (qdU (by apply_rules only [B5.out, qak, qam, qaj]))); replace B5 := B5.mw hb; replace HB := ak_ (qaa (by apply_rules only [HB.out, qai, qaf, qah]) hb); obtain ⟨qpT, qpJ⟩ := qcx B7.out; have qpU := qbC B7.out; have qpK := qad B7.out 1; have qpV := qfl B7.out; have qpL := qad B7.out 2; have qpW := qft B7.out; have qpM := qad B7.out 3; have qpX := qfu B7.out; have qpN := qad B7.out 4; clear hb hbox hg) | ((with_reducible refine qdC (f := 39) rfl ?_); (try (refine qbH (by rfl) ?_; dsimp only)); refine qgK (some 16) rfl rfl Tryz.func39 (by kernel_rfl) rfl #[.string s, .int .u8 32] rfl (by (try simp only [List.map_toArray, List.map_cons, List.map_nil]); first | done | rfl) ?_; (refine (qbk.calls k s 32 ws _ A1.out).mono ?_); rintro e w16 ⟨vw, rfl, how, hb⟩; refine ⟨_, rfl, ?_⟩; have hW := qaa (w := w) (by with_reducible repeat (first | exact HB.out | refine qas ?_ G7.out | apply qai | apply qaf | apply qah)) hb; have HW := ak_ (Kd.qax how (qab (w := w) (by with_reducible repeat (first | exact HB.out | refine qas ?_ G7.out | apply qai | apply qaf | apply qah)))); have B7_ := ak_ (show w16.heap[g7]? = some (.cells #[(.slice A0 rs.length c0), (.int .i64 mo), (.slice none 0 0), (.string (⟨#[]⟩ : ByteArray)), (.int .i64 0)] 81 (0, 0)) from qar (by apply ho_; (with_reducible repeat (first | exact B7.out | refine qak ?_ _ | refine qam ?_ | refine qaj ?_ _ | apply qeB)); rfl) hb); have B5_ := ak_ (show w16.heap[g5]? = some (.cells #[(.slice none 0 0), (.int .i64 0), (.slice none 0 0), (.string (⟨#[]⟩ : ByteArray)), (.int .i64 0)] 81 (0, 0)) from qar (by (with_reducible repeat (first | refine qak ?_ _ | refine qam ?_ | refine qaj ?_ _ | refine qcZ ?_ (by exact NE.out) _)); exact B5.out) hb); clear B7 B5 B2 HB; have B7 := B7_; have B5 := B5_; have HB := ak_ hW; clear B7_ B5_ hW hb how; obtain ⟨gw, cw, ew, -⟩ := Kd.qeZ HW.out HWP.out; subst ew; obtain ⟨A2, hcut_, hA2_⟩ := qm9 gw ws.length cw HWP.out (Kd.qao HW.out).2.1; rw [HWL.out] at hcut_; have HA2 := ak_ hA2_; clear hA2_; obtain ⟨hbw16_0, fbw16_0⟩ := qcx B7.out; have hbw16_1 := qbC B7.out; have fbw16_1 := qad B7.out 1; have hbw16_2 := qfl B7.out; have fbw16_2 := qad B7.out 2; have hbw16_3 := qft B7.out; have fbw16_3 := qad B7.out 3; have hbw16_4 := qfu B7.out; have fbw16_4 := qad B7.out 4; obtain ⟨hzw16_0, fzw16_0⟩ := qcx B5.out; have hzw16_1 := qbC B5.out; have fzw16_1 := qad B5.out 1; have hzw16_2 := qfl B5.out; have fzw16_2 := qad B5.out 2; have hzw16_3 := qft B5.out; have fzw16_3 := qad B5.out 3; have hzw16_4 := qfu B5.out; have fzw16_4 := qad B5.out 4; have hsw16_0 : w16.cell? ⟨gw, 0, none⟩ = some (.string x0) := qcP HW.out 0 x0 HX0.out) | ((with_reducible refine qdC (f := 94) rfl ?_); (try (refine qbH (by rfl) ?_; dsimp only)); refine qgK (some 20) rfl rfl Tryz.func94 (by kernel_rfl) rfl #[.string x0] rfl (by (try simp only [List.map_toArray, List.map_cons, List.map_nil]); first | done | rfl) ?_; (refine (qeT.calls x0 sh _ HSH.out).mono ?_); rintro e w20 ⟨rfl, hb⟩; refine ⟨_, rfl, ?_⟩; replace HW := HW.mw hb; replace B7 := B7.mw hb; replace B5 := B5.mw hb; replace HB := ak_ (qaa (by apply_rules only [HB.out, qai, qaf, qah]) hb); obtain ⟨hbw20_0, fbw20_0⟩ := qcx B7.out; have hbw20_1 := qbC B7.out; have fbw20_1 := qad B7.out 1; have hbw20_2 := qfl B7.out; have fbw20_2 := qad B7.out 2; have hbw20_3 := qft B7.out; have fbw20_3 := qad B7.out 3; have hbw20_4 := qfu B7.out; have fbw20_4 := qad B7.out 4; obtain ⟨hzw20_0, fzw20_0⟩ := qcx B5.out; have hzw20_1 := qbC B5.out; have fzw20_1 := qad B5.out 1; have hzw20_2 := qfl B5.out; have fzw20_2 := qad B5.out 2; have hzw20_3 := qft B5.out; have fzw20_3 := qad B5.out 3; have hzw20_4 := qfu B5.out; have fzw20_4 := qad B5.out 4; have hsw20_0 : w20.cell? ⟨gw, 0, none⟩ = some (.string x0) := qcP HW.out 0 x0 HX0.out; clear hb))
    go_loopg [31] 2 (fun kq v31 w' => ∃ (i : Int) (A1_ : Option Addr) (c1 : Nat) (lr : List qac) (tx : ByteArray) (n : Int), v31 = .int .i64 i ∧ qag ((i = 0 ∧ lr = [] ∧ tx = ⟨#[]⟩ ∧ n = 0) ∨ (i = 1 ∧ t.length = 1 ∧ ∃ c, qht x0 = some c ∧ r = some (c, lr, tx, n))) ∧ qag (2 - i.toNat ≤ kq) ∧ qag (Kd.R qaL 85 w' w.heap.size (fun _ => True) (.slice A1_ lr.length c1) lr) ∧ qag (Kd.R Kd.string 9 w' w.heap.size (fun _ => True) (.slice (some ⟨gw, 0, none⟩) ws.length cw) ws) ∧ qag (w'.heap[g7]? = some (.cells #[(.slice A0 rs.length c0), (.int .i64 mo), (.slice A1_ lr.length c1), (.string tx), (.int .i64 n)] 81 (0, 0))) ∧ qag (w'.heap[g5]? = some (.cells #[(.slice none 0 0), (.int .i64 0), (.slice none 0 0), (.string (⟨#[]⟩ : ByteArray)), (.int .i64 0)] 81 (0, 0))) ∧ qag (Below w.heap.size w w'))
    case atStart => exact ⟨0, none, 0, [], ⟨#[]⟩, 0, rfl, ⟨.inl ⟨rfl, rfl, rfl, rfl⟩⟩, ⟨by decide⟩, ⟨Kd.qfP _ _ _ _ _⟩, HW, B7, B5, HB⟩
    case round =>
      clear HW B7 B5 HB; obtain ⟨i, A1_, c1, lr, tx, n, rfl, HI, HK1, HL, HW, B7, B5, HB⟩ := hrel; obtain ⟨hbwr_0, fbwr_0⟩ := qcx B7.out; have hbwr_1 := qbC B7.out; have fbwr_1 := qad B7.out 1; have hbwr_2 := qfl B7.out; have fbwr_2 := qad B7.out 2; have hbwr_3 := qft B7.out; have fbwr_3 := qad B7.out 3; have hbwr_4 := qfu B7.out; have fbwr_4 := qad B7.out 4; obtain ⟨hzwr_0, fzwr_0⟩ := qcx B5.out; have hzwr_1 := qbC B5.out; have fzwr_1 := qad B5.out 1; have hzwr_2 := qfl B5.out; have fzwr_2 := qad B5.out 2; have hzwr_3 := qft B5.out; have fzwr_3 := qad B5.out 3; have hzwr_4 := qfu B5.out; have fzwr_4 := qad B5.out 4; have hswr_0 : wr.cell? ⟨gw, 0, none⟩ = some (.string x0) := qcP HW.out 0 x0 HX0.out; by_cases hit : i < (t.length : Int); rotate_left
      ·have hlt := decide_eq_false hit
       obtain ⟨c, HCM, HRV⟩ : ∃ c, qag (qht x0 = some c) ∧ qag (r = some (c, lr, tx, n)) := by
         rcases HI.out with ⟨rfl, hlr, htx, hn⟩ | ⟨rfl, ht1, c, hcm, hr⟩
         ·have ht : t.length = 0 := by omega
          rcases HSC.out with ⟨-, e_, -⟩ | ⟨c, h1_, e_, h2_⟩
          ·have h3_ := HLE.out; rw [e_, ht] at h3_; exact absurd h3_ (by decide)
          have h3_ := HLE.out; rw [e_, hszk, ht] at h3_; refine ⟨c, ⟨h1_⟩, ⟨?_⟩⟩; unfold qhu at h2_; rw [if_pos (by rw [ht, h3_]), List.length_eq_zero_iff.1 h3_] at h2_; rw [hlr, htx, hn]; exact (Option.some.inj h2_).symm
         exact ⟨c, ⟨hcm⟩, ⟨hr⟩⟩
       clear hit; have HRT_ := ak_ (Kd.qcw HL.out B5.out (by decide)); clear fbwr_0 fbwr_1 fbwr_2 fbwr_3 fbwr_4 HI HSC HLE HA2 HXT HX0 HWL; go_wp2; clear hcut_
       go_region
       all_goals (go_wp2; refine bodyPost_ret (qb4 (rs := [.tmp 4, .cell 5 81, .tmp 6]) rfl (by simp) (.tmp (.cell g5 81 #[(.slice A0 rs.length c0), (.int .i64 mo), (.slice A1_ lr.length c1), (.string tx), (.int .i64 n)] (0, 0) _ rfl (by apply ho_; (with_reducible repeat (first | exact B5.out | refine qak ?_ _ | refine qam ?_ | refine qaj ?_ _ | apply qeB)); rfl) Tryz.underlying81 rfl (by kernel_rfl) (.tmp .nil)))) rfl ?_; exact ⟨_, _, _, _, _, _, _, rfl, .inr ⟨c, lr, HRV.out, rfl, qhM HCM.out, rfl, (Kd.qa9 (ok := fun k_ => True ∧ k_ ≠ g5) (by with_reducible repeat (first | exact HRT_.out | apply Kd.qap | apply Kd.qaq | apply Kd.qaw | refine Kd.qcV ?_ (fun _ hk => hk.2) _)) (fun _ _ => trivial))⟩, (by with_reducible repeat (first | exact HB.out | refine qas ?_ G5.out | refine qas ?_ G7.out | apply qai | apply qaf | apply qah))⟩)
      obtain ⟨rfl, hlr, htx, hn⟩ : i = 0 ∧ lr = [] ∧ tx = ⟨#[]⟩ ∧ n = 0 := by
        rcases HI.out with h_ | ⟨rfl, ht1, -⟩
        ·exact h_
        omega
      have ht : ¬ t.length = 0 := by omega
      clear hit; have hne57 := NE.out
      have hne75 : ¬ g7 = g5 := fun e_ => NE.out e_.symm
      have hs1_ : sh.size = 1 ∨ sh.size = 0 := by
        rcases HSC.out with ⟨-, e_, -⟩ | ⟨c, h1_, e_, h2_⟩
        ·exact .inl (by rw [e_]; rfl)
        rcases Cmd.kinds c with h_ | h_ | h_ | h_ <;> rw [e_, hszk, h_] <;> simp
      have ht1 : t.length = 1 := by have := HLE.out; omega
      obtain ⟨y, hy⟩ := List.length_eq_one_iff.1 ht1; have HX1 := ak_ (HXT.out y hy); obtain rfl := HA2.out (by have := HWL.out; omega); have hlt : decide ((0 : Int) < (t.length : Int)) = true := decide_eq_true (by omega); have hlu : decide (0 < t.length) = true := decide_eq_true (by omega)
      have hlv : (0 : Int) < (t.length : Int) := by omega
      have hswr_1 : wr.cell? ⟨gw, 1, none⟩ = some (.string y) := qcP HW.out 1 y HX1.out; have HT1 := ak_ ht1
      rcases HSC.out with ⟨-, rfl, hr⟩ | ⟨c, hcm, e_, h2_⟩
      ·have HRN := ak_ hr; clear hs1_ ht hlr htx hn HSC HLE HI hr hy ht1; go_wp2
       go_region; all_goals (go_wp2; refine bodyPost_ret (qb4 (rs := [.tmp 4, .cell 5 81, .tmp 6]) rfl (by simp) (.tmp (.cell g5 81 #[(.slice A0 rs.length c0), (.int .i64 mo), (.slice A1_ lr.length c1), (.string tx), (.int .i64 n)] (0, 0) _ rfl (by apply ho_; (with_reducible repeat (first | exact B5.out | refine qak ?_ _ | refine qam ?_ | refine qaj ?_ _ | apply qeB | apply qcZ (hp := NE.out))); rfl) Tryz.underlying81 rfl (by kernel_rfl) (.tmp .nil)))) rfl ?_; exact ⟨_, _, _, _, _, _, _, rfl, .inl ⟨HRN.out, rfl⟩, (by with_reducible repeat (first | exact HB.out | refine qas ?_ G5.out | refine qas ?_ G7.out | apply qai | apply qaf | apply qah))⟩)
      have HCM := ak_ hcm; have hkl := HLE.out; rw [e_, hszk, ht1] at hkl; unfold qhu at h2_; rw [if_pos (by rw [ht1, hkl]), hy] at h2_
      rcases Cmd.kinds c with hk | hk | hk | hk
      ·rw [hk] at hkl; exact absurd hkl (by decide)
      ·rw [hk] at h2_ e_; obtain rfl : sh = ⟨#[110]⟩ := e_; replace h2_ : ((qaX.f k y).bind fun n => if n ≥ 0 then some (some (c, [], ⟨#[]⟩, n)) else some none) = some r := h2_; obtain ⟨m, AR, h3_⟩ := qay h2_; by_cases hm : m ≥ 0
       ·rw [if_pos hm] at h3_; have HRV := ak_ (show r = some (c, lr, tx, m) from by rw [hlr, htx]; exact (Option.some.inj h3_).symm); have hmb : decide (0 ≤ m) = true := decide_eq_true hm; clear hs1_ ht hlr htx hn HSC HLE HI hy ht1 hcm h2_ h3_ hk hkl hm
        go_wp2_with (first | ((with_reducible refine qdC (f := 95) rfl ?_); (try (refine qbH (by rfl) ?_; dsimp only)); refine qgK (some 42) rfl rfl Tryz.func95 (by kernel_rfl) rfl #[.string y] rfl (by (try simp only [List.map_toArray, List.map_cons, List.map_nil]); first | done | rfl) ?_; (refine ((qaX.calls k y m _ AR.out)).mono ?_); rintro e w42 ⟨rfl, hd_⟩; refine ⟨_, rfl, ?_⟩; have hb := hd_.below; clear hd_; replace HL := HL.mw hb; replace HW := HW.mw hb; replace B7 := B7.mw hb; replace B5 := B5.mw hb; replace HB := ak_ (qaa (by apply_rules only [HB.out, qai, qaf, qah]) hb); obtain ⟨hbw42_0, fbw42_0⟩ := qcx B7.out; have hbw42_1 := qbC B7.out; have fbw42_1 := qad B7.out 1; have hbw42_2 := qfl B7.out; have fbw42_2 := qad B7.out 2; have hbw42_3 := qft B7.out; have fbw42_3 := qad B7.out 3; have hbw42_4 := qfu B7.out; have fbw42_4 := qad B7.out 4; obtain ⟨hzw42_0, fzw42_0⟩ := qcx B5.out; have hzw42_1 := qbC B5.out; have fzw42_1 := qad B5.out 1; have hzw42_2 := qfl B5.out; have fzw42_2 := qad B5.out 2; have hzw42_3 := qft B5.out; have fzw42_3 := qad B5.out 3; have hzw42_4 := qfu B5.out; have fzw42_4 := qad B5.out 4; have hsw42_0 : w42.cell? ⟨gw, 0, none⟩ = some (.string x0) := qcP HW.out 0 x0 HX0.out; have hsw42_1 : w42.cell? ⟨gw, 1, none⟩ = some (.string y) := qcP HW.out 1 y HX1.out; clear hb))
        go_roundg 1
        case measure => have := HK1.out; omega
        case rel => exact ⟨1, A1_, c1, lr, tx, m, rfl, ⟨.inr ⟨rfl, HT1.out, c, HCM.out, HRV.out⟩⟩, ⟨by decide⟩, ⟨(by (with_reducible repeat (first | apply Kd.qap | apply Kd.qaq | apply Kd.qaw)); exact Kd.qgQ (by apply_rules only [HL.out, Kd.qap, Kd.qaq, Kd.qaw]) (by apply_rules only [B7.out, qak, qam, qaj]) (by decide) 4 _)⟩, ⟨(by (with_reducible repeat (first | apply Kd.qap | apply Kd.qaq | apply Kd.qaw)); exact Kd.qgQ (by apply_rules only [HW.out, Kd.qap, Kd.qaq, Kd.qaw]) (by apply_rules only [B7.out, qak, qam, qaj]) (by decide) 4 _)⟩, ⟨(by (with_reducible repeat (first | refine qak ?_ _ | refine qam ?_ | refine qaj ?_ _)); refine qbl (cs := #[(.slice A0 rs.length c0), (.int .i64 mo), (.slice A1_ lr.length c1), (.string tx), (.int .i64 n)]) (cs' := #[(.slice A0 rs.length c0), (.int .i64 mo), (.slice A1_ lr.length c1), (.string tx), (.int .i64 m)]) ?_ 4 _ rfl; (with_reducible repeat (first | refine qak ?_ _ | refine qam ?_ | refine qaj ?_ _)); exact B7.out)⟩, ⟨(by (with_reducible repeat (first | refine qak ?_ _ | refine qam ?_ | refine qaj ?_ _ | refine qcZ ?_ (by exact NE.out) _)); exact B5.out)⟩, ⟨(by with_reducible repeat (first | exact HB.out | refine qas ?_ G7.out | apply qai | apply qaf | apply qah))⟩⟩
       rw [if_neg hm] at h3_; have HRN := ak_ (show r = none from (Option.some.inj h3_).symm); have hmb : decide (0 ≤ m) = false := decide_eq_false hm; clear hs1_ ht hlr htx hn HSC HLE HI hy ht1 hcm h2_ h3_ hk hkl hm
       go_wp2_with (first | ((with_reducible refine qdC (f := 95) rfl ?_); (try (refine qbH (by rfl) ?_; dsimp only)); refine qgK (some 42) rfl rfl Tryz.func95 (by kernel_rfl) rfl #[.string y] rfl (by (try simp only [List.map_toArray, List.map_cons, List.map_nil]); first | done | rfl) ?_; (refine ((qaX.calls k y m _ AR.out)).mono ?_); rintro e w42 ⟨rfl, hd_⟩; refine ⟨_, rfl, ?_⟩; have hb := hd_.below; clear hd_; replace HL := HL.mw hb; replace HW := HW.mw hb; replace B7 := B7.mw hb; replace B5 := B5.mw hb; replace HB := ak_ (qaa (by apply_rules only [HB.out, qai, qaf, qah]) hb); obtain ⟨hbw42_0, fbw42_0⟩ := qcx B7.out; have hbw42_1 := qbC B7.out; have fbw42_1 := qad B7.out 1; have hbw42_2 := qfl B7.out; have fbw42_2 := qad B7.out 2; have hbw42_3 := qft B7.out; have fbw42_3 := qad B7.out 3; have hbw42_4 := qfu B7.out; have fbw42_4 := qad B7.out 4; obtain ⟨hzw42_0, fzw42_0⟩ := qcx B5.out; have hzw42_1 := qbC B5.out; have fzw42_1 := qad B5.out 1; have hzw42_2 := qfl B5.out; have fzw42_2 := qad B5.out 2; have hzw42_3 := qft B5.out; have fzw42_3 := qad B5.out 3; have hzw42_4 := qfu B5.out; have fzw42_4 := qad B5.out 4; have hsw42_0 : w42.cell? ⟨gw, 0, none⟩ = some (.string x0) := qcP HW.out 0 x0 HX0.out; have hsw42_1 : w42.cell? ⟨gw, 1, none⟩ = some (.string y) := qcP HW.out 1 y HX1.out; clear hb))
       go_region; all_goals (go_wp2; refine bodyPost_ret (qb4 (rs := [.tmp 4, .cell 5 81, .tmp 6]) rfl (by simp) (.tmp (.cell g5 81 #[(.slice A0 rs.length c0), (.int .i64 mo), (.slice A1_ lr.length c1), (.string tx), (.int .i64 m)] (0, 0) _ rfl (by apply ho_; (with_reducible repeat (first | exact B5.out | refine qak ?_ _ | refine qam ?_ | refine qaj ?_ _ | apply qeB | apply qcZ (hp := NE.out))); rfl) Tryz.underlying81 rfl (by kernel_rfl) (.tmp .nil)))) rfl ?_; exact ⟨_, _, _, _, _, _, _, rfl, .inl ⟨HRN.out, rfl⟩, (by with_reducible repeat (first | exact HB.out | refine qas ?_ G5.out | refine qas ?_ G7.out | apply qai | apply qaf | apply qah))⟩)
      ·rw [hk] at h2_ e_; obtain rfl : sh = ⟨#[114]⟩ := e_; replace h2_ : ((qbA.f k y).bind fun q => if q.2 = true then some (some (c, q.1, ⟨#[]⟩, 0)) else some none) = some r := h2_; obtain ⟨⟨lq, okq⟩, AR, h3_⟩ := qay h2_; dsimp only at h3_
       cases okq with
       | true =>
         rw [if_pos rfl] at h3_; have HRV := ak_ (show r = some (c, lq, tx, n) from by rw [htx, hn]; exact (Option.some.inj h3_).symm); clear hs1_ ht hlr htx hn HSC HLE HI hy ht1 hcm h2_ h3_ hk hkl
         go_wp2_with (first | ((with_reducible refine qdC (f := 96) rfl ?_); (try (refine qbH (by rfl) ?_; dsimp only)); refine qgK (some 51) rfl rfl Tryz.func96 (by kernel_rfl) rfl #[.string y] rfl (by (try simp only [List.map_toArray, List.map_cons, List.map_nil]); first | done | rfl) ?_; (refine (qbA.calls k y lq true _ AR.out).mono ?_); rintro e w51 ⟨vq, rfl, hoq, hb⟩; refine ⟨_, rfl, ?_⟩; have HQ := ak_ (Kd.qax hoq (qab (by apply_rules only [HB.out, qai, qaf, qah]))); obtain ⟨Aq, cq, eq_⟩ := Kd.qaI HQ.out; subst eq_; clear hoq; replace HL := HL.mw hb; replace HW := HW.mw hb; replace B7 := B7.mw hb; replace B5 := B5.mw hb; replace HB := ak_ (qaa (by apply_rules only [HB.out, qai, qaf, qah]) hb); obtain ⟨hbw51_0, fbw51_0⟩ := qcx B7.out; have hbw51_1 := qbC B7.out; have fbw51_1 := qad B7.out 1; have hbw51_2 := qfl B7.out; have fbw51_2 := qad B7.out 2; have hbw51_3 := qft B7.out; have fbw51_3 := qad B7.out 3; have hbw51_4 := qfu B7.out; have fbw51_4 := qad B7.out 4; obtain ⟨hzw51_0, fzw51_0⟩ := qcx B5.out; have hzw51_1 := qbC B5.out; have fzw51_1 := qad B5.out 1; have hzw51_2 := qfl B5.out; have fzw51_2 := qad B5.out 2; have hzw51_3 := qft B5.out; have fzw51_3 := qad B5.out 3; have hzw51_4 := qfu B5.out; have fzw51_4 := qad B5.out 4; have hsw51_0 : w51.cell? ⟨gw, 0, none⟩ = some (.string x0) := qcP HW.out 0 x0 HX0.out; have hsw51_1 : w51.cell? ⟨gw, 1, none⟩ = some (.string y) := qcP HW.out 1 y HX1.out; clear hb))
         go_roundg 1
         case measure => have := HK1.out; omega
         case rel => exact ⟨1, Aq, cq, lq, tx, n, rfl, ⟨.inr ⟨rfl, HT1.out, c, HCM.out, HRV.out⟩⟩, ⟨by decide⟩, ⟨(by (with_reducible repeat (first | apply Kd.qap | apply Kd.qaq | apply Kd.qaw)); exact Kd.qgQ (by apply_rules only [HQ.out, Kd.qap, Kd.qaq, Kd.qaw]) (by apply_rules only [B7.out, qak, qam, qaj]) (by decide) 2 _)⟩, ⟨(by (with_reducible repeat (first | apply Kd.qap | apply Kd.qaq | apply Kd.qaw)); exact Kd.qgQ (by apply_rules only [HW.out, Kd.qap, Kd.qaq, Kd.qaw]) (by apply_rules only [B7.out, qak, qam, qaj]) (by decide) 2 _)⟩, ⟨(by (with_reducible repeat (first | refine qak ?_ _ | refine qam ?_ | refine qaj ?_ _)); refine qbl (cs := #[(.slice A0 rs.length c0), (.int .i64 mo), (.slice A1_ lr.length c1), (.string tx), (.int .i64 n)]) (cs' := #[(.slice A0 rs.length c0), (.int .i64 mo), (.slice Aq lq.length cq), (.string tx), (.int .i64 n)]) ?_ 2 _ rfl; (with_reducible repeat (first | refine qak ?_ _ | refine qam ?_ | refine qaj ?_ _)); exact B7.out)⟩, ⟨(by (with_reducible repeat (first | refine qak ?_ _ | refine qam ?_ | refine qaj ?_ _ | refine qcZ ?_ (by exact NE.out) _)); exact B5.out)⟩, ⟨(by with_reducible repeat (first | exact HB.out | refine qas ?_ G7.out | apply qai | apply qaf | apply qah))⟩⟩
       | false =>
         rw [if_neg (by decide)] at h3_; have HRN := ak_ (show r = none from (Option.some.inj h3_).symm); clear hs1_ ht hlr htx hn HSC HLE HI hy ht1 hcm h2_ h3_ hk hkl
         go_wp2_with (first | ((with_reducible refine qdC (f := 96) rfl ?_); (try (refine qbH (by rfl) ?_; dsimp only)); refine qgK (some 51) rfl rfl Tryz.func96 (by kernel_rfl) rfl #[.string y] rfl (by (try simp only [List.map_toArray, List.map_cons, List.map_nil]); first | done | rfl) ?_; (refine (qbA.calls k y lq false _ AR.out).mono ?_); rintro e w51 ⟨vq, rfl, hoq, hb⟩; refine ⟨_, rfl, ?_⟩; have HQ := ak_ (Kd.qax hoq (qab (by apply_rules only [HB.out, qai, qaf, qah]))); obtain ⟨Aq, cq, eq_⟩ := Kd.qaI HQ.out; subst eq_; clear hoq; replace HL := HL.mw hb; replace HW := HW.mw hb; replace B7 := B7.mw hb; replace B5 := B5.mw hb; replace HB := ak_ (qaa (by apply_rules only [HB.out, qai, qaf, qah]) hb); obtain ⟨hbw51_0, fbw51_0⟩ := qcx B7.out; have hbw51_1 := qbC B7.out; have fbw51_1 := qad B7.out 1; have hbw51_2 := qfl B7.out; have fbw51_2 := qad B7.out 2; have hbw51_3 := qft B7.out; have fbw51_3 := qad B7.out 3; have hbw51_4 := qfu B7.out; have fbw51_4 := qad B7.out 4; obtain ⟨hzw51_0, fzw51_0⟩ := qcx B5.out; have hzw51_1 := qbC B5.out; have fzw51_1 := qad B5.out 1; have hzw51_2 := qfl B5.out; have fzw51_2 := qad B5.out 2; have hzw51_3 := qft B5.out; have fzw51_3 := qad B5.out 3; have hzw51_4 := qfu B5.out; have fzw51_4 := qad B5.out 4; have hsw51_0 : w51.cell? ⟨gw, 0, none⟩ = some (.string x0) := qcP HW.out 0 x0 HX0.out; have hsw51_1 : w51.cell? ⟨gw, 1, none⟩ = some (.string y) := qcP HW.out 1 y HX1.out; clear hb))
         go_region; all_goals (go_wp2; refine bodyPost_ret (qb4 (rs := [.tmp 4, .cell 5 81, .tmp 6]) rfl (by simp) (.tmp (.cell g5 81 #[(.slice A0 rs.length c0), (.int .i64 mo), (.slice Aq lq.length cq), (.string tx), (.int .i64 n)] (0, 0) _ rfl (by apply ho_; (with_reducible repeat (first | exact B5.out | refine qak ?_ _ | refine qam ?_ | refine qaj ?_ _ | apply qeB | apply qcZ (hp := NE.out))); rfl) Tryz.underlying81 rfl (by kernel_rfl) (.tmp .nil)))) rfl ?_; exact ⟨_, _, _, _, _, _, _, rfl, .inl ⟨HRN.out, rfl⟩, (by with_reducible repeat (first | exact HB.out | refine qas ?_ G5.out | refine qas ?_ G7.out | apply qai | apply qaf | apply qah))⟩)
      rw [hk] at h2_ e_; obtain rfl : sh = ⟨#[115]⟩ := e_; have HRV := ak_ (show r = some (c, lr, y, n) from by rw [hlr, hn]; exact (Option.some.inj h2_).symm); clear hs1_ ht hlr htx hn HSC HLE HI hy ht1 hcm h2_ hk hkl; go_wp2
      go_roundg 1
      case measure => have := HK1.out; omega
      case rel => exact ⟨1, A1_, c1, lr, y, n, rfl, ⟨.inr ⟨rfl, HT1.out, c, HCM.out, HRV.out⟩⟩, ⟨by decide⟩, ⟨(by (with_reducible repeat (first | apply Kd.qap | apply Kd.qaq | apply Kd.qaw)); exact Kd.qgQ (by apply_rules only [HL.out, Kd.qap, Kd.qaq, Kd.qaw]) (by apply_rules only [B7.out, qak, qam, qaj]) (by decide) 3 _)⟩, ⟨(by (with_reducible repeat (first | apply Kd.qap | apply Kd.qaq | apply Kd.qaw)); exact Kd.qgQ (by apply_rules only [HW.out, Kd.qap, Kd.qaq, Kd.qaw]) (by apply_rules only [B7.out, qak, qam, qaj]) (by decide) 3 _)⟩, ⟨(by (with_reducible repeat (first | refine qak ?_ _ | refine qam ?_ | refine qaj ?_ _)); refine qbl (cs := #[(.slice A0 rs.length c0), (.int .i64 mo), (.slice A1_ lr.length c1), (.string tx), (.int .i64 n)]) (cs' := #[(.slice A0 rs.length c0), (.int .i64 mo), (.slice A1_ lr.length c1), (.string y), (.int .i64 n)]) ?_ 3 _ rfl; (with_reducible repeat (first | refine qak ?_ _ | refine qam ?_ | refine qaj ?_ _)); exact B7.out)⟩, ⟨(by (with_reducible repeat (first | refine qak ?_ _ | refine qam ?_ | refine qaj ?_ _ | refine qcZ ?_ (by exact NE.out) _)); exact B5.out)⟩, ⟨(by with_reducible repeat (first | exact HB.out | refine qas ?_ G7.out | apply qai | apply qaf | apply qah))⟩⟩
def qes.f (a0 : Int) : Option (Bool) := (qbi.f a0 (-600) 600).bind fun qat => (some qat)
theorem qes.calls (a0 : Int) (r : Bool) (w : World) (h : qes.f a0 = some r) :
  Calls Tryz.prog 153 #[.int .i64 a0] w fun e w' => e = .returned (.bool r) ∧ qcN w w' := by
 have H : ((qbi.f a0 (-600) 600).bind fun qat => (some qat)) = some r := h; clear h; obtain ⟨qat, A2, H⟩ := qay H; (try dsimp only at H); obtain rfl := sj_ H; go_enter Tryz.func153, Tryz.ntmps153
 go_wp2_with (first | (refine gl_ 4 Tryz.func93 #[.int .i64 a0, .int .i64 (-600), .int .i64 600] rfl qbK ?_; (with_reducible refine (qbi.calls a0 (-600) 600 qat _ A2.out).mono ?_); rintro e w' ⟨rfl, ⟨nd, rfl⟩⟩; refine ⟨_, rfl, ?_⟩))
 go_ret
 exact ⟨qav, qcO⟩
def qcy.f (a0 : Int) (a1 : Int) : Option (Int) := if a1 = 0 then (none) else (some (Int.tmod (wrap64 ((Int.tmod a0 a1) + a1)) a1))
theorem qcy.calls (a0 : Int) (a1 : Int) (r : Int) (w : World) (h : qcy.f a0 a1 = some r) :
  Calls Tryz.prog 154 #[.int .i64 a0, .int .i64 a1] w fun e w' => e = .returned (.int .i64 r) ∧ qcN w w' := by
 have H : (if a1 = 0 then (none) else (some (Int.tmod (wrap64 ((Int.tmod a0 a1) + a1)) a1))) = some r := h; clear h; by_cases c3 : a1 = 0
 ·rw [if_pos c3] at H; exact absurd H (by simp)
 rw [if_neg c3] at H; have qfk : (a1 == 0) = false := beq_eq_false_iff_ne.mpr c3; have qmb : (a1 != 0) = true := bne_iff_ne.mpr c3; obtain rfl := sj_ H; go_enter Tryz.func154, Tryz.ntmps154; go_wp2
 go_ret
 exact ⟨qav, qcO⟩
mutual
def qaN.j0 : Nat → List (qac) → Int → Bool → Option ((List (qac)) × Bool)
 | 0, _, _, _ => none
 | k + 1, x0, x1, x16 => if x16 = true then (some (([] : List (qac)), false)) else (qaN.l0 k x1 ([] : List (qac)) x0 (x0.length : Int) 0)
def qaN.l0 : Nat → Int → List (qac) → List (qac) → Int → Int → Option ((List (qac)) × Bool)
 | 0, _, _, _, _, _ => none
 | k + 1, x1, x6, x17, x18, x19 => if x19 < x18 then (if 0 ≤ x19 then (if x19 < (x17.length : Int) then ((qcy.f (wrap64 (((qae x17 x19).f1) + x1)) ((qae x17 x19).f0)).bind fun t105 => (if x6.length < 8796093022208 then (qaN.l0 k x1 (x6 ++ [(⟨(qae x17 x19).f0, t105⟩ : qac)]) x17 x18 (wrap64 (x19 + 1))) else (none))) else (none)) else (none)) else (some (x6, true))
end
def qaN.f (k : Nat) (l0 : List (qac)) (a1 : Int) : Option ((List (qac)) × Bool) := (qaP.f k l0).bind fun qat => (if qat = true then ((qes.f a1).bind fun qaR => (qaN.j0 k l0 a1 (!qaR))) else (qaN.j0 k l0 a1 true))
def qaN.T7 : Bool × List (List Nat × List Nat) := (true, [([], []), ([], []), ([1], [1]), ([], []), ([3], [3]), ([], []), ([4, 5], [4, 5]), ([], []), ([7], [7]), ([6, 8], [6, 8]), ([2, 9], [2, 9]), ([10], [10]), ([0, 11, 9], [0, 11]), ([12, 12, 0, 1, 2, 3, 4, 5, 6, 7, 8, 9, 10, 11, 12], [0, 12])])
def qaN.B7 : List Nat := [0, 0, 2, 0, 8, 0, 56, 0, 128, 504, 1022, 2046, 4095, 8191]
theorem qaN.tab7 : qhS .any (opsOf Tryz.f100 7) = qaN.T7 := by kernel_rfl
theorem qaN.ql8 : qeU qaN.T7.2 qaN.B7 = true := by kernel_rfl
theorem qaN.calls (k : Nat) (A0 : Option Addr) (c0 : Nat) (l0 : List (qac)) (a1 : Int) (r1 : List (qac)) (r2 : Bool) (w : World) (hr0 : Kd.C qaL w A0 l0.length l0) (hc0 : l0.length ≤ c0) (h : qaN.f k l0 a1 = some (r1, r2)) :
  Calls Tryz.prog 100 #[.slice A0 l0.length c0, .int .i64 a1] w fun e w' => ∃ v0_ : Value, e = .returned (.tuple #[v0_, .bool r2]) ∧ Kd.R qaL 85 w' w.heap.size (fun _ => True) v0_ r1 ∧ Below w.heap.size w w' := by
 have qmM := Tryz.underlying85; have HR0 := ak_ hr0; have HC0 := ak_ hc0; clear hr0 hc0; have HB := br_ w; have H : ((qaP.f k l0).bind fun qat => (if qat = true then ((qes.f a1).bind fun qaR => (qaN.j0 k l0 a1 (!qaR))) else (qaN.j0 k l0 a1 true))) = some (r1, r2) := h; clear h; have HC3 := ak_ H; clear H; go_enter Tryz.func100, Tryz.ntmps100
 go_upto_region 1 with (fail)
 go_cut [16] (fun v16 wc => ∃ (kq : Nat) (qmI : Bool), v16 = .bool qmI ∧ qag (qaN.j0 kq l0 a1 qmI = some (r1, r2)) ∧ qag (kq ≤ k) ∧ qag (Below w.heap.size w wc))
 case first =>
  have H := HC3.out; clear HC3; obtain ⟨qat, A4, H⟩ := qay H; (try dsimp only at H); by_cases c5 : qat = true
  ·subst c5; rw [if_pos rfl] at H; obtain ⟨qaR, A6, H⟩ := qay H; (try dsimp only at H); have H' := ak_ H; clear H
   go_wp2_with (first | (refine gl_ 10 Tryz.func60 #[.slice A0 l0.length c0] rfl qbK ?_; (with_reducible refine (qaP.calls k _ _ l0 true _ ?qaA ?qaB A4.out).mono ?_); (case qaA => exact qha); (case qaB => exact qb5); rintro e w7 ⟨rfl, hb⟩; refine ⟨_, rfl, ?_⟩; replace HB := HB.mw hb; (try clear hb)) | (go_at_call 153; (with_reducible refine (qes.calls a1 qaR _ A6.out).mono ?_); rintro e w' ⟨rfl, ⟨nd, rfl⟩⟩))
   go_meet
   case rel => exact ⟨_, (!qaR), qav, H', ⟨qih⟩, ⟨qan⟩⟩
  replace c5 := Bool.eq_false_iff.mpr c5; subst c5; rw [if_neg ff_] at H; have H' := ak_ H; clear H
  go_wp2_with (first | (refine gl_ 10 Tryz.func60 #[.slice A0 l0.length c0] rfl qbK ?_; (with_reducible refine (qaP.calls k _ _ l0 false _ ?qaA ?qaB A4.out).mono ?_); (case qaA => exact qha); (case qaB => exact qb5); rintro e w8 ⟨rfl, hb⟩; refine ⟨_, rfl, ?_⟩; replace HB := HB.mw hb; (try clear hb)))
  go_meet
  case rel => exact ⟨_, (true), qav, H', ⟨qih⟩, ⟨qan⟩⟩
 case rest =>
  clear HC3; obtain ⟨kq, qmI, rfl, HA, HJ2, HB⟩ := hcut
  cases kq with
  | zero => exact absurd HA.out (by simp [qaN.j0])
  | succ kj2 =>
   have H := HA.out; clear HA; simp only [qaN.j0] at H; by_cases c9 : qmI = true
   ·subst c9; rw [if_pos rfl] at H; obtain ⟨rfl, rfl⟩ := qdF H; go_wp2
    go_ret2
    exact ⟨_, qcf, qgN, qan⟩
   replace c9 := Bool.eq_false_iff.mpr c9; subst c9; rw [if_neg ff_] at H; have H' := ak_ H; clear H; go_wp2
   go_loopg [6, 19] kj2 (fun kq v6 v19 w' => ∃ (qhn : List (qac)) (qeL : Int), v19 = .int .i64 qeL ∧ qag (qaN.l0 kq a1 qhn l0 (l0.length : Int) qeL = some (r1, r2)) ∧ qag (kq ≤ kj2) ∧ qag (Kd.R qaL 85 w' w.heap.size (fun _ => True) v6 qhn) ∧ qag (Below w.heap.size w w'))
   case atStart => exact ⟨(([] : List (qac))), (0), qav, H', ⟨Nat.le_refl _⟩, ⟨qgN⟩, ⟨qan⟩⟩
   case round =>
    clear H'; (try clear c9); obtain ⟨qhn, qeL, rfl, HA, HK2, qfv, HB⟩ := hrel
    cases gk with
    | zero => exact absurd HA.out (by simp [qaN.l0])
    | succ k2 =>
     have H := HA.out; clear HA; simp only [qaN.l0] at H; by_cases c10 : qeL < (l0.length : Int); rotate_left
     ·rw [if_neg c10] at H; have qgt := decide_eq_false c10; clear c10; obtain ⟨rfl, rfl⟩ := qdF H; go_wp2
      go_ret2
      exact ⟨_, qcf, by (with_reducible repeat (first | apply Kd.qap | apply Kd.qaq | apply Kd.qaw)); exact qfv.out, qan⟩
     rw [if_pos c10] at H; have qgt := decide_eq_true c10; clear c10; obtain ⟨c11, H⟩ := qck H; have qfQ := decide_eq_true c11; clear c11; obtain ⟨c12, H⟩ := qck H; have qhg := decide_eq_true c12; clear c12; obtain ⟨t105, A13, H⟩ := qay H; (try dsimp only at H); obtain ⟨c14, H⟩ := qck H; have qob := ak_ c14; clear c14
     obtain ⟨qkY, hy_⟩ : ∃ y_ : List (qac), y_ = (qhn ++ [(⟨(qae l0 qeL).f0, t105⟩ : qac)]) := ⟨_, rfl⟩
     replace H : (qaN.l0 k2 a1 qkY l0 (l0.length : Int) (wrap64 (qeL + 1))) = some (r1, r2) := qe1; have qod := ak_ hy_; clear hy_; have H' := ak_ H; clear H; have p103 : 0 ≤ (qeL : Int) := of_decide_eq_true qaO; have q103 : qeL < (l0.length : Int) := of_decide_eq_true qaO; obtain ⟨ad103, e103, qoQ, qoR⟩ := qdW HR0.out qeL p103 q103
     cases e103
     replace qoQ := (HB.out.cell (World.block_lt_of_cell? w _ qoQ)).trans qoQ; replace qoR := (HB.out.cell (World.block_lt_of_cell? w _ qoR)).trans qoR; replace p103 := eq_true p103; replace q103 := eq_true q103
     try go_wp2_with (first | ((with_reducible refine qal (N := 8) rfl ?_); refine bx_ 8 rfl (cs := #[.int .i64 0, .int .i64 0]) (t := 85) qbe ?_; intro qgY hg w15 hbox hb; replace qfv := ak_ (Kd.qbv (Kd.qhK qo1 qgY (Nat.le_of_eq hg.symm)) hb); have qhe := ak_ (hbox); have GW104 := ak_ (HB.ge hg); have GE104 := ak_ (HB.ge hg); replace HB := HB.mw hb; clear hb hbox hg; obtain ⟨qr9, qsa, qsh, qsi⟩ := qbG qhe.out))
     have n0_ : qag (Kd.R qaL 85 ((w15.setCell ⟨qgY, 0, none⟩ (.int .i64 ((qae l0 qeL).f0))).setCell ⟨qgY, 1, none⟩ (.int .i64 ((qae l0 qeL).f1))) w.heap.size (fun k_ => k_ ≠ qgY) u6 qhn) := ⟨by (with_reducible repeat (first | apply Kd.qap | apply Kd.qaq | apply Kd.qaw)); exact Kd.qa9 (Kd.qcV (p := ⟨qgY, 1, none⟩) (Kd.qcV (p := ⟨qgY, 0, none⟩) (Kd.qa9 qfv.out (fun k_ hk => (⟨hk, hk.2⟩ : _ ∧ k_ ≠ qgY))) (fun _ hk => hk.2) (.int .i64 ((qae l0 qeL).f0))) (fun _ hk => hk.2) (.int .i64 ((qae l0 qeL).f1))) (fun _ hk => hk.1.2)⟩
     have n1_ : qag (((w15.setCell ⟨qgY, 0, none⟩ (.int .i64 ((qae l0 qeL).f0))).setCell ⟨qgY, 1, none⟩ (.int .i64 ((qae l0 qeL).f1))).heap[qgY]? = some (.cells #[.int .i64 ((qae l0 qeL).f0), .int .i64 ((qae l0 qeL).f1)] 85 (0, 0))) := ⟨by (with_reducible repeat (first | refine qak ?_ _ | refine qam ?_ | refine qaj ?_ _)); refine qbl (cs := #[.int .i64 ((qae l0 qeL).f0), .int .i64 0]) ?_ 1 _ rfl; (with_reducible repeat (first | refine qak ?_ _ | refine qam ?_ | refine qaj ?_ _)); refine qbl (cs := #[.int .i64 0, .int .i64 0]) ?_ 0 _ rfl; apply_rules only [qhe.out, qak, qam, qaj]⟩
     have n2_ : qag (Below w.heap.size w ((w15.setCell ⟨qgY, 0, none⟩ (.int .i64 ((qae l0 qeL).f0))).setCell ⟨qgY, 1, none⟩ (.int .i64 ((qae l0 qeL).f1)))) := ⟨by apply_rules only [HB.out, qai, qaf, qah, qas, GE104.out]⟩
     (try clear qfv); (try clear qhe); (try clear HB)
     generalize ((w15.setCell ⟨qgY, 0, none⟩ (.int .i64 ((qae l0 qeL).f0))).setCell ⟨qgY, 1, none⟩ (.int .i64 ((qae l0 qeL).f1))) = w17 at n0_ n1_ n2_ ⊢
     have qfv := n0_; have qhe := n1_; have HB := n2_; clear n0_ n1_ n2_; replace qfv := ak_ (Kd.qaw qfv.out); replace qhe := ak_ (qam qhe.out); replace HB := ak_ (qah HB.out); refine qe6 (n := 14) (S := fun w' => w'.cell? ⟨qgY, 0, none⟩ = some (.int .i64 ((qae l0 qeL).f0)) ∧ w'.cell? ⟨qgY, 1, none⟩ = some (.int .i64 ((qae l0 qeL).f1))) (ds := []) (rA_ [0, 14]) (by kernel_rfl) rfl rfl ⟨qed qhe.out, qbC qhe.out⟩ (fun hHeld => ?_); refine qdn qaN.tab7 qaN.ql8 (fun HT_ HW_ => ?_)
     generalize w17.drew = w18 at qfv qhe HB hHeld ⊢
     refine pu_ 0 23 [1, 13] ?_; refine pu_ 1 24 [2, 12] ?_; refine pu_ 3 26 [2, 1, 1, 10] ?_; refine pu_ 5 28 [2, 1, 1, 1, 1, 8] ?_; refine pu_ 7 30 [2, 1, 1, 1, 1, 1, 1, 6] ?_; refine qis 2 25 [4, 1, 1, 1, 1, 6] ?_; refine qis 4 27 [6, 1, 1, 6] ?_; refine pu_ 6 29 [8, 6] ?_; refine qis 8 31 [9, 5] ?_; refine qfH (i := 9) (N := some 32) (rA_ [10, 4]) rfl rfl (qc4 HT_.out (by kernel_rfl)) (by decide) (fun K hK => ?_); refine qfR Tryz.func154 (by kernel_rfl) rfl #[.int .i64 (wrap64 (((qae l0 qeL).f1) + a1)), .int .i64 ((qae l0 qeL).f0)] (by rfl) rfl rfl qbK ?_
     with_reducible refine (qcy.calls (wrap64 (((qae l0 qeL).f1) + a1)) ((qae l0 qeL).f0) t105 _ A13.out).mono ?_
     rintro e w' ⟨rfl, ⟨nd, rfl⟩⟩; refine ⟨_, rfl, ?_⟩; refine hK.out _ _ ⟨qed qhe.out, qbC qhe.out⟩ (fun hHeld => ?_); clear hK K; refine nm_ 32 ?_; refine pu_ 10 33 [11, 3] ?_; refine qfH (i := 11) (N := some 34) (rA_ [12, 2]) rfl rfl (qc4 HT_.out (by kernel_rfl)) (by decide) (fun K hK => ?_); refine qiL (w1 := ?_) (v := ?_) (by rfl) rfl ?_ ?_; rotate_left 2
     ·go_simp; constructor
      ·rfl
      rfl
     refine hK.out _ _ ⟨(qba (qaj qhe.out _) 0).trans rfl, (qba (qaj qhe.out _) 1).trans rfl⟩ (fun hHeld => ?_); clear hK K; refine nm_ 34 ?_; refine qfH (i := 12) (N := some 35) (rA_ [13, 1]) rfl rfl (qc4 HT_.out (by kernel_rfl)) (by decide) (fun K hK => ?_); refine Kd.qeV qaL (w0 := w) w.heap.size (by rfl) (.tmp 23) (.tmp 34) 26 85 (.agg #[(.int .i64 0), (.int .i64 0)]) 16 rfl Tryz.underlying26 qfT rfl (by decide) (by omega) u6 qhn (⟨(qae l0 qeL).f0, t105⟩ : qac) [.int .i64 ((qae l0 qeL).f0), .int .i64 t105] (fun k_ => k_ ≠ qgY) (fun _ => False) rfl rfl ?aP (fun _ hk => hk.elim) ?aF ?aO ?aB ?aS ?aL ?_
     (case aP => exact qdm _ _ _ (⟨(qae l0 qeL).f0, t105⟩ : qac))
     (case aB => exact (by apply_rules only [HB.out, qai, qaf, qah, qas, GE104.out]))
     (case aF => exact (fun k_ hk => Kd.qnk (g := qgY) (o := .cells #[.int .i64 ((qae l0 qeL).f0), .int .i64 ((qae l0 qeL).f1)] 85 (0, 0)) (by apply_rules only [qhe.out, qak, qam, qaj]) k_ hk))
     (case aO => exact qo1)
     (case aS => exact (qab (by apply_rules only [HB.out, qai, qaf, qah, qas, GE104.out])))
     (case aL => have := qob.out; omega)
     intro v107 w19 ho hb hg hat; rw [← qod.out] at ho; replace qhe := ak_ (qdH (g := qgY) (o := .cells #[.int .i64 ((qae l0 qeL).f0), .int .i64 ((qae l0 qeL).f1)] 85 (0, 0)) (by apply_rules only [qhe.out, qak, qam, qaj]) hg (Kd.qmW qfv.out (fun _ hk => hk))); replace HB := ak_ (hb); have qgm := ak_ (ho); clear qfv; clear ho hb hg hat; refine hK.out _ _ ⟨qed qhe.out, qbC qhe.out⟩ (fun hHeld => ?_); clear hK K; refine nm_ 35 ?_; refine pu_ 13 6 [14] ?_; refine qgu (qeC HT_.out (by kernel_rfl)) ?_
     try go_wp2
     go_roundg k2
     case measure => have := HJ2.out; have := HK2.out; omega
     case rel => exact ⟨(qkY), (wrap64 (qeL + 1)), qav, H', ⟨by have := HJ2.out; have := HK2.out; omega⟩, ⟨by (with_reducible repeat (first | apply Kd.qap | apply Kd.qaq | apply Kd.qaw)); exact Kd.qa9 qgm.out (fun _ hk => trivial)⟩, ⟨by apply_rules only [HB.out, qai, qaf, qah, qas, GE104.out]⟩⟩
def qa4.l0 : Nat → List (qac) → List (qac) → Int → Int → Option ((List (qac)) × Bool)
 | 0, _, _, _, _ => none
 | k + 1, x4, x10, x11, x12 => if x12 < x11 then (if 0 ≤ x12 then (if x12 < (x10.length : Int) then ((qcy.f (wrap64 (-((qae x10 x12).f1))) ((qae x10 x12).f0)).bind fun qcg => (if x4.length < 8796093022208 then (qa4.l0 k (x4 ++ [(⟨(qae x10 x12).f0, qcg⟩ : qac)]) x10 x11 (wrap64 (x12 + 1))) else (none))) else (none)) else (none)) else (some (x4, true))
def qa4.f (k : Nat) (l0 : List (qac)) : Option ((List (qac)) × Bool) := (qaP.f k l0).bind fun qat => (if qat = true then (qa4.l0 k ([] : List (qac)) l0 (l0.length : Int) 0) else (some (([] : List (qac)), false)))
def qa4.T7 : Bool × List (List Nat × List Nat) := (true, [([], []), ([], []), ([1], [1]), ([], []), ([3], [3]), ([4], [4]), ([], []), ([6], [6]), ([5, 7], [5, 7]), ([2, 8], [2, 8]), ([9], [9]), ([0, 10, 8], [0, 10]), ([11, 11, 0, 1, 2, 3, 4, 5, 6, 7, 8, 9, 10, 11], [0, 11])])
def qa4.B7 : List Nat := [0, 0, 2, 0, 8, 24, 0, 64, 248, 510, 1022, 2047, 4095]
theorem qa4.tab7 : qhS .any (opsOf Tryz.f101 7) = qa4.T7 := by kernel_rfl
theorem qa4.ql8 : qeU qa4.T7.2 qa4.B7 = true := by kernel_rfl
theorem qa4.calls (k : Nat) (A0 : Option Addr) (c0 : Nat) (l0 : List (qac)) (r1 : List (qac)) (r2 : Bool) (w : World) (hr0 : Kd.C qaL w A0 l0.length l0) (hc0 : l0.length ≤ c0) (h : qa4.f k l0 = some (r1, r2)) :
  Calls Tryz.prog 101 #[.slice A0 l0.length c0] w fun e w' => ∃ v0_ : Value, e = .returned (.tuple #[v0_, .bool r2]) ∧ Kd.R qaL 85 w' w.heap.size (fun _ => True) v0_ r1 ∧ Below w.heap.size w w' := by
 have qmM := Tryz.underlying85; have HR0 := ak_ hr0; have HC0 := ak_ hc0; clear hr0 hc0; have HB := br_ w; have H : ((qaP.f k l0).bind fun qat => (if qat = true then (qa4.l0 k ([] : List (qac)) l0 (l0.length : Int) 0) else (some (([] : List (qac)), false)))) = some (r1, r2) := h; clear h; obtain ⟨qat, A2, H⟩ := qay H; (try dsimp only at H); by_cases c3 : qat = true; rotate_left
 ·replace c3 := Bool.eq_false_iff.mpr c3; subst c3; rw [if_neg ff_] at H; obtain ⟨rfl, rfl⟩ := qdF H; go_enter Tryz.func101, Tryz.ntmps101
  go_wp2_with (first | (refine gl_ 8 Tryz.func60 #[.slice A0 l0.length c0] rfl qbK ?_; (with_reducible refine (qaP.calls k _ _ l0 false _ ?qaA ?qaB A2.out).mono ?_); (case qaA => exact qfN); (case qaB => exact qb5); rintro e w15 ⟨rfl, hb⟩; refine ⟨_, rfl, ?_⟩; replace HB := HB.mw hb; (try clear hb)))
  go_ret2
  exact ⟨_, qcf, qgN, qan⟩
 subst c3; rw [if_pos rfl] at H; have H' := ak_ H; clear H; go_enter Tryz.func101, Tryz.ntmps101
 go_wp2_with (first | (refine gl_ 8 Tryz.func60 #[.slice A0 l0.length c0] rfl qbK ?_; (with_reducible refine (qaP.calls k _ _ l0 true _ ?qaA ?qaB A2.out).mono ?_); (case qaA => exact qfN); (case qaB => exact qb5); rintro e w4 ⟨rfl, hb⟩; refine ⟨_, rfl, ?_⟩; replace HB := HB.mw hb; (try clear hb)))
 go_loopg [4, 12] k (fun kq v4 v12 w' => ∃ (qcM : List (qac)) (qdo : Int), v12 = .int .i64 qdo ∧ qag (qa4.l0 kq qcM l0 (l0.length : Int) qdo = some (r1, r2)) ∧ qag (kq ≤ k) ∧ qag (Kd.R qaL 85 w' w.heap.size (fun _ => True) v4 qcM) ∧ qag (Below w.heap.size w w'))
 case atStart => exact ⟨(([] : List (qac))), (0), qav, H', ⟨Nat.le_refl _⟩, ⟨qgN⟩, ⟨qan⟩⟩
 case round =>
  clear H'; (try clear c3); obtain ⟨qcM, qdo, rfl, HA, HK1, qdk, HB⟩ := hrel
  cases gk with
  | zero => exact absurd HA.out (by simp [qa4.l0])
  | succ k1 =>
   have H := HA.out; clear HA; simp only [qa4.l0] at H; by_cases c5 : qdo < (l0.length : Int); rotate_left
   ·rw [if_neg c5] at H; have qgJ := decide_eq_false c5; clear c5; obtain ⟨rfl, rfl⟩ := qdF H; go_wp2
    go_ret2
    exact ⟨_, qcf, by (with_reducible repeat (first | apply Kd.qap | apply Kd.qaq | apply Kd.qaw)); exact qdk.out, qan⟩
   rw [if_pos c5] at H; have qgJ := decide_eq_true c5; clear c5; obtain ⟨c6, H⟩ := qck H; have qgk := decide_eq_true c6; clear c6; obtain ⟨c7, H⟩ := qck H; have qgU := decide_eq_true c7; clear c7; obtain ⟨qcg, A8, H⟩ := qay H; (try dsimp only at H); obtain ⟨c9, H⟩ := qck H; have LMc9 := ak_ c9; clear c9
   obtain ⟨qhY, hy_⟩ : ∃ y_ : List (qac), y_ = (qcM ++ [(⟨(qae l0 qdo).f0, qcg⟩ : qac)]) := ⟨_, rfl⟩
   replace H : (qa4.l0 k1 qhY l0 (l0.length : Int) (wrap64 (qdo + 1))) = some (r1, r2) := qe1; have qhp := ak_ hy_; clear hy_; have H' := ak_ H; clear H; have qsW : 0 ≤ (qdo : Int) := of_decide_eq_true qaO; have qs0 : qdo < (l0.length : Int) := of_decide_eq_true qaO; obtain ⟨ad102, e102, qkw, qoP⟩ := qdW HR0.out qdo qsW qs0
   cases e102
   replace qkw := (HB.out.cell (World.block_lt_of_cell? w _ qkw)).trans qkw; replace qoP := (HB.out.cell (World.block_lt_of_cell? w _ qoP)).trans qoP; replace qsW := eq_true qsW; replace qs0 := eq_true qs0
   try go_wp2_with (first | ((with_reducible refine qal (N := 6) rfl ?_); refine bx_ 6 rfl (cs := #[.int .i64 0, .int .i64 0]) (t := 85) qbe ?_; intro qgX hg w10 hbox hb; replace qdk := ak_ (Kd.qbv (Kd.qhK qjQ qgX (Nat.le_of_eq hg.symm)) hb); have qhd := ak_ (hbox); have GW103 := ak_ (HB.ge hg); have GE103 := ak_ (HB.ge hg); replace HB := HB.mw hb; clear hb hbox hg; obtain ⟨qf8, qf9, qga, qgb⟩ := qbG qhd.out))
   have n0_ : qag (Kd.R qaL 85 ((w10.setCell ⟨qgX, 0, none⟩ (.int .i64 ((qae l0 qdo).f0))).setCell ⟨qgX, 1, none⟩ (.int .i64 ((qae l0 qdo).f1))) w.heap.size (fun k_ => k_ ≠ qgX) u4 qcM) := ⟨by (with_reducible repeat (first | apply Kd.qap | apply Kd.qaq | apply Kd.qaw)); exact Kd.qa9 (Kd.qcV (p := ⟨qgX, 1, none⟩) (Kd.qcV (p := ⟨qgX, 0, none⟩) (Kd.qa9 qdk.out (fun k_ hk => (⟨hk, hk.2⟩ : _ ∧ k_ ≠ qgX))) (fun _ hk => hk.2) (.int .i64 ((qae l0 qdo).f0))) (fun _ hk => hk.2) (.int .i64 ((qae l0 qdo).f1))) (fun _ hk => hk.1.2)⟩
   have n1_ : qag (((w10.setCell ⟨qgX, 0, none⟩ (.int .i64 ((qae l0 qdo).f0))).setCell ⟨qgX, 1, none⟩ (.int .i64 ((qae l0 qdo).f1))).heap[qgX]? = some (.cells #[.int .i64 ((qae l0 qdo).f0), .int .i64 ((qae l0 qdo).f1)] 85 (0, 0))) := ⟨by (with_reducible repeat (first | refine qak ?_ _ | refine qam ?_ | refine qaj ?_ _)); refine qbl (cs := #[.int .i64 ((qae l0 qdo).f0), .int .i64 0]) ?_ 1 _ rfl; (with_reducible repeat (first | refine qak ?_ _ | refine qam ?_ | refine qaj ?_ _)); refine qbl (cs := #[.int .i64 0, .int .i64 0]) ?_ 0 _ rfl; apply_rules only [qhd.out, qak, qam, qaj]⟩
   have n2_ : qag (Below w.heap.size w ((w10.setCell ⟨qgX, 0, none⟩ (.int .i64 ((qae l0 qdo).f0))).setCell ⟨qgX, 1, none⟩ (.int .i64 ((qae l0 qdo).f1)))) := ⟨by apply_rules only [HB.out, qai, qaf, qah, qas, GE103.out]⟩
   (try clear qdk); (try clear qhd); (try clear HB)
   generalize ((w10.setCell ⟨qgX, 0, none⟩ (.int .i64 ((qae l0 qdo).f0))).setCell ⟨qgX, 1, none⟩ (.int .i64 ((qae l0 qdo).f1))) = w12 at n0_ n1_ n2_ ⊢
   have qdk := n0_; have qhd := n1_; have HB := n2_; clear n0_ n1_ n2_; replace qdk := ak_ (Kd.qaw qdk.out); replace qhd := ak_ (qam qhd.out); replace HB := ak_ (qah HB.out); refine qe6 (n := 13) (S := fun w' => w'.cell? ⟨qgX, 0, none⟩ = some (.int .i64 ((qae l0 qdo).f0)) ∧ w'.cell? ⟨qgX, 1, none⟩ = some (.int .i64 ((qae l0 qdo).f1))) (ds := []) (rA_ [0, 13]) (by kernel_rfl) rfl rfl ⟨qed qhd.out, qbC qhd.out⟩ (fun hHeld => ?_); refine qdn qa4.tab7 qa4.ql8 (fun HT_ HW_ => ?_)
   generalize w12.drew = w13 at qdk qhd HB hHeld ⊢
   refine pu_ 0 16 [1, 12] ?_; refine pu_ 1 17 [2, 11] ?_; refine pu_ 3 19 [2, 1, 1, 9] ?_; refine pu_ 6 22 [2, 1, 1, 2, 1, 6] ?_; refine qis 2 18 [4, 2, 1, 6] ?_; refine qis 4 20 [5, 1, 1, 6] ?_; refine pu_ 5 21 [7, 6] ?_; refine qis 7 23 [8, 5] ?_; refine qfH (i := 8) (N := some 24) (rA_ [9, 4]) rfl rfl (qc4 HT_.out (by kernel_rfl)) (by decide) (fun K hK => ?_); refine qfR Tryz.func154 (by kernel_rfl) rfl #[.int .i64 (wrap64 (-((qae l0 qdo).f1))), .int .i64 ((qae l0 qdo).f0)] (by rfl) rfl rfl qbK ?_
   with_reducible refine (qcy.calls (wrap64 (-((qae l0 qdo).f1))) ((qae l0 qdo).f0) qcg _ A8.out).mono ?_
   rintro e w' ⟨rfl, ⟨nd, rfl⟩⟩; refine ⟨_, rfl, ?_⟩; refine hK.out _ _ ⟨qed qhd.out, qbC qhd.out⟩ (fun hHeld => ?_); clear hK K; refine nm_ 24 ?_; refine pu_ 9 25 [10, 3] ?_; refine qfH (i := 10) (N := some 26) (rA_ [11, 2]) rfl rfl (qc4 HT_.out (by kernel_rfl)) (by decide) (fun K hK => ?_); refine qiL (w1 := ?_) (v := ?_) (by rfl) rfl ?_ ?_; rotate_left 2
   ·go_simp; constructor
    ·rfl
    rfl
   refine hK.out _ _ ⟨(qba (qaj qhd.out _) 0).trans rfl, (qba (qaj qhd.out _) 1).trans rfl⟩ (fun hHeld => ?_); clear hK K; refine nm_ 26 ?_; refine qfH (i := 11) (N := some 27) (rA_ [12, 1]) rfl rfl (qc4 HT_.out (by kernel_rfl)) (by decide) (fun K hK => ?_); refine Kd.qeV qaL (w0 := w) w.heap.size (by rfl) (.tmp 16) (.tmp 26) 26 85 (.agg #[(.int .i64 0), (.int .i64 0)]) 16 rfl Tryz.underlying26 qfT rfl (by decide) (by omega) u4 qcM (⟨(qae l0 qdo).f0, qcg⟩ : qac) [.int .i64 ((qae l0 qdo).f0), .int .i64 qcg] (fun k_ => k_ ≠ qgX) (fun _ => False) rfl rfl ?aP (fun _ hk => hk.elim) ?aF ?aO ?aB ?aS ?aL ?_
   (case aP => exact qdm _ _ _ (⟨(qae l0 qdo).f0, qcg⟩ : qac))
   (case aB => exact (by apply_rules only [HB.out, qai, qaf, qah, qas, GE103.out]))
   (case aF => exact (fun k_ hk => Kd.qnk (g := qgX) (o := .cells #[.int .i64 ((qae l0 qdo).f0), .int .i64 ((qae l0 qdo).f1)] 85 (0, 0)) (by apply_rules only [qhd.out, qak, qam, qaj]) k_ hk))
   (case aO => exact qjQ)
   (case aS => exact (qab (by apply_rules only [HB.out, qai, qaf, qah, qas, GE103.out])))
   (case aL => have := LMc9.out; omega)
   intro qq6 w14 ho hb hg hat; rw [← qhp.out] at ho; replace qhd := ak_ (qdH (g := qgX) (o := .cells #[.int .i64 ((qae l0 qdo).f0), .int .i64 ((qae l0 qdo).f1)] 85 (0, 0)) (by apply_rules only [qhd.out, qak, qam, qaj]) hg (Kd.qmW qdk.out (fun _ hk => hk))); replace HB := ak_ (hb); have qe2 := ak_ (ho); clear qdk; clear ho hb hg hat; refine hK.out _ _ ⟨qed qhd.out, qbC qhd.out⟩ (fun hHeld => ?_); clear hK K; refine nm_ 27 ?_; refine pu_ 12 4 [13] ?_; refine qgu (qeC HT_.out (by kernel_rfl)) ?_
   try go_wp2
   go_roundg k1
   case measure => have := HK1.out; omega
   case rel => exact ⟨(qhY), (wrap64 (qdo + 1)), qav, H', ⟨qcW⟩, ⟨by (with_reducible repeat (first | apply Kd.qap | apply Kd.qaq | apply Kd.qaw)); exact Kd.qa9 qe2.out (fun _ hk => trivial)⟩, ⟨by apply_rules only [HB.out, qai, qaf, qah, qas, GE103.out]⟩⟩
def qbM.l0 : Nat → Int → Int → Option (Int)
 | 0, _, _ => none
 | k + 1, x0, x1 => if x1 > 0 then (if x1 = 0 then (none) else (qbM.l0 k x1 (Int.tmod x0 x1))) else (some x0)
def qbM.f (k : Nat) (a0 : Int) (a1 : Int) : Option (Int) := qbM.l0 k a0 a1
theorem qbM.calls (k : Nat) (a0 : Int) (a1 : Int) (r : Int) (w : World) (h : qbM.f k a0 a1 = some r) :
  Calls Tryz.prog 208 #[.int .i64 a0, .int .i64 a1] w fun e w' => e = .returned (.int .i64 r) ∧ qcN w w' := by
 have H : (qbM.l0 k a0 a1) = some r := h; clear h; have H' := ak_ H; clear H; go_enter Tryz.func208, Tryz.ntmps208; go_wp2
 repeat (go_quiet (fail); try go_wp2)
 go_loopg [0, 1] k (fun kq v0 v1 w' => ∃ (qgD : Int) (qgE : Int), v0 = .int .i64 qgD ∧ v1 = .int .i64 qgE ∧ qag (qbM.l0 kq qgD qgE = some r) ∧ qag (kq ≤ k) ∧ qcN w w')
 case atStart => exact ⟨(a0), (a1), qav, qav, H', ⟨Nat.le_refl _⟩, qcO⟩
 case round =>
  clear H'; obtain ⟨qgD, qgE, rfl, rfl, HA, HK1, ⟨m1, rfl⟩⟩ := hrel
  cases gk with
  | zero => exact absurd HA.out (by simp [qbM.l0])
  | succ k1 =>
   have H := HA.out; clear HA; simp only [qbM.l0] at H; by_cases c3 : qgE > 0; rotate_left
   ·rw [if_neg c3] at H; have qfk : decide (0 < qgE) = false := decide_eq_false c3; clear c3; obtain rfl := sj_ H; go_wp2
    repeat (go_quiet (fail); try go_wp2)
    go_ret
    exact ⟨qav, qcO⟩
   rw [if_pos c3] at H; have qfk : decide (0 < qgE) = true := decide_eq_true c3; clear c3; by_cases c4 : qgE = 0
   ·rw [if_pos c4] at H; exact absurd H (by simp)
   rw [if_neg c4] at H; have qfx : (qgE == 0) = false := beq_eq_false_iff_ne.mpr c4; have qmK : (qgE != 0) = true := bne_iff_ne.mpr c4; have H' := ak_ H; clear H; go_wp2
   repeat (go_quiet (fail); try go_wp2)
   go_roundg k1
   case measure => have := HK1.out; omega
   case rel => exact ⟨(qgE), (Int.tmod qgD qgE), qav, qav, H', ⟨qcW⟩, qcO⟩
def qbh.l0 : Nat → Int → List (qac) → Int → Int → Option (Int)
 | 0, _, _, _, _ => none
 | k + 1, x3, x6, x7, x8 => if x8 < x7 then (if 0 ≤ x8 then (if x8 < (x6.length : Int) then ((qbM.f k x3 ((qae x6 x8).f0)).bind fun qce => (if qce = 0 then (none) else (if (wrap64 ((wrap64 (Int.tdiv x3 qce)) * ((qae x6 x8).f0))) > 100000 then (some 0) else (qbh.l0 k (wrap64 ((wrap64 (Int.tdiv x3 qce)) * ((qae x6 x8).f0))) x6 x7 (wrap64 (x8 + 1)))))) else (none)) else (none)) else (some x3)
def qbh.f (k : Nat) (l0 : List (qac)) : Option (Int) := qbh.l0 k 1 l0 (l0.length : Int) 0
theorem qbh.calls (k : Nat) (A0 : Option Addr) (c0 : Nat) (l0 : List (qac)) (r : Int) (w : World) (hr0 : Kd.C qaL w A0 l0.length l0) (hc0 : l0.length ≤ c0) (h : qbh.f k l0 = some r) :
  Calls Tryz.prog 155 #[.slice A0 l0.length c0] w fun e w' => e = .returned (.int .i64 r) ∧ Below w.heap.size w w' := by
 have qmM := Tryz.underlying85; have HR0 := ak_ hr0; have HC0 := ak_ hc0; clear hr0 hc0; have HB := br_ w; have H : (qbh.l0 k 1 l0 (l0.length : Int) 0) = some r := h; clear h; have H' := ak_ H; clear H; go_enter Tryz.func155, Tryz.ntmps155; go_wp2
 repeat (go_quiet (fail); try go_wp2)
 go_loopg [3, 8] k (fun kq v3 v8 w' => ∃ (qbx : Int) (qdh : Int), v3 = .int .i64 qbx ∧ v8 = .int .i64 qdh ∧ qag (qbh.l0 kq qbx l0 (l0.length : Int) qdh = some r) ∧ qag (kq ≤ k) ∧ qag (Below w.heap.size w w'))
 case atStart => exact ⟨(1), (0), qav, qav, H', ⟨Nat.le_refl _⟩, ⟨qan⟩⟩
 case round =>
  clear H'; obtain ⟨qbx, qdh, rfl, rfl, HA, HK1, HB⟩ := hrel
  cases gk with
  | zero => exact absurd HA.out (by simp [qbh.l0])
  | succ k1 =>
   have H := HA.out; clear HA; simp only [qbh.l0] at H; by_cases c2 : qdh < (l0.length : Int); rotate_left
   ·rw [if_neg c2] at H; have qfr := decide_eq_false c2; clear c2; obtain rfl := sj_ H; go_wp2
    repeat (go_quiet (fail); try go_wp2)
    go_ret
    exact ⟨qcf, qan⟩
   rw [if_pos c2] at H; have qfr := decide_eq_true c2; clear c2; obtain ⟨c3, H⟩ := qck H; have qfk := decide_eq_true c3; clear c3; obtain ⟨c4, H⟩ := qck H; have qfx := decide_eq_true c4; clear c4; obtain ⟨qce, A5, H⟩ := qay H; (try dsimp only at H); by_cases c6 : qce = 0
   ·rw [if_pos c6] at H; exact absurd H (by simp)
   rw [if_neg c6] at H; have qgk : (qce == 0) = false := beq_eq_false_iff_ne.mpr c6; have qoq : (qce != 0) = true := bne_iff_ne.mpr c6; by_cases c7 : (wrap64 ((wrap64 (Int.tdiv qbx qce)) * ((qae l0 qdh).f0))) > 100000
   ·rw [if_pos c7] at H; have qgU : decide (100000 < (wrap64 ((wrap64 (Int.tdiv qbx qce)) * ((qae l0 qdh).f0)))) = true := decide_eq_true c7; clear c7; obtain rfl := sj_ H; have qeE : 0 ≤ (qdh : Int) := of_decide_eq_true qaO; have qeN : qdh < (l0.length : Int) := of_decide_eq_true qaO; obtain ⟨qhf, qhh, qbw, qcq⟩ := qdW HR0.out qdh qeE qeN
    cases qhh
    replace qbw := (HB.out.cell (World.block_lt_of_cell? w _ qbw)).trans qbw; replace qcq := (HB.out.cell (World.block_lt_of_cell? w _ qcq)).trans qcq; replace qeE := eq_true qeE; replace qeN := eq_true qeN
    go_wp2_with (first | ((with_reducible refine qal (N := 5) rfl ?_); refine bx_ 5 rfl (cs := #[.int .i64 0, .int .i64 0]) (t := 85) qbe ?_; intro qej hg w8 hbox hb; have qct := ak_ (hbox); have qgr := ak_ (HB.ge hg); have qgl := ak_ (HB.ge hg); replace HB := HB.mw hb; clear hb hbox hg; obtain ⟨qhx, qhy, qhz, qhA⟩ := qbG qct.out) | (go_at_call 208; (with_reducible refine (qbM.calls k1 qbx ((qae l0 qdh).f0) qce _ A5.out).mono ?_); rintro e w' ⟨rfl, ⟨nd, rfl⟩⟩; (try first | exact ⟨rfl, _, World.drewN_drewN _ _ _⟩ | exact ⟨rfl, _, Eq.trans (World.drewN_drewN _ _ _) (congrArg (World.drewN _) (Nat.add_assoc _ _ _))⟩)))
    repeat (go_quiet (first | ((with_reducible refine qal (N := 5) rfl ?_); refine bx_ 5 rfl (cs := #[.int .i64 0, .int .i64 0]) (t := 85) qbe ?_; intro qej hg w8 hbox hb; have qct := ak_ (hbox); have qgr := ak_ (HB.ge hg); have qgl := ak_ (HB.ge hg); replace HB := HB.mw hb; clear hb hbox hg; obtain ⟨qhx, qhy, qhz, qhA⟩ := qbG qct.out) | (go_at_call 208; (with_reducible refine (qbM.calls k1 qbx ((qae l0 qdh).f0) qce _ A5.out).mono ?_); rintro e w' ⟨rfl, ⟨nd, rfl⟩⟩; (try first | exact ⟨rfl, _, World.drewN_drewN _ _ _⟩ | exact ⟨rfl, _, Eq.trans (World.drewN_drewN _ _ _) (congrArg (World.drewN _) (Nat.add_assoc _ _ _))⟩))); try go_wp2_with (first | ((with_reducible refine qal (N := 5) rfl ?_); refine bx_ 5 rfl (cs := #[.int .i64 0, .int .i64 0]) (t := 85) qbe ?_; intro qej hg w8 hbox hb; have qct := ak_ (hbox); have qgr := ak_ (HB.ge hg); have qgl := ak_ (HB.ge hg); replace HB := HB.mw hb; clear hb hbox hg; obtain ⟨qhx, qhy, qhz, qhA⟩ := qbG qct.out) | (go_at_call 208; (with_reducible refine (qbM.calls k1 qbx ((qae l0 qdh).f0) qce _ A5.out).mono ?_); rintro e w' ⟨rfl, ⟨nd, rfl⟩⟩; (try first | exact ⟨rfl, _, World.drewN_drewN _ _ _⟩ | exact ⟨rfl, _, Eq.trans (World.drewN_drewN _ _ _) (congrArg (World.drewN _) (Nat.add_assoc _ _ _))⟩))))
    go_ret
    exact ⟨qcf, qmN⟩
   rw [if_neg c7] at H; have qgU : decide (100000 < (wrap64 ((wrap64 (Int.tdiv qbx qce)) * ((qae l0 qdh).f0)))) = false := decide_eq_false c7; clear c7; have H' := ak_ H; clear H; have qeE : 0 ≤ (qdh : Int) := of_decide_eq_true qaO; have qeN : qdh < (l0.length : Int) := of_decide_eq_true qaO; obtain ⟨qhf, qhh, qbw, qcq⟩ := qdW HR0.out qdh qeE qeN
   cases qhh
   replace qbw := (HB.out.cell (World.block_lt_of_cell? w _ qbw)).trans qbw; replace qcq := (HB.out.cell (World.block_lt_of_cell? w _ qcq)).trans qcq; replace qeE := eq_true qeE; replace qeN := eq_true qeN
   go_wp2_with (first | ((with_reducible refine qal (N := 5) rfl ?_); refine bx_ 5 rfl (cs := #[.int .i64 0, .int .i64 0]) (t := 85) qbe ?_; intro qej hg w10 hbox hb; have qct := ak_ (hbox); have qgr := ak_ (HB.ge hg); have qgl := ak_ (HB.ge hg); replace HB := HB.mw hb; clear hb hbox hg; obtain ⟨qf8, qf9, qga, qgb⟩ := qbG qct.out) | (go_at_call 208; (with_reducible refine (qbM.calls k1 qbx ((qae l0 qdh).f0) qce _ A5.out).mono ?_); rintro e w' ⟨rfl, ⟨nd, rfl⟩⟩; (try first | exact ⟨rfl, _, World.drewN_drewN _ _ _⟩ | exact ⟨rfl, _, Eq.trans (World.drewN_drewN _ _ _) (congrArg (World.drewN _) (Nat.add_assoc _ _ _))⟩)))
   repeat (go_quiet (first | ((with_reducible refine qal (N := 5) rfl ?_); refine bx_ 5 rfl (cs := #[.int .i64 0, .int .i64 0]) (t := 85) qbe ?_; intro qej hg w10 hbox hb; have qct := ak_ (hbox); have qgr := ak_ (HB.ge hg); have qgl := ak_ (HB.ge hg); replace HB := HB.mw hb; clear hb hbox hg; obtain ⟨qf8, qf9, qga, qgb⟩ := qbG qct.out) | (go_at_call 208; (with_reducible refine (qbM.calls k1 qbx ((qae l0 qdh).f0) qce _ A5.out).mono ?_); rintro e w' ⟨rfl, ⟨nd, rfl⟩⟩; (try first | exact ⟨rfl, _, World.drewN_drewN _ _ _⟩ | exact ⟨rfl, _, Eq.trans (World.drewN_drewN _ _ _) (congrArg (World.drewN _) (Nat.add_assoc _ _ _))⟩))); try go_wp2_with (first | ((with_reducible refine qal (N := 5) rfl ?_); refine bx_ 5 rfl (cs := #[.int .i64 0, .int .i64 0]) (t := 85) qbe ?_; intro qej hg w10 hbox hb; have qct := ak_ (hbox); have qgr := ak_ (HB.ge hg); have qgl := ak_ (HB.ge hg); replace HB := HB.mw hb; clear hb hbox hg; obtain ⟨qf8, qf9, qga, qgb⟩ := qbG qct.out) | (go_at_call 208; (with_reducible refine (qbM.calls k1 qbx ((qae l0 qdh).f0) qce _ A5.out).mono ?_); rintro e w' ⟨rfl, ⟨nd, rfl⟩⟩; (try first | exact ⟨rfl, _, World.drewN_drewN _ _ _⟩ | exact ⟨rfl, _, Eq.trans (World.drewN_drewN _ _ _) (congrArg (World.drewN _) (Nat.add_assoc _ _ _))⟩))))
   go_roundg k1
   case measure => have := HK1.out; omega
   case rel => exact ⟨(wrap64 ((wrap64 (Int.tdiv qbx qce)) * ((qae l0 qdh).f0))), (wrap64 (qdh + 1)), qav, qav, H', ⟨qcW⟩, ⟨qmN⟩⟩
def qcu.l0 : Nat → Int → List (qac) → Int → Int → Option (Int)
 | 0, _, _, _, _ => none
 | k + 1, x1, x7, x8, x9 => if x9 < x8 then (if 0 ≤ x9 then (if x9 < (x7.length : Int) then ((qcy.f x1 ((qae x7 x9).f0)).bind fun qce => (if qce = ((qae x7 x9).f1) then (some x9) else (qcu.l0 k x1 x7 x8 (wrap64 (x9 + 1))))) else (none)) else (none)) else (some (-1))
def qcu.f (k : Nat) (l0 : List (qac)) (a1 : Int) : Option (Int) := qcu.l0 k a1 l0 (l0.length : Int) 0
theorem qcu.calls (k : Nat) (A0 : Option Addr) (c0 : Nat) (l0 : List (qac)) (a1 : Int) (r : Int) (w : World) (hr0 : Kd.C qaL w A0 l0.length l0) (hc0 : l0.length ≤ c0) (h : qcu.f k l0 a1 = some r) :
  Calls Tryz.prog 211 #[.slice A0 l0.length c0, .int .i64 a1] w fun e w' => e = .returned (.int .i64 r) ∧ Below w.heap.size w w' := by
 have qmM := Tryz.underlying85; have HR0 := ak_ hr0; have HC0 := ak_ hc0; clear hr0 hc0; have HB := br_ w; have H : (qcu.l0 k a1 l0 (l0.length : Int) 0) = some r := h; clear h; have H' := ak_ H; clear H; go_enter Tryz.func211, Tryz.ntmps211; go_wp2
 repeat (go_quiet (fail); try go_wp2)
 go_loopg [9] k (fun kq v9 w' => ∃ (qdp : Int), v9 = .int .i64 qdp ∧ qag (qcu.l0 kq a1 l0 (l0.length : Int) qdp = some r) ∧ qag (kq ≤ k) ∧ qag (Below w.heap.size w w'))
 case atStart => exact ⟨(0), qav, H', ⟨Nat.le_refl _⟩, ⟨qan⟩⟩
 case round =>
  clear H'; obtain ⟨qdp, rfl, HA, HK1, HB⟩ := hrel
  cases gk with
  | zero => exact absurd HA.out (by simp [qcu.l0])
  | succ k1 =>
   have H := HA.out; clear HA; simp only [qcu.l0] at H; by_cases c3 : qdp < (l0.length : Int); rotate_left
   ·rw [if_neg c3] at H; have qfk := decide_eq_false c3; clear c3; obtain rfl := sj_ H; go_wp2
    repeat (go_quiet (fail); try go_wp2)
    go_ret
    exact ⟨qcf, qan⟩
   rw [if_pos c3] at H; have qfk := decide_eq_true c3; clear c3; obtain ⟨c4, H⟩ := qck H; have qfx := decide_eq_true c4; clear c4; obtain ⟨c5, H⟩ := qck H; have qgJ := decide_eq_true c5; clear c5; obtain ⟨qce, A6, H⟩ := qay H; (try dsimp only at H); by_cases c7 : qce = ((qae l0 qdp).f1)
   ·rw [if_pos c7] at H; have qgU : (qce == ((qae l0 qdp).f1)) = true := beq_iff_eq.mpr c7; have qmL : (qce != ((qae l0 qdp).f1)) = false := bne_eq_false_iff_eq.mpr c7; clear c7; obtain rfl := sj_ H; have qeE : 0 ≤ (qdp : Int) := of_decide_eq_true qaO; have qeN : qdp < (l0.length : Int) := of_decide_eq_true qaO; obtain ⟨qhf, qhh, qbw, qcq⟩ := qdW HR0.out qdp qeE qeN
    cases qhh
    replace qbw := (HB.out.cell (World.block_lt_of_cell? w _ qbw)).trans qbw; replace qcq := (HB.out.cell (World.block_lt_of_cell? w _ qcq)).trans qcq; replace qeE := eq_true qeE; replace qeN := eq_true qeN
    go_wp2_with (first | ((with_reducible refine qal (N := 6) rfl ?_); refine bx_ 6 rfl (cs := #[.int .i64 0, .int .i64 0]) (t := 85) qbe ?_; intro qej hg w8 hbox hb; have qct := ak_ (hbox); have qgr := ak_ (HB.ge hg); have qgl := ak_ (HB.ge hg); replace HB := HB.mw hb; clear hb hbox hg; obtain ⟨qhx, qhy, qhz, qhA⟩ := qbG qct.out) | (go_at_call 154; (with_reducible refine (qcy.calls a1 ((qae l0 qdp).f0) qce _ A6.out).mono ?_); rintro e w' ⟨rfl, ⟨nd, rfl⟩⟩; (try first | exact ⟨rfl, _, World.drewN_drewN _ _ _⟩ | exact ⟨rfl, _, Eq.trans (World.drewN_drewN _ _ _) (congrArg (World.drewN _) (Nat.add_assoc _ _ _))⟩)))
    repeat (go_quiet (first | ((with_reducible refine qal (N := 6) rfl ?_); refine bx_ 6 rfl (cs := #[.int .i64 0, .int .i64 0]) (t := 85) qbe ?_; intro qej hg w8 hbox hb; have qct := ak_ (hbox); have qgr := ak_ (HB.ge hg); have qgl := ak_ (HB.ge hg); replace HB := HB.mw hb; clear hb hbox hg; obtain ⟨qhx, qhy, qhz, qhA⟩ := qbG qct.out) | (go_at_call 154; (with_reducible refine (qcy.calls a1 ((qae l0 qdp).f0) qce _ A6.out).mono ?_); rintro e w' ⟨rfl, ⟨nd, rfl⟩⟩; (try first | exact ⟨rfl, _, World.drewN_drewN _ _ _⟩ | exact ⟨rfl, _, Eq.trans (World.drewN_drewN _ _ _) (congrArg (World.drewN _) (Nat.add_assoc _ _ _))⟩))); try go_wp2_with (first | ((with_reducible refine qal (N := 6) rfl ?_); refine bx_ 6 rfl (cs := #[.int .i64 0, .int .i64 0]) (t := 85) qbe ?_; intro qej hg w8 hbox hb; have qct := ak_ (hbox); have qgr := ak_ (HB.ge hg); have qgl := ak_ (HB.ge hg); replace HB := HB.mw hb; clear hb hbox hg; obtain ⟨qhx, qhy, qhz, qhA⟩ := qbG qct.out) | (go_at_call 154; (with_reducible refine (qcy.calls a1 ((qae l0 qdp).f0) qce _ A6.out).mono ?_); rintro e w' ⟨rfl, ⟨nd, rfl⟩⟩; (try first | exact ⟨rfl, _, World.drewN_drewN _ _ _⟩ | exact ⟨rfl, _, Eq.trans (World.drewN_drewN _ _ _) (congrArg (World.drewN _) (Nat.add_assoc _ _ _))⟩))))
    go_ret
    exact ⟨qcf, qmN⟩
   rw [if_neg c7] at H; have qgU : (qce == ((qae l0 qdp).f1)) = false := beq_eq_false_iff_ne.mpr c7; have qmL : (qce != ((qae l0 qdp).f1)) = true := bne_iff_ne.mpr c7; have H' := ak_ H; clear H; have qeE : 0 ≤ (qdp : Int) := of_decide_eq_true qaO; have qeN : qdp < (l0.length : Int) := of_decide_eq_true qaO; obtain ⟨qhf, qhh, qbw, qcq⟩ := qdW HR0.out qdp qeE qeN
   cases qhh
   replace qbw := (HB.out.cell (World.block_lt_of_cell? w _ qbw)).trans qbw; replace qcq := (HB.out.cell (World.block_lt_of_cell? w _ qcq)).trans qcq; replace qeE := eq_true qeE; replace qeN := eq_true qeN
   go_wp2_with (first | ((with_reducible refine qal (N := 6) rfl ?_); refine bx_ 6 rfl (cs := #[.int .i64 0, .int .i64 0]) (t := 85) qbe ?_; intro qej hg w10 hbox hb; have qct := ak_ (hbox); have qgr := ak_ (HB.ge hg); have qgl := ak_ (HB.ge hg); replace HB := HB.mw hb; clear hb hbox hg; obtain ⟨qf8, qf9, qga, qgb⟩ := qbG qct.out) | (go_at_call 154; (with_reducible refine (qcy.calls a1 ((qae l0 qdp).f0) qce _ A6.out).mono ?_); rintro e w' ⟨rfl, ⟨nd, rfl⟩⟩; (try first | exact ⟨rfl, _, World.drewN_drewN _ _ _⟩ | exact ⟨rfl, _, Eq.trans (World.drewN_drewN _ _ _) (congrArg (World.drewN _) (Nat.add_assoc _ _ _))⟩)))
   repeat (go_quiet (first | ((with_reducible refine qal (N := 6) rfl ?_); refine bx_ 6 rfl (cs := #[.int .i64 0, .int .i64 0]) (t := 85) qbe ?_; intro qej hg w10 hbox hb; have qct := ak_ (hbox); have qgr := ak_ (HB.ge hg); have qgl := ak_ (HB.ge hg); replace HB := HB.mw hb; clear hb hbox hg; obtain ⟨qf8, qf9, qga, qgb⟩ := qbG qct.out) | (go_at_call 154; (with_reducible refine (qcy.calls a1 ((qae l0 qdp).f0) qce _ A6.out).mono ?_); rintro e w' ⟨rfl, ⟨nd, rfl⟩⟩; (try first | exact ⟨rfl, _, World.drewN_drewN _ _ _⟩ | exact ⟨rfl, _, Eq.trans (World.drewN_drewN _ _ _) (congrArg (World.drewN _) (Nat.add_assoc _ _ _))⟩))); try go_wp2_with (first | ((with_reducible refine qal (N := 6) rfl ?_); refine bx_ 6 rfl (cs := #[.int .i64 0, .int .i64 0]) (t := 85) qbe ?_; intro qej hg w10 hbox hb; have qct := ak_ (hbox); have qgr := ak_ (HB.ge hg); have qgl := ak_ (HB.ge hg); replace HB := HB.mw hb; clear hb hbox hg; obtain ⟨qf8, qf9, qga, qgb⟩ := qbG qct.out) | (go_at_call 154; (with_reducible refine (qcy.calls a1 ((qae l0 qdp).f0) qce _ A6.out).mono ?_); rintro e w' ⟨rfl, ⟨nd, rfl⟩⟩; (try first | exact ⟨rfl, _, World.drewN_drewN _ _ _⟩ | exact ⟨rfl, _, Eq.trans (World.drewN_drewN _ _ _) (congrArg (World.drewN _) (Nat.add_assoc _ _ _))⟩))))
   go_roundg k1
   case measure => have := HK1.out; omega
   case rel => exact ⟨(wrap64 (qdp + 1)), qav, H', ⟨qcW⟩, ⟨qmN⟩⟩
def qcd.f (k : Nat) (l0 : List (qac)) (a1 : Int) : Option (Bool) := (qcu.f k l0 a1).bind fun qat => (some (decide (qat < 0)))
theorem qcd.calls (k : Nat) (A0 : Option Addr) (c0 : Nat) (l0 : List (qac)) (a1 : Int) (r : Bool) (w : World) (hr0 : Kd.C qaL w A0 l0.length l0) (hc0 : l0.length ≤ c0) (h : qcd.f k l0 a1 = some r) :
  Calls Tryz.prog 173 #[.slice A0 l0.length c0, .int .i64 a1] w fun e w' => e = .returned (.bool r) ∧ Below w.heap.size w w' := by
 have HR0 := ak_ hr0; have HC0 := ak_ hc0; clear hr0 hc0; have HB := br_ w; have H : ((qcu.f k l0 a1).bind fun qat => (some (decide (qat < 0)))) = some r := h; clear h; obtain ⟨qat, A3, H⟩ := qay H; (try dsimp only at H); obtain rfl := sj_ H; go_enter Tryz.func173, Tryz.ntmps173
 go_wp2_with (first | (refine gl_ 7 Tryz.func211 #[.slice A0 l0.length c0, .int .i64 a1] rfl qbK ?_; (with_reducible refine (qcu.calls k _ _ l0 a1 qat _ ?qaA ?qaB A3.out).mono ?_); (case qaA => exact qfN); (case qaB => exact qb5); rintro e w4 ⟨rfl, hb⟩; refine ⟨_, rfl, ?_⟩; replace HB := HB.mw hb; (try clear hb)))
 go_ret
 exact ⟨qcf, qan⟩
def qbE.f (l0 : List (qac)) (a1 : Int) : Option ((List (qac))) := (some (([] : List (qac)) : List (qac))).bind fun qff => (if 0 ≤ a1 then (if a1 ≤ (l0.length : Int) then ((some (l0.take (a1 : Int).toNat : List (qac))).bind fun qgF => (if qff.length + qgF.length < 8796093022208 then ((some (qff ++ qgF : List (qac))).bind fun qiO => (if 0 ≤ (wrap64 (a1 + 1)) then (if (wrap64 (a1 + 1)) ≤ (l0.length : Int) then ((some (l0.drop ((wrap64 (a1 + 1)) : Int).toNat : List (qac))).bind fun qhZ => (if qiO.length + qhZ.length < 8796093022208 then (some (qiO ++ qhZ)) else (none))) else (none)) else (none))) else (none))) else (none)) else (none))
def qbE.T1 : Bool × List (List Nat × List Nat) := (true, [([], []), ([], []), ([], []), ([1, 2], [1, 2]), ([0, 3], [0, 3]), ([], []), ([], []), ([6], [6]), ([5, 7], [5, 7]), ([4, 8, 4], [4, 8]), ([9, 9, 0, 1, 2, 3, 4, 5, 6, 7, 8, 9], [9])])
def qbE.B1 : List Nat := [0, 0, 0, 6, 15, 0, 0, 64, 224, 511, 1023]
theorem qbE.tab1 : qhS .any (opsOf Tryz.f98 1) = qbE.T1 := by kernel_rfl
theorem qbE.bits1 : qeU qbE.T1.2 qbE.B1 = true := by kernel_rfl
theorem qbE.calls (A0 : Option Addr) (c0 : Nat) (l0 : List (qac)) (a1 : Int) (r : List (qac)) (w : World) (hr0 : Kd.C qaL w A0 l0.length l0) (hc0 : l0.length ≤ c0) (h : qbE.f l0 a1 = some r) :
  Calls Tryz.prog 98 #[.slice A0 l0.length c0, .int .i64 a1] w fun e w' => ∃ v0_ : Value, e = .returned (v0_) ∧ Kd.R qaL 85 w' w.heap.size (fun _ => True) v0_ r ∧ Below w.heap.size w w' := by
 have HR0 := ak_ hr0; have HC0 := ak_ hc0; clear hr0 hc0; have HB := br_ w; have H : ((some (([] : List (qac)) : List (qac))).bind fun qff => (if 0 ≤ a1 then (if a1 ≤ (l0.length : Int) then ((some (l0.take (a1 : Int).toNat : List (qac))).bind fun qgF => (if qff.length + qgF.length < 8796093022208 then ((some (qff ++ qgF : List (qac))).bind fun qiO => (if 0 ≤ (wrap64 (a1 + 1)) then (if (wrap64 (a1 + 1)) ≤ (l0.length : Int) then ((some (l0.drop ((wrap64 (a1 + 1)) : Int).toNat : List (qac))).bind fun qhZ => (if qiO.length + qhZ.length < 8796093022208 then (some (qiO ++ qhZ)) else (none))) else (none)) else (none))) else (none))) else (none)) else (none))) = some r := h; clear h
 obtain ⟨qff, hy_⟩ : ∃ y_ : List (qac), y_ = (([] : List (qac))) := ⟨_, rfl⟩
 replace H : (if 0 ≤ a1 then (if a1 ≤ (l0.length : Int) then ((some (l0.take (a1 : Int).toNat : List (qac))).bind fun qgF => (if qff.length + qgF.length < 8796093022208 then ((some (qff ++ qgF : List (qac))).bind fun qiO => (if 0 ≤ (wrap64 (a1 + 1)) then (if (wrap64 (a1 + 1)) ≤ (l0.length : Int) then ((some (l0.drop ((wrap64 (a1 + 1)) : Int).toNat : List (qac))).bind fun qhZ => (if qiO.length + qhZ.length < 8796093022208 then (some (qiO ++ qhZ)) else (none))) else (none)) else (none))) else (none))) else (none)) else (none)) = some r := qe1; have qei := ak_ hy_; clear hy_; obtain ⟨c3, H⟩ := qck H; have qfk := eq_true c3; have qmb := decide_eq_true c3; clear c3; obtain ⟨c4, H⟩ := qck H; have qfx := eq_true c4; have qmK := decide_eq_true c4; clear c4
 obtain ⟨qgF, hy_⟩ : ∃ y_ : List (qac), y_ = (l0.take (a1 : Int).toNat) := ⟨_, rfl⟩
 replace H : (if qff.length + qgF.length < 8796093022208 then ((some (qff ++ qgF : List (qac))).bind fun qiO => (if 0 ≤ (wrap64 (a1 + 1)) then (if (wrap64 (a1 + 1)) ≤ (l0.length : Int) then ((some (l0.drop ((wrap64 (a1 + 1)) : Int).toNat : List (qac))).bind fun qhZ => (if qiO.length + qhZ.length < 8796093022208 then (some (qiO ++ qhZ)) else (none))) else (none)) else (none))) else (none)) = some r := qe1; have qiu := ak_ hy_; clear hy_; obtain ⟨c5, H⟩ := qck H; have LMc5 := ak_ c5; clear c5
 obtain ⟨qiO, hy_⟩ : ∃ y_ : List (qac), y_ = (qff ++ qgF) := ⟨_, rfl⟩
 replace H : (if 0 ≤ (wrap64 (a1 + 1)) then (if (wrap64 (a1 + 1)) ≤ (l0.length : Int) then ((some (l0.drop ((wrap64 (a1 + 1)) : Int).toNat : List (qac))).bind fun qhZ => (if qiO.length + qhZ.length < 8796093022208 then (some (qiO ++ qhZ)) else (none))) else (none)) else (none)) = some r := qe1; have qoe := ak_ hy_; clear hy_
 obtain ⟨ji6, hji6⟩ : ∃ j_ : Int, (wrap64 (a1 + 1)) = j_ := ⟨_, rfl⟩
 replace H : (if 0 ≤ (ji6) then (if (ji6) ≤ (l0.length : Int) then ((some (l0.drop ((ji6) : Int).toNat : List (qac))).bind fun qhZ => (if qiO.length + qhZ.length < 8796093022208 then (some (qiO ++ qhZ)) else (none))) else (none)) else (none)) = some r := by first | (rw [hji6] at H; exact H) | (simp only [hji6] at H ⊢; exact H)
 have hji6w : (IntKind.i64.wrap (a1 + 1)) = ji6 := (qd7 _).trans hji6; obtain ⟨c7, H⟩ := qck H; have qgU := eq_true c7; have qmL := decide_eq_true c7; clear c7; obtain ⟨c8, H⟩ := qck H; have qm4 := eq_true c8; have c8b1 := decide_eq_true c8; clear c8
 obtain ⟨qhZ, hy_⟩ : ∃ y_ : List (qac), y_ = (l0.drop ((ji6) : Int).toNat) := ⟨_, rfl⟩
 replace H : (if qiO.length + qhZ.length < 8796093022208 then (some (qiO ++ qhZ)) else (none)) = some r := qe1; have qqp := ak_ hy_; clear hy_; obtain ⟨c9, H⟩ := qck H; have LMc9 := ak_ c9; clear c9
 obtain ⟨y115, hy_⟩ : ∃ y_ : List (qac), y_ = (qiO ++ qhZ) := ⟨_, rfl⟩
 replace H : (some y115) = some r := qe1; have Ny115 := ak_ hy_; clear hy_; obtain rfl := sj_ H; go_enter Tryz.func98, Tryz.ntmps98
 try go_wp2
 replace HB := ak_ (qah HB.out); have q11 : (a1 : Int) ≤ ((l0.length : Int) : Int) := of_decide_eq_true qaO; obtain ⟨i011, hi011, _, hsz11, _⟩ := info_parts qfT; have qst : l0.length ≤ c0 := HC0.out; have hC11 : Kd.C qaL _ A0 l0.length l0 := HR0.out; have hcut11 := qj9 (P := Tryz.prog) 26 85 .i64 Tryz.underlying26 hi011 A0 l0.length c0 a1 (of_decide_eq_true qaO) q11 qst; have hr11 := Kd.qmQ (m := (a1 : Int).toNat) hC11 (by omega)
 have hy11 : qgF.length = (a1 : Int).toNat := (by rw [qiu.out, List.length_take]; omega)
 rw [← qiu.out] at hr11; rw [← hy11] at hcut11; have HR107 := ak_ hr11; have HC107 := ak_ (show qgF.length ≤ c0 from by omega); clear hr11 hC11 qst hi011 hsz11; have KY11 := ak_ hy11; clear hy11; replace q11 := eq_true q11; have q12 : ((ji6) : Int) ≤ ((l0.length : Int) : Int) := of_decide_eq_true qaO; obtain ⟨i012, hi012, _, hsz12, _⟩ := info_parts qfT; have qoO : l0.length ≤ c0 := HC0.out; have hC12 : Kd.C qaL _ A0 l0.length l0 := HR0.out; have q012 : (0 : Int) ≤ ((ji6) : Int) := of_decide_eq_true qaO; have hcut12 := qjM (P := Tryz.prog) 26 85 .i64 Tryz.underlying26 hi012 2 hsz12 A0 l0.length c0 (ji6) q012 q12; have hr12 := Kd.C_drop (m := ((ji6) : Int).toNat) (c := c0) hC12 (by omega) qoO
 obtain ⟨A12, hA12⟩ : ∃ A1, A1 = (if c0 = ((ji6) : Int).toNat then A0 else (A0 : Option Addr).map (·.add (((ji6) : Int).toNat * 2))) := ⟨_, rfl⟩
 obtain ⟨c12, hc12⟩ : ∃ c1, c1 = c0 - ((ji6) : Int).toNat := ⟨_, rfl⟩
 have hy12 : qhZ.length = l0.length - ((ji6) : Int).toNat := (by rw [qqp.out, List.length_drop] <;> omega)
 rw [show (l0).drop ((ji6) : Int).toNat = qhZ from qqp.out.symm] at hr12
 replace hr12 : Kd.C qaL _ A12 qhZ.length qhZ := (by rw [hA12]; exact hr12)
 rw [← hy12, ← hA12, ← hc12] at hcut12; have HR114 := ak_ hr12; have HC114 := ak_ (show qhZ.length ≤ c12 from by rw [hy12, hc12]; exact Nat.sub_le_sub_right qoO _); clear hr12 hC12 qoO hi012 hsz12 hc12; have KY12 := ak_ hy12; have KA12 := ak_ hA12; clear hy12 hA12; replace q12 := eq_true q12; refine qe6 (n := 11) (S := fun w' => True) (ds := []) (rA_ [0, 11]) (by kernel_rfl) rfl rfl trivial (fun hHeld => ?_); refine qdn qbE.tab1 qbE.bits1 (fun HT_ HW_ => ?_)
 generalize w.drew = w10 at HB HR107 HR114 hHeld ⊢
 refine pu_ 1 6 [0, 1, 1, 9] ?_; refine pu_ 2 7 [0, 1, 2, 8] ?_; refine pu_ 3 8 [0, 1, 3, 7] ?_; refine pu_ 5 10 [0, 1, 3, 1, 1, 5] ?_; refine pu_ 6 11 [0, 1, 3, 1, 2, 4] ?_; refine pu_ 7 12 [0, 1, 3, 1, 3, 3] ?_; refine pu_ 8 13 [0, 1, 3, 1, 4, 2] ?_; refine qfH (i := 0) (N := some 5) (rA_ [4, 1, 4, 2]) rfl rfl (qc4 HT_.out (by kernel_rfl)) (by decide) (fun K hK => ?_); refine Kd.qdS qaL _ 85 ?hg (N := 5) ?hd (xs := ([] : List (qac))) (inner := []) (ok := fun _ => True) (okp := fun _ => True) ?hr ?hp (fun _ hk => hk) trivial (Below.refl _ _) (Nat.le_refl _) (by simp) ?_; (case hd => rfl); (case hg => rfl); (case hr => exact qbe); (case hp => exact (qef.none _ _)); intro qit w13 qsp hb hg_ hnew_; clear hg_ hnew_; (first | rw [← qei.out] at qsp | (simp only [Int.reduceToNat] at qsp; rw [← qei.out] at qsp)); have qc6 := ak_ (Kd.qax qsp (qab qan)); replace HB := HB.mw hb; clear hb qsp; refine hK.out _ _ trivial (fun hHeld => ?_); clear hK K; refine nm_ 5 ?_; refine qfH (i := 4) (N := some 9) (rA_ [9, 2]) rfl rfl (qc4 HT_.out (by kernel_rfl)) (by decide) (fun K hK => ?_); refine Kd.qbY qaL (w0 := w) w.heap.size (by rfl) (.tmp 5) (.tmp 8) 26 85 (.agg #[(.int .i64 0), (.int .i64 0)]) 16 rfl Tryz.underlying26 qfT rfl (by decide) (by omega) qit qff qgF _ _ _ (fun _ => True) (fun _ => False) rfl rfl ?aO ?aR (fun _ _ h => h) (fun _ h => h.elim) ?aF ?aB ?aS ?aL ?_
 (case aR => repeat (first | exact (Kd.qeg HR107.out HB.out) | (with_reducible refine Kd.C_alloc ?_ _) | (with_reducible refine Kd.C_drewN ?_ _) | (with_reducible refine Kd.C_drew ?_)))
 (case aB => exact qan)
 (case aF => exact (fun _ _ => trivial))
 (case aO => exact qo0)
 (case aS => exact (qab qan))
 (case aL => have := LMc5.out; omega)
 intro v109 w15 ho hb hg hat; rw [← qoe.out] at ho; replace HB := ak_ (hb); have qmU := ak_ (ho); clear qc6; clear ho hb hg hat; refine hK.out _ _ trivial (fun hHeld => ?_); clear hK K; refine nm_ 9 ?_; refine qfH (i := 9) (N := some 14) (rA_ [10, 1]) rfl rfl (qc4 HT_.out (by kernel_rfl)) (by decide) (fun K hK => ?_); refine Kd.qbY qaL (w0 := w) w.heap.size (by rfl) (.tmp 9) (.tmp 13) 26 85 (.agg #[(.int .i64 0), (.int .i64 0)]) 16 rfl Tryz.underlying26 qfT rfl (by decide) (by omega) v109 qiO qhZ _ _ _ (fun _ => True) (fun _ => False) rfl rfl ?aO ?aR (fun _ _ h => h) (fun _ h => h.elim) ?aF ?aB ?aS ?aL ?_
 (case aR => repeat (first | exact (Kd.qeg HR114.out HB.out) | (with_reducible refine Kd.C_alloc ?_ _) | (with_reducible refine Kd.C_drewN ?_ _) | (with_reducible refine Kd.C_drew ?_)))
 (case aB => exact qan)
 (case aF => exact (fun _ _ => trivial))
 (case aO => exact (by apply_rules only [qmU.out, Kd.qap, Kd.qaq, Kd.qaw]))
 (case aS => exact (qab qan))
 (case aL => have := LMc9.out; omega)
 intro v116 w16 ho hb hg hat; rw [← Ny115.out] at ho; replace HB := ak_ (hb); have HO117 := ak_ (ho); clear qmU; clear ho hb hg hat; refine hK.out _ _ trivial (fun hHeld => ?_); clear hK K; refine nm_ 14 ?_; refine pu_ 10 4 [11] ?_; refine qgu (qeC HT_.out (by kernel_rfl)) ?_
 try go_wp2
 go_ret
 exact ⟨_, by first | rfl | (simp [qd0, qd1] <;> rfl) | (simp only [← hji6]; first | rfl | (simp [qd0, qd1] <;> rfl)) | (simp [*, qd0, qd1] <;> rfl), by (with_reducible repeat (first | apply Kd.qap | apply Kd.qaq | apply Kd.qaw)); exact HO117.out, qan⟩
def qbu.l0 : Nat → List (qac) → Int → Int → List (qac) → Int → Option (Bool)
 | 0, _, _, _, _, _ => none
 | k + 1, x0, x1, x2, x7, x8 => if x8 < x2 then ((qcd.f k x7 x8).bind fun t105 => (if t105 = true then (some false) else (if 0 ≤ x1 then (if x1 < (x0.length : Int) then (qbu.l0 k x0 x1 x2 x7 (wrap64 (x8 + ((qae x0 x1).f0)))) else (none)) else (none)))) else (some true)
def qbu.f (k : Nat) (l0 : List (qac)) (a1 : Int) (a2 : Int) : Option (Bool) := (qbE.f l0 a1).bind fun qat => (if 0 ≤ a1 then (if a1 < (l0.length : Int) then (qbu.l0 k l0 a1 a2 qat ((qae l0 a1).f1)) else (none)) else (none))
theorem qbu.calls (k : Nat) (A0 : Option Addr) (c0 : Nat) (l0 : List (qac)) (a1 : Int) (a2 : Int) (r : Bool) (w : World) (hr0 : Kd.C qaL w A0 l0.length l0) (hc0 : l0.length ≤ c0) (h : qbu.f k l0 a1 a2 = some r) :
  Calls Tryz.prog 156 #[.slice A0 l0.length c0, .int .i64 a1, .int .i64 a2] w fun e w' => e = .returned (.bool r) ∧ Below w.heap.size w w' := by
 have HR0 := ak_ hr0; have HC0 := ak_ hc0; clear hr0 hc0; have HB := br_ w; have H : ((qbE.f l0 a1).bind fun qat => (if 0 ≤ a1 then (if a1 < (l0.length : Int) then (qbu.l0 k l0 a1 a2 qat ((qae l0 a1).f1)) else (none)) else (none))) = some r := h; clear h; obtain ⟨qat, A4, H⟩ := qay H; (try dsimp only at H); obtain ⟨c5, H⟩ := qck H; have qgJ := decide_eq_true c5; clear c5; obtain ⟨c6, H⟩ := qck H; have qgk := decide_eq_true c6; clear c6; have H' := ak_ H; clear H; go_enter Tryz.func156, Tryz.ntmps156
 go_wp2_with (first | (refine gl_ 11 Tryz.func98 #[.slice A0 l0.length c0, .int .i64 a1] rfl qbK ?_; (with_reducible refine (qbE.calls _ _ l0 a1 qat _ ?qaA ?qaB A4.out).mono ?_); (case qaA => exact qfN); (case qaB => exact qb5); rintro e w7 ⟨qit, rfl, ho0, hb⟩; refine ⟨_, rfl, ?_⟩; have qc6 := ak_ (Kd.qax ho0 (qab qan)); replace HB := HB.mw hb; (try clear hb ho0); have qhj : 0 ≤ (a1 : Int) := of_decide_eq_true qaO; have qhk : a1 < (l0.length : Int) := of_decide_eq_true qaO; obtain ⟨qhW, qne, qdX, qif⟩ := qdW HR0.out a1 qhj qhk; cases qne; replace qdX := (HB.out.cell (World.block_lt_of_cell? w _ qdX)).trans qdX; replace qif := (HB.out.cell (World.block_lt_of_cell? w _ qif)).trans qif; replace qhj := eq_true qhj; replace qhk := eq_true qhk))
 go_loopg [8] k (fun kq v8 w' => ∃ (qdh : Int), v8 = .int .i64 qdh ∧ qag (qbu.l0 kq l0 a1 a2 qat qdh = some r) ∧ qag (kq ≤ k) ∧ qag (Kd.R qaL 85 w' w.heap.size (fun _ => True) qit qat) ∧ qag (Below w.heap.size w w'))
 case atStart => exact ⟨((qae l0 a1).f1), qav, H', ⟨Nat.le_refl _⟩, ⟨qo0⟩, ⟨qan⟩⟩
 case round =>
  clear H'
  skip
  obtain ⟨qdh, rfl, HA, HK1, qgH, HB⟩ := hrel
  cases gk with
  | zero => exact absurd HA.out (by simp [qbu.l0])
  | succ k1 =>
   have H := HA.out; clear HA; simp only [qbu.l0] at H; by_cases c8 : qdh < a2; rotate_left
   ·rw [if_neg c8] at H; have qm4 := decide_eq_false c8; clear c8; obtain rfl := sj_ H; go_wp2
    go_ret
    exact ⟨qcf, qan⟩
   rw [if_pos c8] at H; have qm4 := decide_eq_true c8; clear c8; obtain ⟨t105, A9, H⟩ := qay H; (try dsimp only at H); by_cases c10 : t105 = true
   ·subst c10; rw [if_pos rfl] at H; obtain rfl := sj_ H; obtain ⟨Ao11, co11, eo11⟩ := Kd.qaI qgH.out; subst eo11
    go_wp2_with (first | (refine gl_ 29 Tryz.func173 #[.slice Ao11 qat.length co11, .int .i64 qdh] rfl qbK ?_; (with_reducible refine (qcd.calls k1 _ _ qat qdh true _ ?qaA ?qaB A9.out).mono ?_); (case qaA => exact k44_); (case qaB => exact (Kd.qao qgH.out).2.1); rintro e w12 ⟨rfl, hb⟩; refine ⟨_, rfl, ?_⟩; replace qgH := qgH.mw hb; replace HB := HB.mw hb; (try clear hb)))
    go_ret
    exact ⟨qcf, qan⟩
   replace c10 := Bool.eq_false_iff.mpr c10; subst c10; rw [if_neg ff_] at H; obtain ⟨c13, H⟩ := qck H; have qk6 := decide_eq_true c13; clear c13; obtain ⟨c14, H⟩ := qck H; have qj5 := decide_eq_true c14; clear c14; have H' := ak_ H; clear H; obtain ⟨Ao15, co15, eo15⟩ := Kd.qaI qgH.out; subst eo15
   go_wp2_with (first | (refine gl_ 29 Tryz.func173 #[.slice Ao15 qat.length co15, .int .i64 qdh] rfl qbK ?_; (with_reducible refine (qcd.calls k1 _ _ qat qdh false _ ?qaA ?qaB A9.out).mono ?_); (case qaA => exact k44_); (case qaB => exact (Kd.qao qgH.out).2.1); rintro e w16 ⟨rfl, hb⟩; refine ⟨_, rfl, ?_⟩; replace qgH := qgH.mw hb; replace HB := HB.mw hb; (try clear hb); have qfI : 0 ≤ (a1 : Int) := of_decide_eq_true qaO; have qfK : a1 < (l0.length : Int) := of_decide_eq_true qaO; obtain ⟨qgS, qjC, qcr, qig⟩ := qdW HR0.out a1 qfI qfK; obtain rfl : qhW = qgS := (by injection qjC); replace qcr := (HB.out.cell (World.block_lt_of_cell? w _ qcr)).trans qcr; replace qig := (HB.out.cell (World.block_lt_of_cell? w _ qig)).trans qig; replace qfI := eq_true qfI; replace qfK := eq_true qfK))
   go_roundg k1
   case measure => have := HK1.out; omega
   case rel => exact ⟨(wrap64 (qdh + ((qae l0 a1).f0))), qav, H', ⟨qcW⟩, ⟨qlC⟩, ⟨qan⟩⟩
mutual
def qaK.j0 : Nat → List (qac) → Bool → Option ((List (qac)) × Bool)
 | 0, _, _ => none
 | k + 1, x0, x14 => if x14 = true then (some (([] : List (qac)), false)) else ((qbh.f k x0).bind fun qce => ((some (([] : List (qac)) : List (qac))).bind fun qgF => (if qgF.length + x0.length < 8796093022208 then ((some (qgF ++ x0 : List (qac))).bind fun qfM => (qaK.l0 k qce qfM (wrap64 ((qfM.length : Int) - 1)))) else (none))))
def qaK.l0 : Nat → Int → List (qac) → Int → Option ((List (qac)) × Bool)
 | 0, _, _, _ => none
 | k + 1, x4, x5, x6 => if x6 ≥ 0 then ((qbu.f k x5 x6 x4).bind fun qlW => (if qlW = true then ((qbE.f x5 x6).bind fun qlX => (qaK.l0 k x4 qlX (wrap64 (x6 - 1)))) else (qaK.l0 k x4 x5 (wrap64 (x6 - 1))))) else (some (x5, true))
end
def qaK.f (k : Nat) (l0 : List (qac)) : Option ((List (qac)) × Bool) := (qaP.f k l0).bind fun qat => (if qat = true then ((qbh.f k l0).bind fun qaR => (qaK.j0 k l0 (qaR == 0))) else (qaK.j0 k l0 true))
theorem qaK.calls (k : Nat) (A0 : Option Addr) (c0 : Nat) (l0 : List (qac)) (r1 : List (qac)) (r2 : Bool) (w : World) (hr0 : Kd.C qaL w A0 l0.length l0) (hc0 : l0.length ≤ c0) (h : qaK.f k l0 = some (r1, r2)) :
  Calls Tryz.prog 102 #[.slice A0 l0.length c0] w fun e w' => ∃ v0_ : Value, e = .returned (.tuple #[v0_, .bool r2]) ∧ Kd.R qaL 85 w' w.heap.size (fun _ => True) v0_ r1 ∧ Below w.heap.size w w' := by
 have HR0 := ak_ hr0; have HC0 := ak_ hc0; clear hr0 hc0; have HB := br_ w; have H : ((qaP.f k l0).bind fun qat => (if qat = true then ((qbh.f k l0).bind fun qaR => (qaK.j0 k l0 (qaR == 0))) else (qaK.j0 k l0 true))) = some (r1, r2) := h; clear h; have HC2 := ak_ H; clear H; go_enter Tryz.func102, Tryz.ntmps102
 go_upto_region 1 with (fail)
 go_cut [14] (fun v14 wc => ∃ (kq : Nat) (qd4 : Bool), v14 = .bool qd4 ∧ qag (qaK.j0 kq l0 qd4 = some (r1, r2)) ∧ qag (kq ≤ k) ∧ qag (Below w.heap.size w wc))
 case first =>
  have H := HC2.out; clear HC2; obtain ⟨qat, A3, H⟩ := qay H; (try dsimp only at H); by_cases c4 : qat = true
  ·subst c4; rw [if_pos rfl] at H; obtain ⟨qaR, A5, H⟩ := qay H; (try dsimp only at H); have H' := ak_ H; clear H
   go_wp2_with (first | (refine gl_ 8 Tryz.func60 #[.slice A0 l0.length c0] rfl qbK ?_; (with_reducible refine (qaP.calls k _ _ l0 true _ ?qaA ?qaB A3.out).mono ?_); (case qaA => exact qha); (case qaB => exact qb5); rintro e w6 ⟨rfl, hb⟩; refine ⟨_, rfl, ?_⟩; replace HB := HB.mw hb; (try clear hb)) | (go_at_call 155; (with_reducible refine (qbh.calls k _ _ l0 qaR _ ?qaA ?qaB A5.out).mono ?_); (case qaA => exact qha); (case qaB => exact qb5); rintro e w7 ⟨rfl, hb⟩; replace HB := HB.mw hb; (try clear hb)))
   go_meet
   case rel => exact ⟨_, ((qaR == 0)), qav, H', ⟨qih⟩, ⟨qan⟩⟩
  replace c4 := Bool.eq_false_iff.mpr c4; subst c4; rw [if_neg ff_] at H; have H' := ak_ H; clear H
  go_wp2_with (first | (refine gl_ 8 Tryz.func60 #[.slice A0 l0.length c0] rfl qbK ?_; (with_reducible refine (qaP.calls k _ _ l0 false _ ?qaA ?qaB A3.out).mono ?_); (case qaA => exact qha); (case qaB => exact qb5); rintro e w8 ⟨rfl, hb⟩; refine ⟨_, rfl, ?_⟩; replace HB := HB.mw hb; (try clear hb)))
  go_meet
  case rel => exact ⟨_, (true), qav, H', ⟨qih⟩, ⟨qan⟩⟩
 case rest =>
  clear HC2; obtain ⟨kq, qd4, rfl, HA, HJ1, HB⟩ := hcut
  cases kq with
  | zero => exact absurd HA.out (by simp [qaK.j0])
  | succ kj1 =>
   have H := HA.out; clear HA; simp only [qaK.j0] at H; by_cases c9 : qd4 = true
   ·subst c9; rw [if_pos rfl] at H; obtain ⟨rfl, rfl⟩ := qdF H; go_wp2
    go_ret2
    exact ⟨_, qcf, qgN, qan⟩
   replace c9 := Bool.eq_false_iff.mpr c9; subst c9; rw [if_neg ff_] at H; obtain ⟨qce, A10, H⟩ := qay H; (try dsimp only at H)
   obtain ⟨qgF, hy_⟩ : ∃ y_ : List (qac), y_ = (([] : List (qac))) := ⟨_, rfl⟩
   replace H : (if qgF.length + l0.length < 8796093022208 then ((some (qgF ++ l0 : List (qac))).bind fun qfM => (qaK.l0 kj1 qce qfM (wrap64 ((qfM.length : Int) - 1)))) else (none)) = some (r1, r2) := qe1; have qiu := ak_ hy_; clear hy_; obtain ⟨c11, H⟩ := qck H; have qoa := ak_ c11; clear c11
   obtain ⟨qfM, hy_⟩ : ∃ y_ : List (qac), y_ = (qgF ++ l0) := ⟨_, rfl⟩
   replace H : (qaK.l0 kj1 qce qfM (wrap64 ((qfM.length : Int) - 1))) = some (r1, r2) := qe1; have qjA := ak_ hy_; clear hy_; have H' := ak_ H; clear H
   go_wp2_with (first | (refine gl_ 16 Tryz.func155 #[.slice A0 l0.length c0] rfl qbK ?_; (with_reducible refine (qbh.calls kj1 _ _ l0 qce _ ?qaA ?qaB A10.out).mono ?_); (case qaA => exact qha); (case qaB => exact qb5); rintro e w12 ⟨rfl, hb⟩; refine ⟨_, rfl, ?_⟩; replace HB := HB.mw hb; (try clear hb)) | ((with_reducible refine qal (N := 17) rfl ?_); refine Kd.qhq qaL _ 85 ?hg (N := 17) ?hd (xs := ([] : List (qac))) (inner := []) (ok := fun _ => True) (okp := fun _ => True) ?hr ?hp (fun _ hk => hk) trivial (Below.refl _ _) (Nat.le_refl _) (by simp) ?_; (case hd => rfl); (case hg => rfl); (case hr => exact qbe); (case hp => exact (qef.none _ _)); intro v105 w13 qsp hb hg_ hnew_; clear hg_ hnew_; (first | rw [← qiu.out] at qsp | (simp only [Int.reduceToNat] at qsp; rw [← qiu.out] at qsp)); have qeh := ak_ (Kd.qax qsp (qab qan)); replace HB := HB.mw hb; clear hb qsp) | ((with_reducible refine qa2 (b := .append) (xs := #[.tmp 17, .tmp 18]) rfl ?_); at_builtin; refine Kd.qdK qaL (w0 := w) w.heap.size rfl (.tmp 17) (.tmp 18) 26 85 (.agg #[(.int .i64 0), (.int .i64 0)]) 16 rfl Tryz.underlying26 qfT rfl (by decide) (by omega) v105 qgF l0 _ _ _ (fun _ => True) (fun _ => False) rfl rfl ?aO ?aR (fun _ _ h => h) (fun _ h => h.elim) ?aF ?aB ?aS ?aL ?_; (case aR => repeat (first | exact (Kd.qeg HR0.out HB.out) | (with_reducible refine Kd.C_alloc ?_ _) | (with_reducible refine Kd.C_drewN ?_ _) | (with_reducible refine Kd.C_drew ?_))); (case aB => exact qan); (case aF => exact (fun _ _ => trivial)); (case aO => exact qsL); (case aS => exact (qab qan)); (case aL => have := qoa.out; omega); intro v108 w15 ho hb hg hat; rw [← qjA.out] at ho; replace HB := ak_ (hb); have qiT := ak_ (ho); clear qeh; clear ho hb hg hat; obtain ⟨Ao16, co16, eo16⟩ := Kd.qaI qiT.out; subst eo16))
   go_loopg [5, 6] kj1 (fun kq v5 v6 w' => ∃ (qfS : List (qac)) (qhn : Int), v6 = .int .i64 qhn ∧ qag (qaK.l0 kq qce qfS qhn = some (r1, r2)) ∧ qag (kq ≤ kj1) ∧ qag (Kd.R qaL 85 w' w.heap.size (fun _ => True) v5 qfS) ∧ qag (Below w.heap.size w w'))
   case atStart => exact ⟨(qfM), (wrap64 ((qfM.length : Int) - 1)), qav, H', ⟨Nat.le_refl _⟩, ⟨by apply_rules only [qiT.out, Kd.qap, Kd.qaq, Kd.qaw]⟩, ⟨qan⟩⟩
   case round =>
    clear H'; (try clear c9); (try clear c11); obtain ⟨qfS, qhn, rfl, HA, HK2, qgC, HB⟩ := hrel
    cases gk with
    | zero => exact absurd HA.out (by simp [qaK.l0])
    | succ k2 =>
     have H := HA.out; clear HA; simp only [qaK.l0] at H; by_cases c17 : qhn ≥ 0; rotate_left
     ·rw [if_neg c17] at H; have qrF : decide (0 ≤ qhn) = false := decide_eq_false c17; clear c17; obtain ⟨rfl, rfl⟩ := qdF H; go_wp2
      go_ret2
      exact ⟨_, qcf, k65_, qan⟩
     rw [if_pos c17] at H; have qrF : decide (0 ≤ qhn) = true := decide_eq_true c17; clear c17; obtain ⟨qlW, A18, H⟩ := qay H; (try dsimp only at H); by_cases c19 : qlW = true
     ·subst c19; rw [if_pos rfl] at H; obtain ⟨qlX, A20, H⟩ := qay H; (try dsimp only at H); have H' := ak_ H; clear H; obtain ⟨Ao21, co21, eo21⟩ := Kd.qaI qgC.out; subst eo21
      go_wp2_with (first | (refine gl_ 30 Tryz.func156 #[.slice Ao21 qfS.length co21, .int .i64 qhn, .int .i64 qce] rfl qbK ?_; (with_reducible refine (qbu.calls k2 _ _ qfS qhn qce true _ ?qaA ?qaB A18.out).mono ?_); (case qaA => exact k43_); (case qaB => exact (Kd.qao qgC.out).2.1); rintro e w22 ⟨rfl, hb⟩; refine ⟨_, rfl, ?_⟩; replace qgC := qgC.mw hb; replace HB := HB.mw hb; (try clear hb)) | (refine gl_ 33 Tryz.func98 #[.slice Ao21 qfS.length co21, .int .i64 qhn] rfl qbK ?_; (with_reducible refine (qbE.calls _ _ qfS qhn qlX _ ?qaA ?qaB A20.out).mono ?_); (case qaA => exact k43_); (case qaB => exact (Kd.qao qgC.out).2.1); rintro e w23 ⟨v112, rfl, ho0, hb⟩; refine ⟨_, rfl, ?_⟩; have qrh := ak_ (Kd.qax (Kd.qh1 ho0 (Kd.qjI qn1)) (qab qan)); replace qgC := ak_ (Kd.qfB qn1 (Kd.qfj ho0) hb); replace HB := HB.mw hb; (try clear hb ho0)))
      go_roundg k2
      case measure => have := HJ1.out; have := HK2.out; omega
      case rel => exact ⟨(qlX), (wrap64 (qhn - 1)), qav, H', ⟨by have := HJ1.out; have := HK2.out; omega⟩, ⟨by (with_reducible repeat (first | apply Kd.qap | apply Kd.qaq | apply Kd.qaw)); exact Kd.qa9 qrh.out (fun _ hk => trivial)⟩, ⟨qan⟩⟩
     replace c19 := Bool.eq_false_iff.mpr c19; subst c19; rw [if_neg ff_] at H; have H' := ak_ H; clear H; obtain ⟨Ao24, co24, eo24⟩ := Kd.qaI qgC.out; subst eo24
     go_wp2_with (first | (refine gl_ 30 Tryz.func156 #[.slice Ao24 qfS.length co24, .int .i64 qhn, .int .i64 qce] rfl qbK ?_; (with_reducible refine (qbu.calls k2 _ _ qfS qhn qce false _ ?qaA ?qaB A18.out).mono ?_); (case qaA => exact k43_); (case qaB => exact (Kd.qao qgC.out).2.1); rintro e w25 ⟨rfl, hb⟩; refine ⟨_, rfl, ?_⟩; replace qgC := qgC.mw hb; replace HB := HB.mw hb; (try clear hb)))
     go_roundg k2
     case measure => have := HJ1.out; have := HK2.out; omega
     case rel => exact ⟨(qfS), (wrap64 (qhn - 1)), qav, H', ⟨by have := HJ1.out; have := HK2.out; omega⟩, ⟨qn1⟩, ⟨qan⟩⟩
def qcp.l0 : Nat → Int → Int → Option (Int)
 | 0, _, _ => none
 | k + 1, x0, x3 => if (wrap64 (x3 * x3)) ≤ x0 then (if x3 = 0 then (none) else (if (Int.tmod x0 x3) = 0 then (some x3) else (qcp.l0 k x0 (wrap64 (x3 + 1))))) else (some x0)
def qcp.f (k : Nat) (a0 : Int) : Option (Int) := qcp.l0 k a0 2
theorem qcp.calls (k : Nat) (a0 : Int) (r : Int) (w : World) (h : qcp.f k a0 = some r) :
  Calls Tryz.prog 209 #[.int .i64 a0] w fun e w' => e = .returned (.int .i64 r) ∧ qcN w w' := by
 have H : (qcp.l0 k a0 2) = some r := h; clear h; have H' := ak_ H; clear H; go_enter Tryz.func209, Tryz.ntmps209; go_wp2
 go_loopg [3] k (fun kq v3 w' => ∃ (qbx : Int), v3 = .int .i64 qbx ∧ qag (qcp.l0 kq a0 qbx = some r) ∧ qag (kq ≤ k) ∧ qcN w w')
 case atStart => exact ⟨(2), qav, H', ⟨Nat.le_refl _⟩, qcO⟩
 case round =>
  clear H'; obtain ⟨qbx, rfl, HA, HK1, ⟨m1, rfl⟩⟩ := hrel
  cases gk with
  | zero => exact absurd HA.out (by simp [qcp.l0])
  | succ k1 =>
   have H := HA.out; clear HA; simp only [qcp.l0] at H; by_cases c2 : (wrap64 (qbx * qbx)) ≤ a0; rotate_left
   ·rw [if_neg c2] at H; have qfr := decide_eq_false c2; clear c2; obtain rfl := sj_ H; go_wp2
    go_ret
    exact ⟨qav, qcO⟩
   rw [if_pos c2] at H; have qfr := decide_eq_true c2; clear c2; by_cases c3 : qbx = 0
   ·rw [if_pos c3] at H; exact absurd H (by simp)
   rw [if_neg c3] at H; have qfk : (qbx == 0) = false := beq_eq_false_iff_ne.mpr c3; have qmb : (qbx != 0) = true := bne_iff_ne.mpr c3; by_cases c4 : (Int.tmod a0 qbx) = 0
   ·rw [if_pos c4] at H; have qfx : ((Int.tmod a0 qbx) == 0) = true := beq_iff_eq.mpr c4; have qmK : ((Int.tmod a0 qbx) != 0) = false := bne_eq_false_iff_eq.mpr c4; clear c4; obtain rfl := sj_ H; go_wp2
    go_ret
    exact ⟨qav, qcO⟩
   rw [if_neg c4] at H; have qfx : ((Int.tmod a0 qbx) == 0) = false := beq_eq_false_iff_ne.mpr c4; have qmK : ((Int.tmod a0 qbx) != 0) = true := bne_iff_ne.mpr c4; have H' := ak_ H; clear H; go_wp2
   go_roundg k1
   case measure => have := HK1.out; omega
   case rel => exact ⟨(wrap64 (qbx + 1)), qav, H', ⟨qcW⟩, qcO⟩
def qe5.f (k : Nat) (a0 : Int) : Option (Bool) := if a0 ≥ 2 then ((qcp.f k a0).bind fun qat => (some (qat == a0))) else (some false)
theorem qe5.calls (k : Nat) (a0 : Int) (r : Bool) (w : World) (h : qe5.f k a0 = some r) :
  Calls Tryz.prog 210 #[.int .i64 a0] w fun e w' => e = .returned (.bool r) ∧ qcN w w' := by
 have H : (if a0 ≥ 2 then ((qcp.f k a0).bind fun qat => (some (qat == a0))) else (some false)) = some r := h; clear h; by_cases c2 : a0 ≥ 2
 ·rw [if_pos c2] at H; have qfr : decide (2 ≤ a0) = true := decide_eq_true c2; clear c2; obtain ⟨qat, A3, H⟩ := qay H; (try dsimp only at H); obtain rfl := sj_ H; go_enter Tryz.func210, Tryz.ntmps210
  go_wp2_with (first | (go_at_call 209; (with_reducible refine (qcp.calls k a0 qat _ A3.out).mono ?_); rintro e w' ⟨rfl, ⟨nd, rfl⟩⟩))
  go_ret
  exact ⟨qav, qcO⟩
 rw [if_neg c2] at H; have qfr : decide (2 ≤ a0) = false := decide_eq_false c2; clear c2; obtain rfl := sj_ H; go_enter Tryz.func210, Tryz.ntmps210; go_wp2
 go_ret
 exact ⟨qav, qcO⟩
def qcU.l0 : Nat → Int → List Int → Int → Option (List Int)
 | 0, _, _, _ => none
 | k + 1, x0, x3, x4 => if (x3.length : Int) < x0 then ((qe5.f k x4).bind fun qat => (if qat = true then (if x3.length < 17592186044416 then (qcU.l0 k x0 (x3 ++ [x4]) (wrap64 (x4 + 1))) else (none)) else (qcU.l0 k x0 x3 (wrap64 (x4 + 1))))) else (some x3)
def qcU.f (k : Nat) (a0 : Int) : Option (List Int) := qcU.l0 k a0 ([] : List Int) 2
theorem qcU.calls (k : Nat) (a0 : Int) (r : List Int) (w : World) (h : qcU.f k a0 = some r) :
  Calls Tryz.prog 202 #[.int .i64 a0] w fun e w' => ∃ v0_ : Value, e = .returned (v0_) ∧ Kd.R (Kd.int .i64) 3 w' w.heap.size (fun _ => True) v0_ r ∧ Below w.heap.size w w' := by
 have HB := br_ w; have H : (qcU.l0 k a0 ([] : List Int) 2) = some r := h; clear h; have H' := ak_ H; clear H; go_enter Tryz.func202, Tryz.ntmps202; go_wp2
 go_loopg [3, 4] k (fun kq v3 v4 w' => ∃ (qbx : List Int) (qcM : Int), v4 = .int .i64 qcM ∧ qag (qcU.l0 kq a0 qbx qcM = some r) ∧ qag (kq ≤ k) ∧ qag (Kd.R (Kd.int .i64) 3 w' w.heap.size (fun _ => True) v3 qbx) ∧ qag (Below w.heap.size w w'))
 case atStart => exact ⟨(([] : List Int)), (2), qav, H', ⟨Nat.le_refl _⟩, ⟨qgN⟩, ⟨qan⟩⟩
 case round =>
  clear H'; obtain ⟨qbx, qcM, rfl, HA, HK1, qdq, HB⟩ := hrel
  cases gk with
  | zero => exact absurd HA.out (by simp [qcU.l0])
  | succ k1 =>
   have H := HA.out; clear HA; simp only [qcU.l0] at H; by_cases c2 : (qbx.length : Int) < a0; rotate_left
   ·rw [if_neg c2] at H; have qfr := decide_eq_false c2; clear c2; obtain rfl := sj_ H; obtain ⟨Ao9, co9, eo9⟩ := Kd.qaI qdq.out; subst eo9; go_wp2
    go_ret
    exact ⟨_, qcf, k64_, qan⟩
   rw [if_pos c2] at H; have qfr := decide_eq_true c2; clear c2; obtain ⟨qat, A3, H⟩ := qay H; (try dsimp only at H); by_cases c4 : qat = true; rotate_left
   ·replace c4 := Bool.eq_false_iff.mpr c4; subst c4; rw [if_neg ff_] at H; have H' := ak_ H; clear H; obtain ⟨Ao8, co8, eo8⟩ := Kd.qaI qdq.out; subst eo8
    go_wp2_with (first | (refine gl_ 12 Tryz.func210 #[.int .i64 qcM] rfl qbK ?_; (with_reducible refine (qe5.calls k1 qcM false _ A3.out).mono ?_); rintro e w' ⟨rfl, ⟨nd, rfl⟩⟩; refine ⟨_, rfl, ?_⟩))
    go_roundg k1
    case measure => have := HK1.out; omega
    case rel => exact ⟨(qbx), (wrap64 (qcM + 1)), qav, H', ⟨qcW⟩, ⟨qhX⟩, ⟨qan⟩⟩
   subst c4; rw [if_pos rfl] at H; obtain ⟨c5, H⟩ := qck H; have LMc5 := ak_ c5; clear c5
   obtain ⟨qiR, hy_⟩ : ∃ y_ : List Int, y_ = (qbx ++ [qcM]) := ⟨_, rfl⟩
   replace H : (qcU.l0 k1 a0 qiR (wrap64 (qcM + 1))) = some r := qe1; have qgP := ak_ hy_; clear hy_; have H' := ak_ H; clear H; obtain ⟨Ao6, co6, eo6⟩ := Kd.qaI qdq.out; subst eo6
   go_wp2_with (first | (refine gl_ 12 Tryz.func210 #[.int .i64 qcM] rfl qbK ?_; (with_reducible refine (qe5.calls k1 qcM true _ A3.out).mono ?_); rintro e w' ⟨rfl, ⟨nd, rfl⟩⟩; refine ⟨_, rfl, ?_⟩) | ((with_reducible refine qa2 (b := .append) (xs := #[.tmp 13, .tmp 15]) rfl ?_); at_builtin; refine Kd.qcH (Kd.int .i64) (w0 := w) w.heap.size rfl (.tmp 13) (.tmp 15) 48 3 (.int .i64 0) 8 rfl Tryz.underlying48 info3 rfl (by decide) (by omega) (.slice Ao6 qbx.length co6) qbx qcM [.int .i64 qcM] (fun _ => True) (fun _ => False) rfl rfl ?aP (fun _ hk => hk.elim) ?aF ?aO ?aB ?aS ?aL ?_; (case aP => exact rfl); (case aB => exact qan); (case aF => exact (fun _ _ => trivial)); (case aO => exact qhX); (case aS => exact (qab qan)); (case aL => have := LMc5.out; omega); intro qhm w7 ho hb hg hat; rw [← qgP.out] at ho; replace HB := ak_ (hb); have qb1 := ak_ (ho); clear qdq; clear ho hb hg hat))
   go_roundg k1
   case measure => have := HK1.out; omega
   case rel => exact ⟨(qiR), (wrap64 (qcM + 1)), qav, H', ⟨qcW⟩, ⟨qra⟩, ⟨qan⟩⟩
def qci.l0 : Nat → List (qac) → List Int → Int → Int → Option ((List (qac)))
 | 0, _, _, _, _ => none
 | k + 1, x3, x7, x8, x9 => if x9 < x8 then (if 0 ≤ x9 then (if x9 < (x7.length : Int) then (if x3.length < 8796093022208 then (qci.l0 k (x3 ++ [(⟨rd x7 x9, 0⟩ : qac)]) x7 x8 (wrap64 (x9 + 1))) else (none)) else (none)) else (none)) else (some x3)
def qci.f (k : Nat) (a0 : Int) : Option ((List (qac))) := (qcU.f k a0).bind fun qat => (qci.l0 k ([] : List (qac)) qat (qat.length : Int) 0)
theorem qci.calls (k : Nat) (a0 : Int) (r : List (qac)) (w : World) (h : qci.f k a0 = some r) :
  Calls Tryz.prog 143 #[.int .i64 a0] w fun e w' => ∃ v0_ : Value, e = .returned (v0_) ∧ Kd.R qaL 85 w' w.heap.size (fun _ => True) v0_ r ∧ Below w.heap.size w w' := by
 have qmM := Tryz.underlying85; have HB := br_ w; have H : ((qcU.f k a0).bind fun qat => (qci.l0 k ([] : List (qac)) qat (qat.length : Int) 0)) = some r := h; clear h; obtain ⟨qat, A2, H⟩ := qay H; (try dsimp only at H); have H' := ak_ H; clear H; go_enter Tryz.func143, Tryz.ntmps143
 go_wp2_with (first | (refine gl_ 7 Tryz.func202 #[.int .i64 a0] rfl qbK ?_; (with_reducible refine (qcU.calls k a0 qat _ A2.out).mono ?_); rintro e w3 ⟨qit, rfl, ho0, hb⟩; refine ⟨_, rfl, ?_⟩; have qc6 := ak_ (Kd.qax ho0 (qab qan)); replace HB := HB.mw hb; (try clear hb ho0); obtain ⟨Ao4, co4, eo4⟩ := Kd.qaI qc6.out; subst eo4))
 go_loopg [3, 9] k (fun kq v3 v9 w' => ∃ (qbx : List (qac)) (qdp : Int), v9 = .int .i64 qdp ∧ qag (qci.l0 kq qbx qat (qat.length : Int) qdp = some r) ∧ qag (kq ≤ k) ∧ qag (Kd.R qaL 85 w' w.heap.size (fun _ => True) v3 qbx) ∧ qag (Kd.R (Kd.int .i64) 3 w' w.heap.size (fun _ => True) (.slice Ao4 qat.length co4) qat) ∧ qag (Below w.heap.size w w'))
 case atStart => exact ⟨(([] : List (qac))), (0), qav, H', ⟨Nat.le_refl _⟩, ⟨qgN⟩, ⟨qo0⟩, ⟨qan⟩⟩
 case round =>
  clear H'; obtain ⟨qbx, qdp, rfl, HA, HK1, qdq, qgH, HB⟩ := hrel
  cases gk with
  | zero => exact absurd HA.out (by simp [qci.l0])
  | succ k1 =>
   have H := HA.out; clear HA; simp only [qci.l0] at H; by_cases c5 : qdp < (qat.length : Int); rotate_left
   ·rw [if_neg c5] at H; have qgJ := decide_eq_false c5; clear c5; obtain rfl := sj_ H; go_wp2
    go_ret
    exact ⟨_, qcf, k64_, qan⟩
   rw [if_pos c5] at H; have qgJ := decide_eq_true c5; clear c5; obtain ⟨c6, H⟩ := qck H; have qgk := decide_eq_true c6; clear c6; obtain ⟨c7, H⟩ := qck H; have qgU := decide_eq_true c7; clear c7; obtain ⟨c8, H⟩ := qck H; have LMc8 := ak_ c8; clear c8
   obtain ⟨qhY, hy_⟩ : ∃ y_ : List (qac), y_ = (qbx ++ [(⟨rd qat qdp, 0⟩ : qac)]) := ⟨_, rfl⟩
   replace H : (qci.l0 k1 qhY qat (qat.length : Int) (wrap64 (qdp + 1))) = some r := qe1; have qhp := ak_ hy_; clear hy_; have H' := ak_ H; clear H; have qhj : 0 ≤ (qdp : Int) := of_decide_eq_true qaO; have qhk : qdp < (qat.length : Int) := of_decide_eq_true qaO; obtain ⟨qhW, qne, qdX⟩ := Kd.qdO (Kd.qao qgH.out).2.2 qdp qhj qhk
   cases qne
   replace qhj := eq_true qhj; replace qhk := eq_true qhk
   go_wp2_with (first | ((with_reducible refine qa2 (b := .append) (xs := #[.tmp 13, .tmp 16]) rfl ?_); at_builtin; refine Kd.qcH qaL (w0 := w) w.heap.size rfl (.tmp 13) (.tmp 16) 26 85 (.agg #[(.int .i64 0), (.int .i64 0)]) 16 rfl Tryz.underlying26 qfT rfl (by decide) (by omega) u3 qbx (⟨rd qat qdp, 0⟩ : qac) [.int .i64 (rd qat qdp), .int .i64 0] (fun _ => True) (fun _ => False) rfl rfl ?aP (fun _ hk => hk.elim) ?aF ?aO ?aB ?aS ?aL ?_; (case aP => exact qdm _ _ _ (⟨rd qat qdp, 0⟩ : qac)); (case aB => exact qan); (case aF => exact (fun _ _ => trivial)); (case aO => exact qhX); (case aS => exact (qab qan)); (case aL => have := LMc8.out; omega); intro qq6 w9 ho hb hg hat; rw [← qhp.out] at ho; replace qgH := ak_ (Kd.qfw qlC (Kd.qe7 qhX) (by decide) hg); replace HB := ak_ (hb); have qe2 := ak_ (ho); clear qdq; clear ho hb hg hat))
   go_roundg k1
   case measure => have := HK1.out; omega
   case rel => exact ⟨(qhY), (wrap64 (qdp + 1)), qav, H', ⟨qcW⟩, ⟨by apply_rules only [qe2.out, Kd.qap, Kd.qaq, Kd.qaw]⟩, ⟨qlC⟩, ⟨qan⟩⟩
def qgp.f (a0 : Int) : Option (Bool) := (qbi.f a0 0 12).bind fun qat => (some qat)
theorem qgp.calls (a0 : Int) (r : Bool) (w : World) (h : qgp.f a0 = some r) :
  Calls Tryz.prog 157 #[.int .i64 a0] w fun e w' => e = .returned (.bool r) ∧ qcN w w' := by
 have H : ((qbi.f a0 0 12).bind fun qat => (some qat)) = some r := h; clear h; obtain ⟨qat, A2, H⟩ := qay H; (try dsimp only at H); obtain rfl := sj_ H; go_enter Tryz.func157, Tryz.ntmps157
 go_wp2_with (first | (refine gl_ 4 Tryz.func93 #[.int .i64 a0, .int .i64 0, .int .i64 12] rfl qbK ?_; (with_reducible refine (qbi.calls a0 0 12 qat _ A2.out).mono ?_); rintro e w' ⟨rfl, ⟨nd, rfl⟩⟩; refine ⟨_, rfl, ?_⟩))
 go_ret
 exact ⟨qav, qcO⟩
def qcE.f (k : Nat) (a0 : Int) : Option ((List (qac)) × Bool) := (qgp.f a0).bind fun qat => (if qat = true then ((qci.f k a0).bind fun qaR => (some (qaR, true))) else (some (([] : List (qac)), false)))
theorem qcE.calls (k : Nat) (a0 : Int) (r1 : List (qac)) (r2 : Bool) (w : World) (h : qcE.f k a0 = some (r1, r2)) :
  Calls Tryz.prog 103 #[.int .i64 a0] w fun e w' => ∃ v0_ : Value, e = .returned (.tuple #[v0_, .bool r2]) ∧ Kd.R qaL 85 w' w.heap.size (fun _ => True) v0_ r1 ∧ Below w.heap.size w w' := by
 have HB := br_ w; have H : ((qgp.f a0).bind fun qat => (if qat = true then ((qci.f k a0).bind fun qaR => (some (qaR, true))) else (some (([] : List (qac)), false)))) = some (r1, r2) := h; clear h; obtain ⟨qat, A2, H⟩ := qay H; (try dsimp only at H); by_cases c3 : qat = true
 ·subst c3; rw [if_pos rfl] at H; obtain ⟨qaR, A4, H⟩ := qay H; (try dsimp only at H); obtain ⟨rfl, rfl⟩ := qdF H; go_enter Tryz.func103, Tryz.ntmps103
  go_wp2_with (first | (refine gl_ 5 Tryz.func157 #[.int .i64 a0] rfl qbK ?_; (with_reducible refine (qgp.calls a0 true _ A2.out).mono ?_); rintro e w' ⟨rfl, ⟨nd, rfl⟩⟩; refine ⟨_, rfl, ?_⟩) | (refine gl_ 8 Tryz.func143 #[.int .i64 a0] rfl qbK ?_; (with_reducible refine (qci.calls k a0 qaR _ A4.out).mono ?_); rintro e w5 ⟨qhm, rfl, ho0, hb⟩; refine ⟨_, rfl, ?_⟩; have qb1 := ak_ (Kd.qax ho0 (qab qan)); replace HB := HB.mw hb; (try clear hb ho0)))
  go_ret2
  exact ⟨_, qcf, k63_, qan⟩
 replace c3 := Bool.eq_false_iff.mpr c3; subst c3; rw [if_neg ff_] at H; obtain ⟨rfl, rfl⟩ := qdF H; go_enter Tryz.func103, Tryz.ntmps103
 go_wp2_with (first | (refine gl_ 5 Tryz.func157 #[.int .i64 a0] rfl qbK ?_; (with_reducible refine (qgp.calls a0 false _ A2.out).mono ?_); rintro e w' ⟨rfl, ⟨nd, rfl⟩⟩; refine ⟨_, rfl, ?_⟩))
 go_ret2
 exact ⟨_, qcf, qgN, qan⟩
def qfb.f (a0 : Int) : Option (Bool) := (qbi.f a0 0 600).bind fun qat => (some qat)
theorem qfb.calls (a0 : Int) (r : Bool) (w : World) (h : qfb.f a0 = some r) :
  Calls Tryz.prog 61 #[.int .i64 a0] w fun e w' => e = .returned (.bool r) ∧ qcN w w' := by
 have H : ((qbi.f a0 0 600).bind fun qat => (some qat)) = some r := h; clear h; obtain ⟨qat, A2, H⟩ := qay H; (try dsimp only at H); obtain rfl := sj_ H; go_enter Tryz.func61, Tryz.ntmps61
 go_wp2_with (first | (refine gl_ 4 Tryz.func93 #[.int .i64 a0, .int .i64 0, .int .i64 600] rfl qbK ?_; (with_reducible refine (qbi.calls a0 0 600 qat _ A2.out).mono ?_); rintro e w' ⟨rfl, ⟨nd, rfl⟩⟩; refine ⟨_, rfl, ?_⟩))
 go_ret
 exact ⟨qav, qcO⟩
def qey.f (k : Nat) (l0 : List (qac)) : Option (ByteArray × Bool) := (qaP.f k l0).bind fun qat => (if qat = true then ((qbo.f k l0).bind fun qaR => (some (qaR, true))) else (some ((⟨#[]⟩ : ByteArray), false)))
theorem qey.calls (k : Nat) (A0 : Option Addr) (c0 : Nat) (l0 : List (qac)) (r1 : ByteArray) (r2 : Bool) (w : World) (hr0 : Kd.C qaL w A0 l0.length l0) (hc0 : l0.length ≤ c0) (h : qey.f k l0 = some (r1, r2)) :
  Calls Tryz.prog 152 #[.slice A0 l0.length c0] w fun e w' => e = .returned (.tuple #[.string r1, .bool r2]) ∧ Below w.heap.size w w' := by
 have HR0 := ak_ hr0; have HC0 := ak_ hc0; clear hr0 hc0; have HB := br_ w; have H : ((qaP.f k l0).bind fun qat => (if qat = true then ((qbo.f k l0).bind fun qaR => (some (qaR, true))) else (some ((⟨#[]⟩ : ByteArray), false)))) = some (r1, r2) := h; clear h; obtain ⟨qat, A2, H⟩ := qay H; (try dsimp only at H); by_cases c3 : qat = true
 ·subst c3; rw [if_pos rfl] at H; obtain ⟨qaR, A4, H⟩ := qay H; (try dsimp only at H); obtain ⟨rfl, rfl⟩ := qdF H; go_enter Tryz.func152, Tryz.ntmps152
  go_wp2_with (first | (refine gl_ 5 Tryz.func60 #[.slice A0 l0.length c0] rfl qbK ?_; (with_reducible refine (qaP.calls k _ _ l0 true _ ?qaA ?qaB A2.out).mono ?_); (case qaA => exact qfN); (case qaB => exact qb5); rintro e w5 ⟨rfl, hb⟩; refine ⟨_, rfl, ?_⟩; replace HB := HB.mw hb; (try clear hb)) | (refine gl_ 8 Tryz.func207 #[.slice A0 l0.length c0] rfl qbK ?_; (with_reducible refine (qbo.calls k _ _ l0 qaR _ ?qaA ?qaB A4.out).mono ?_); (case qaA => exact qha); (case qaB => exact qb5); rintro e w6 ⟨rfl, hb⟩; refine ⟨_, rfl, ?_⟩; replace HB := HB.mw hb; (try clear hb)))
  go_ret2
  exact ⟨qcf, qan⟩
 replace c3 := Bool.eq_false_iff.mpr c3; subst c3; rw [if_neg ff_] at H; obtain ⟨rfl, rfl⟩ := qdF H; go_enter Tryz.func152, Tryz.ntmps152
 go_wp2_with (first | (refine gl_ 5 Tryz.func60 #[.slice A0 l0.length c0] rfl qbK ?_; (with_reducible refine (qaP.calls k _ _ l0 false _ ?qaA ?qaB A2.out).mono ?_); (case qaA => exact qfN); (case qaB => exact qb5); rintro e w7 ⟨rfl, hb⟩; refine ⟨_, rfl, ?_⟩; replace HB := HB.mw hb; (try clear hb)))
 go_ret2
 exact ⟨qcf, qan⟩
def qch.f (k : Nat) (l0 : List (qac)) (a1 : Bool) : Option (ByteArray) := if a1 = true then ((qey.f k l0).bind fun qcR => (some qcR.1)) else (some (⟨#[110, 111]⟩ : ByteArray))
theorem qch.calls (k : Nat) (A0 : Option Addr) (c0 : Nat) (l0 : List (qac)) (a1 : Bool) (r : ByteArray) (w : World) (hr0 : Kd.C qaL w A0 l0.length l0) (hc0 : l0.length ≤ c0) (h : qch.f k l0 a1 = some r) :
  Calls Tryz.prog 99 #[.slice A0 l0.length c0, .bool a1] w fun e w' => e = .returned (.string r) ∧ Below w.heap.size w w' := by
 have HR0 := ak_ hr0; have HC0 := ak_ hc0; clear hr0 hc0; have HB := br_ w; have H : (if a1 = true then ((qey.f k l0).bind fun qcR => (some qcR.1)) else (some (⟨#[110, 111]⟩ : ByteArray))) = some r := h; clear h; by_cases c3 : a1 = true
 ·subst c3; rw [if_pos rfl] at H; obtain ⟨⟨qat, qaR⟩, A4, H⟩ := qay H; (try dsimp only at H); obtain rfl := sj_ H; go_enter Tryz.func99, Tryz.ntmps99
  go_wp2_with (first | (refine gl_ 11 Tryz.func152 #[.slice A0 l0.length c0] rfl qbK ?_; (with_reducible refine (qey.calls k _ _ l0 qat qaR _ ?qaA ?qaB A4.out).mono ?_); (case qaA => exact qfN); (case qaB => exact qb5); rintro e w5 ⟨rfl, hb⟩; refine ⟨_, rfl, ?_⟩; replace HB := HB.mw hb; (try clear hb)))
  go_ret
  exact ⟨qcf, qan⟩
 replace c3 := Bool.eq_false_iff.mpr c3; subst c3; rw [if_neg ff_] at H; obtain rfl := sj_ H; go_enter Tryz.func99, Tryz.ntmps99; go_wp2
 go_ret
 exact ⟨qcf, qan⟩
def qjY (w : World) (base g : Nat) (rs : List qac) (mo : Int) (lr : List qac) (tx : ByteArray) (n : Int) : Prop := ∃ A0 c0 A1 c1, w.heap[g]? = some (.cells #[.slice A0 rs.length c0, .int .i64 mo, .slice A1 lr.length c1, .string tx, .int .i64 n] 81 (0, 0)) ∧ Kd.R qaL 85 w base (fun _ => True) (.slice A0 rs.length c0) rs ∧ Kd.R qaL 85 w base (fun _ => True) (.slice A1 lr.length c1) lr
def qi2 (k : Nat) (rs xs : List qac) (ok : Bool) : Option (List qac × ByteArray) := (qch.f k xs ok).bind fun s => some (if ok = true then xs else rs, s)
theorem qfy (k base g : Nat) (A : Option Addr) (c : Nat) (xs : List qac) (ok : Bool) (rs : List qac) (mo : Int) (lr : List qac) (tx : ByteArray) (n : Int) (rs' : List qac) (txt : ByteArray) (w : World) (hD : qjY w base g rs mo lr tx n) (hR : Kd.R qaL 85 w base (fun _ => True) (.slice A xs.length c) xs) (h : qi2 k rs xs ok = some (rs', txt)) :
    Calls Tryz.prog 97 #[.pointer (some ⟨g, 0, none⟩), .slice A xs.length c, .bool ok] w fun e w' => e = .returned (.string txt) ∧ qjY w' base g rs' mo lr tx n ∧ qcv w w' g := by
  obtain ⟨A0, c0, A1_, c1, hC, hO, hL⟩ := hD; have HCw := ak_ hC; have HOw := ak_ hO; have HLw := ak_ hL; have HC := ak_ hC; have HO := ak_ hO; have HL := ak_ hL; have HB := br_ w; obtain ⟨qqH, qqB⟩ := qcx HC.out; have qqI := qbC HC.out; have qqC := qad HC.out 1; have hzw_2 := qfl HC.out; have hfw_2 := qad HC.out 2; have hzw_3 := qft HC.out; have hfw_3 := qad HC.out 3; have hzw_4 := qfu HC.out; have hfw_4 := qad HC.out 4; clear hC hO hL; have HX := ak_ hR; clear hR; unfold qi2 at h; obtain ⟨s, A1, h⟩ := qay h; simp only [Option.some.injEq, Prod.mk.injEq] at h
  cases ok with
  | false =>
    rw [if_neg (by decide)] at h; obtain ⟨rfl, rfl⟩ := h; go_enter Tryz.func97, Tryz.ntmps97
    go_wp2_with (first | (refine gl_ 15 Tryz.func99 #[.slice A xs.length c, .bool false] rfl qbZ ?_; (refine (qch.calls k _ _ xs false s _ qqM (Kd.qao HX.out).2.1 A1.out).mono ?_); rintro e wa ⟨rfl, hb⟩; refine ⟨_, rfl, ?_⟩; have HB2 := ak_ hb; clear hb))
    go_ret
    exact ⟨rfl, ⟨A0, c0, A1_, c1, qar qqO HB2.out, Kd.qbv k94_ HB2.out, Kd.qbv (by apply_rules only [HL.out, Kd.qap, Kd.qaq, Kd.qaw]) HB2.out⟩, (qcv.qbS qan g).trans (qcv.qbS HB2.out g)⟩
  | true =>
    rw [if_pos rfl] at h; obtain ⟨rfl, rfl⟩ := h; go_enter Tryz.func97, Tryz.ntmps97
    go_wp2_with (first | (refine gl_ 15 Tryz.func99 #[.slice A xs.length c, .bool true] rfl qbZ ?_; (refine (qch.calls k _ _ xs true s _ k23_ (Kd.qao HX.out).2.1 A1.out).mono ?_); rintro e wa ⟨rfl, hb⟩; refine ⟨_, rfl, ?_⟩; have HB2 := ak_ hb; clear hb))
    go_ret
    exact ⟨rfl, ⟨A, c, A1_, c1, qar (qbl qqO 0 _ rfl) HB2.out, Kd.qbv (Kd.qgQ qmP qqO (by decide) 0 _) HB2.out, Kd.qbv (Kd.qgQ (by apply_rules only [HL.out, Kd.qap, Kd.qaq, Kd.qaw]) qqO (by decide) 0 _) HB2.out⟩, (qcv.set_ (qcv.qbS qan g) 0 _).trans (qcv.qbS HB2.out g)⟩
theorem R_empty (w : World) : Kd.R qaL 85 (w.alloc (.cells #[] 85)) w.heap.size (fun _ => True) (.slice (some ⟨w.heap.size, 0, none⟩) 0 0) [] := by
  have h := World.ownsRow_lit (base := w.heap.size) (e := 85) (size := 2) w #[] 0 (Nat.le_refl _) (by decide) rfl; exact ⟨fun _ _ => trivial, [], h, qef.none _ _⟩
def qdB.f (k : Nat) (rs : List qac) (mo : Int) (lr : List qac) (n : Int) (c : Cmd) : Option (List qac × Int × ByteArray) := match c with
  | .cRules => (qi2 k rs lr true).bind fun p => some (p.1, mo, p.2)
  | .cAdd => if rs.length + lr.length < 8796093022208 then (qi2 k rs (rs ++ lr) (decide (((rs ++ lr).length : Int) ≤ 12))).bind fun p => some (p.1, mo, p.2) else none
  | .cDrop => if n ≥ (rs.length : Int) then some (rs, mo, (⟨#[110, 111]⟩ : ByteArray)) else (qbE.f rs n).bind fun xs => (qi2 k rs xs true).bind fun p => some (p.1, mo, p.2)
  | .cMost => (qfb.f n).bind fun t => if t = true then ((qch.f k rs true).bind fun s => some (rs, n, s)) else some (rs, mo, (⟨#[110, 111]⟩ : ByteArray))
  | .cMove => (qaN.f k rs n).bind fun q => (qi2 k rs q.1 q.2).bind fun p => some (p.1, mo, p.2)
  | .cMirror => (qa4.f k rs).bind fun q => (qi2 k rs q.1 q.2).bind fun p => some (p.1, mo, p.2)
  | .cTidy => (qaK.f k rs).bind fun q => (qi2 k rs q.1 q.2).bind fun p => some (p.1, mo, p.2)
  | .cPrimes => (qcE.f k n).bind fun q => (qi2 k rs q.1 q.2).bind fun p => some (p.1, mo, p.2)
  | _ => none
theorem qo8 (k base g : Nat) (rs : List qac) (mo : Int) (lr : List qac) (tx : ByteArray) (n : Int) (c : Cmd) (rs' : List qac) (mo' : Int) (txt : ByteArray) (w : World) (hbase : base ≤ w.heap.size) (hD : qjY w base g rs mo lr tx n) (hl : rs.length < 8796093022208) (h : qdB.f k rs mo lr n c = some (rs', mo', txt)) :
    Calls Tryz.prog 63 #[.pointer (some ⟨g, 0, none⟩), .string c.word] w fun e w' => e = .returned (.string txt) ∧ qjY w' base g rs' mo' lr tx n ∧ qcv w w' g := by
  obtain ⟨A0, c0, A1_, c1, hC, hO, hL⟩ := hD; have HCw := ak_ hC; have HOw := ak_ hO; have HLw := ak_ hL; have HC := ak_ hC; have HO := ak_ hO; have HL := ak_ hL; have HB := br_ w; obtain ⟨qqH, qqB⟩ := qcx HC.out; have qqI := qbC HC.out; have qqC := qad HC.out 1; have hzw_2 := qfl HC.out; have hfw_2 := qad HC.out 2; have hzw_3 := qft HC.out; have hfw_3 := qad HC.out 3; have hzw_4 := qfu HC.out; have hfw_4 := qad HC.out 4; have HBS := ak_ hbase; have HLn := ak_ hl; have SM := ak_ (show ∀ w' : World, Below w.heap.size w w' → qjY w' base g rs mo lr tx n ∧ qcv w w' g from fun w' h_ => ⟨⟨A0, c0, A1_, c1, qar HCw.out h_, Kd.qbv HOw.out h_, Kd.qbv HLw.out h_⟩, qcv.qbS h_ g⟩); clear hC hO hL hbase hl; unfold qdB.f at h
  match c, h with
  | .cRules, h =>
    simp only [Cmd.word, Cmd.bytes]; dsimp only at h; obtain ⟨⟨rs1, qje⟩, A1, h⟩ := qay h; (try dsimp only at h); obtain ⟨rfl, rfl, rfl⟩ := qfJ h; have HX := HL; go_enter Tryz.func63, Tryz.ntmps63
    go_wp2_with (first | (refine gl_ 20 Tryz.func97 #[.pointer (some ⟨g, 0, none⟩), .slice A1_ lr.length c1, .bool true] rfl qbZ ?_; (refine (qfy k base g A1_ c1 lr true rs mo lr tx n rs1 qje _ (SM.out _ qan).1 qmP A1.out).mono ?_); rintro e w9 ⟨rfl, hD, hk⟩; refine ⟨_, rfl, ?_⟩; have HD := ak_ hD; have HKb := ak_ (qcv.trans (qcv.qbS qan g) hk); clear hD hk))
    go_ret
    exact ⟨rfl, HD.out, HKb.out⟩
  | .cAdd, h =>
    simp only [Cmd.word, Cmd.bytes]; dsimp only at h; by_cases hlq : rs.length + lr.length < 8796093022208; rotate_left
    ·rw [if_neg hlq] at h; exact absurd h (by simp)
    rw [if_pos hlq] at h; have HLq := ak_ hlq
    obtain ⟨ys, hys⟩ : ∃ ys, rs ++ lr = ys := ⟨_, rfl⟩
    rw [hys] at h; have HYE := ak_ hys; clear hlq hys; obtain ⟨⟨rs1, qje⟩, A1, h⟩ := qay h; (try dsimp only at h); obtain ⟨rfl, rfl, rfl⟩ := qfJ h; have hqA_ : (w.alloc (.cells #[] 85)).cell? ⟨g, 2, none⟩ = some (.slice A1_ lr.length c1) := (qba (qar HCw.out (qai (Below.refl _ _) _)) 2).trans rfl; have hnA_ := World.new_ne w _ hzw_2; go_enter Tryz.func63, Tryz.ntmps63; go_wp2
    go_region_law (first | (refine Kd.qbY qaL (w0 := w) w.heap.size ?hw (.tmp 23) (.tmp 24) 26 85 (.agg #[(.int .i64 0), (.int .i64 0)]) 16 rfl Tryz.underlying26 qcY rfl ?h2 ?h3 (.slice (some ⟨w.heap.size, 0, none⟩) 0 0) [] rs _ _ _ (fun _ => True) (fun _ => False) rfl rfl ?aO ?aR (fun _ _ h => h) (fun _ h => h.elim) ?aF ?aB ?aS ?aL ?_; (case hw => rfl); (case h2 => decide); (case h3 => omega); (case aR => exact (Kd.qao (Kd.qbv HOw.out qan)).2.2); (case aB => exact qan); (case aF => exact (fun _ _ => trivial)); (case aO => exact (by apply_rules only [R_empty, Kd.qap, Kd.qaq, Kd.qaw])); (case aS => exact (qab qan)); (case aL => have := HLn.out; have := HLq.out; (try simp only [List.length_nil]); omega); intro v25 w25 ho hb _ _; rw [List.nil_append] at ho; have HV2 := ak_ ho; obtain ⟨Ay, cy, ey⟩ := Kd.qaI HV2.out; subst ey; replace HB := ak_ hb; have hqw25_2 : w25.cell? ⟨g, 2, none⟩ = some (.slice A1_ lr.length c1) := (qba (qar HCw.out hb) 2).trans rfl; clear ho hb) | (refine Kd.qbY qaL (w0 := w) w.heap.size ?hw (.tmp 25) (.tmp 29) 26 85 (.agg #[(.int .i64 0), (.int .i64 0)]) 16 rfl Tryz.underlying26 qcY rfl ?h2 ?h3 (.slice Ay rs.length cy) rs lr _ _ _ (fun _ => True) (fun _ => False) rfl rfl ?aO ?aR (fun _ _ h => h) (fun _ h => h.elim) ?aF ?aB ?aS ?aL ?_; (case hw => rfl); (case h2 => decide); (case h3 => omega); (case aR => exact (Kd.qao (Kd.qbv HLw.out qan)).2.2); (case aB => exact qan); (case aF => exact (fun _ _ => trivial)); (case aO => exact (by apply_rules only [HV2.out, Kd.qap, Kd.qaq, Kd.qaw])); (case aS => exact (qab qan)); (case aL => have := HLn.out; have := HLq.out; (try simp only [List.length_nil]); omega); intro v30 w30 ho hb _ _; rw [HYE.out] at ho; have HX := ak_ (Kd.qax ho HBS.out); obtain ⟨Ax, cx, ex⟩ := Kd.qaI HX.out; subst ex; replace HB := ak_ hb; have hqw30_2 : w30.cell? ⟨g, 2, none⟩ = some (.slice A1_ lr.length c1) := (qba (qar HCw.out hb) 2).trans rfl; clear ho hb))
    all_goals (go_wp2_with (first | (refine gl_ 36 Tryz.func97 #[.pointer (some ⟨g, 0, none⟩), .slice Ax ys.length cx, .bool (decide ((ys.length : Int) ≤ 12))] rfl qbZ ?_; (refine (qfy k base g Ax cx ys (decide ((ys.length : Int) ≤ 12)) rs mo lr tx n rs1 qje _ (SM.out _ qan).1 qmP A1.out).mono ?_); rintro e w9 ⟨rfl, hD, hk⟩; refine ⟨_, rfl, ?_⟩; have HD := ak_ hD; have HKb := ak_ (qcv.trans (qcv.qbS qan g) hk); clear hD hk)); go_ret; exact ⟨rfl, HD.out, HKb.out⟩)
  | .cDrop, h =>
    simp only [Cmd.word, Cmd.bytes]; dsimp only at h; by_cases hn : n ≥ (rs.length : Int)
    ·rw [if_pos hn] at h; obtain ⟨rfl, rfl, rfl⟩ := qfJ h; have hnb : decide ((rs.length : Int) ≤ n) = true := decide_eq_true hn; clear hn; go_enter Tryz.func63, Tryz.ntmps63; go_wp2
     go_ret
     exact ⟨rfl, SM.out _ qan⟩
    rw [if_neg hn] at h; obtain ⟨xs, A1, h⟩ := qay h; (try dsimp only at h); obtain ⟨⟨rs1, qje⟩, A2, h⟩ := qay h; (try dsimp only at h); obtain ⟨rfl, rfl, rfl⟩ := qfJ h; have hnb : decide ((rs.length : Int) ≤ n) = false := decide_eq_false hn; clear hn; go_enter Tryz.func63, Tryz.ntmps63
    go_wp2_with (first | (refine gl_ 52 Tryz.func98 #[.slice A0 rs.length c0, .int .i64 n] rfl qbZ ?_; (refine (qbE.calls _ _ rs n xs _ qjp (Kd.qao HO.out).2.1 A1.out).mono ?_); rintro e w2 ⟨vx, rfl, hox, hb⟩; refine ⟨_, rfl, ?_⟩; have HX := ak_ (Kd.qax hox (Nat.le_trans HBS.out (qab qan))); clear hox; obtain ⟨Ax, cx, ex⟩ := Kd.qaI HX.out; subst ex; replace HB := ak_ (qaa qan hb); clear hb) | (refine gl_ 53 Tryz.func97 #[.pointer (some ⟨g, 0, none⟩), .slice Ax xs.length cx, .bool true] rfl qbZ ?_; (refine (qfy k base g Ax cx xs true rs mo lr tx n rs1 qje _ (SM.out _ qan).1 qmP A2.out).mono ?_); rintro e w9 ⟨rfl, hD, hk⟩; refine ⟨_, rfl, ?_⟩; have HD := ak_ hD; have HKb := ak_ (qcv.trans (qcv.qbS qan g) hk); clear hD hk))
    go_ret
    exact ⟨rfl, HD.out, HKb.out⟩
  | .cMost, h =>
    simp only [Cmd.word, Cmd.bytes]; dsimp only at h; obtain ⟨t, A1, h⟩ := qay h
    cases t with
    | false =>
      rw [if_neg (by decide)] at h; obtain ⟨rfl, rfl, rfl⟩ := qfJ h; go_enter Tryz.func63, Tryz.ntmps63
      go_wp2_with (first | (refine gl_ 60 Tryz.func61 #[.int .i64 n] rfl qbZ ?_; (refine ((qfb.calls n false _ A1.out)).mono ?_); rintro e w4 ⟨rfl, hd_⟩; refine ⟨_, rfl, ?_⟩; have hb := hd_.below; clear hd_; replace HB := ak_ (qaa qan hb); clear HC HO HL; have HC := ak_ (qar HCw.out HB.out); have HO := ak_ (Kd.qbv HOw.out HB.out); have HL := ak_ (Kd.qbv HLw.out HB.out); obtain ⟨qsB, qsf⟩ := qcx HC.out; have qsC := qbC HC.out; have qsg := qad HC.out 1; have hzw4_2 := qfl HC.out; have hfw4_2 := qad HC.out 2; have hzw4_3 := qft HC.out; have hfw4_3 := qad HC.out 3; have hzw4_4 := qfu HC.out; have hfw4_4 := qad HC.out 4; clear hb))
      go_ret
      exact ⟨rfl, SM.out _ qan⟩
    | true =>
      rw [if_pos rfl] at h; obtain ⟨s, A2, h⟩ := qay h; obtain ⟨rfl, rfl, rfl⟩ := qfJ h; go_enter Tryz.func63, Tryz.ntmps63
      go_wp2_with (first | (refine gl_ 60 Tryz.func61 #[.int .i64 n] rfl qbZ ?_; (refine ((qfb.calls n true _ A1.out)).mono ?_); rintro e w4 ⟨rfl, hd_⟩; refine ⟨_, rfl, ?_⟩; have hb := hd_.below; clear hd_; replace HB := ak_ (qaa qan hb); clear HC HO HL; have HC := ak_ (qar HCw.out HB.out); have HO := ak_ (Kd.qbv HOw.out HB.out); have HL := ak_ (Kd.qbv HLw.out HB.out); obtain ⟨qsB, qsf⟩ := qcx HC.out; have qsC := qbC HC.out; have qsg := qad HC.out 1; have hzw4_2 := qfl HC.out; have hfw4_2 := qad HC.out 2; have hzw4_3 := qft HC.out; have hfw4_3 := qad HC.out 3; have hzw4_4 := qfu HC.out; have hfw4_4 := qad HC.out 4; clear hb) | (refine gl_ 71 Tryz.func99 #[.slice A0 rs.length c0, .bool true] rfl qbZ ?_; (refine (qch.calls k _ _ rs true s _ k22_ (Kd.qao HO.out).2.1 A2.out).mono ?_); rintro e wb ⟨rfl, hb⟩; refine ⟨_, rfl, ?_⟩; have HB2 := ak_ hb; clear hb))
      go_ret
      exact ⟨rfl, ⟨A0, c0, A1_, c1, qar (qbl qqO 1 _ rfl) HB2.out, Kd.qbv (Kd.qgQ k94_ qqO (by decide) 1 _) HB2.out, Kd.qbv (Kd.qgQ (by apply_rules only [HL.out, Kd.qap, Kd.qaq, Kd.qaw]) qqO (by decide) 1 _) HB2.out⟩, (qcv.set_ (qcv.qbS qan g) 1 _).trans (qcv.qbS HB2.out g)⟩
  | .cMove, h =>
    simp only [Cmd.word, Cmd.bytes]; dsimp only at h; obtain ⟨⟨xs, ok⟩, A1, h⟩ := qay h; (try dsimp only at h); obtain ⟨⟨rs1, qje⟩, A2, h⟩ := qay h; (try dsimp only at h); obtain ⟨rfl, rfl, rfl⟩ := qfJ h; go_enter Tryz.func63, Tryz.ntmps63
    go_wp2_with (first | (refine gl_ 80 Tryz.func100 #[.slice A0 rs.length c0, .int .i64 n] rfl qbZ ?_; (refine (qaN.calls k _ _ rs n xs ok _ qjp (Kd.qao HO.out).2.1 A1.out).mono ?_); rintro e w2 ⟨vx, rfl, hox, hb⟩; refine ⟨_, rfl, ?_⟩; have HX := ak_ (Kd.qax hox (Nat.le_trans HBS.out (qab qan))); clear hox; obtain ⟨Ax, cx, ex⟩ := Kd.qaI HX.out; subst ex; replace HB := ak_ (qaa qan hb); clear hb) | (refine gl_ 83 Tryz.func97 #[.pointer (some ⟨g, 0, none⟩), .slice Ax xs.length cx, .bool ok] rfl qbZ ?_; (refine (qfy k base g Ax cx xs ok rs mo lr tx n rs1 qje _ (SM.out _ qan).1 qmP A2.out).mono ?_); rintro e w9 ⟨rfl, hD, hk⟩; refine ⟨_, rfl, ?_⟩; have HD := ak_ hD; have HKb := ak_ (qcv.trans (qcv.qbS qan g) hk); clear hD hk))
    go_ret
    exact ⟨rfl, HD.out, HKb.out⟩
  | .cMirror, h =>
    simp only [Cmd.word, Cmd.bytes]; dsimp only at h; obtain ⟨⟨xs, ok⟩, A1, h⟩ := qay h; (try dsimp only at h); obtain ⟨⟨rs1, qje⟩, A2, h⟩ := qay h; (try dsimp only at h); obtain ⟨rfl, rfl, rfl⟩ := qfJ h; go_enter Tryz.func63, Tryz.ntmps63
    go_wp2_with (first | (refine gl_ 88 Tryz.func101 #[.slice A0 rs.length c0] rfl qbZ ?_; (refine (qa4.calls k _ _ rs xs ok _ qjp (Kd.qao HO.out).2.1 A1.out).mono ?_); rintro e w2 ⟨vx, rfl, hox, hb⟩; refine ⟨_, rfl, ?_⟩; have HX := ak_ (Kd.qax hox (Nat.le_trans HBS.out (qab qan))); clear hox; obtain ⟨Ax, cx, ex⟩ := Kd.qaI HX.out; subst ex; replace HB := ak_ (qaa qan hb); clear hb) | (refine gl_ 91 Tryz.func97 #[.pointer (some ⟨g, 0, none⟩), .slice Ax xs.length cx, .bool ok] rfl qbZ ?_; (refine (qfy k base g Ax cx xs ok rs mo lr tx n rs1 qje _ (SM.out _ qan).1 qmP A2.out).mono ?_); rintro e w9 ⟨rfl, hD, hk⟩; refine ⟨_, rfl, ?_⟩; have HD := ak_ hD; have HKb := ak_ (qcv.trans (qcv.qbS qan g) hk); clear hD hk))
    go_ret
    exact ⟨rfl, HD.out, HKb.out⟩
  | .cTidy, h =>
    simp only [Cmd.word, Cmd.bytes]; dsimp only at h; obtain ⟨⟨xs, ok⟩, A1, h⟩ := qay h; (try dsimp only at h); obtain ⟨⟨rs1, qje⟩, A2, h⟩ := qay h; (try dsimp only at h); obtain ⟨rfl, rfl, rfl⟩ := qfJ h; go_enter Tryz.func63, Tryz.ntmps63
    go_wp2_with (first | (refine gl_ 96 Tryz.func102 #[.slice A0 rs.length c0] rfl qbZ ?_; (refine (qaK.calls k _ _ rs xs ok _ qjp (Kd.qao HO.out).2.1 A1.out).mono ?_); rintro e w2 ⟨vx, rfl, hox, hb⟩; refine ⟨_, rfl, ?_⟩; have HX := ak_ (Kd.qax hox (Nat.le_trans HBS.out (qab qan))); clear hox; obtain ⟨Ax, cx, ex⟩ := Kd.qaI HX.out; subst ex; replace HB := ak_ (qaa qan hb); clear hb) | (refine gl_ 99 Tryz.func97 #[.pointer (some ⟨g, 0, none⟩), .slice Ax xs.length cx, .bool ok] rfl qbZ ?_; (refine (qfy k base g Ax cx xs ok rs mo lr tx n rs1 qje _ (SM.out _ qan).1 qmP A2.out).mono ?_); rintro e w9 ⟨rfl, hD, hk⟩; refine ⟨_, rfl, ?_⟩; have HD := ak_ hD; have HKb := ak_ (qcv.trans (qcv.qbS qan g) hk); clear hD hk))
    go_ret
    exact ⟨rfl, HD.out, HKb.out⟩
  | .cPrimes, h =>
    simp only [Cmd.word, Cmd.bytes]; dsimp only at h; obtain ⟨⟨xs, ok⟩, A1, h⟩ := qay h; (try dsimp only at h); obtain ⟨⟨rs1, qje⟩, A2, h⟩ := qay h; (try dsimp only at h); obtain ⟨rfl, rfl, rfl⟩ := qfJ h; go_enter Tryz.func63, Tryz.ntmps63
    go_wp2_with (first | (refine gl_ 105 Tryz.func103 #[.int .i64 n] rfl qbZ ?_; (refine (qcE.calls k n xs ok _ A1.out).mono ?_); rintro e w2 ⟨vx, rfl, hox, hb⟩; refine ⟨_, rfl, ?_⟩; have HX := ak_ (Kd.qax hox (Nat.le_trans HBS.out (qab qan))); clear hox; obtain ⟨Ax, cx, ex⟩ := Kd.qaI HX.out; subst ex; replace HB := ak_ (qaa qan hb); clear hb) | (refine gl_ 108 Tryz.func97 #[.pointer (some ⟨g, 0, none⟩), .slice Ax xs.length cx, .bool ok] rfl qbZ ?_; (refine (qfy k base g Ax cx xs ok rs mo lr tx n rs1 qje _ (SM.out _ qan).1 qmP A2.out).mono ?_); rintro e w9 ⟨rfl, hD, hk⟩; refine ⟨_, rfl, ?_⟩; have HD := ak_ hD; have HKb := ak_ (qcv.trans (qcv.qbS qan g) hk); clear hD hk))
    go_ret
    exact ⟨rfl, HD.out, HKb.out⟩
def qbT.l0 : Nat → ByteArray → List Int → Int → Int → Option (ByteArray)
 | 0, _, _, _, _ => none
 | k + 1, x3, x9, x10, x11 => if x11 < x10 then (if 0 ≤ x11 then (if x11 < (x9.length : Int) then (if x11 > 0 then (if x3.size + 1 ≤ 9223372036854775807 then ((qbr.f k (rd x9 x11)).bind fun qaR => (if (x3 ++ (⟨#[44]⟩ : ByteArray)).size + qaR.size ≤ 9223372036854775807 then (qbT.l0 k ((x3 ++ (⟨#[44]⟩ : ByteArray)) ++ qaR) x9 x10 (wrap64 (x11 + 1))) else (none))) else (none)) else ((qbr.f k (rd x9 x11)).bind fun qce => (if x3.size + qce.size ≤ 9223372036854775807 then (qbT.l0 k (x3 ++ qce) x9 x10 (wrap64 (x11 + 1))) else (none)))) else (none)) else (none)) else (some x3)
def qbT.f (k : Nat) (l0 : List Int) : Option (ByteArray) := if (l0.length : Int) = 0 then (some (⟨#[45]⟩ : ByteArray)) else (qbT.l0 k (⟨#[]⟩ : ByteArray) l0 (l0.length : Int) 0)
theorem qbT.calls (k : Nat) (A0 : Option Addr) (c0 : Nat) (l0 : List Int) (r : ByteArray) (w : World) (hr0 : Kd.C (Kd.int .i64) w A0 l0.length l0) (hc0 : l0.length ≤ c0) (h : qbT.f k l0 = some r) :
  Calls Tryz.prog 158 #[.slice A0 l0.length c0] w fun e w' => e = .returned (.string r) ∧ Below w.heap.size w w' := by
 have HR0 := ak_ hr0; have HC0 := ak_ hc0; clear hr0 hc0; have HB := br_ w; have H : (if (l0.length : Int) = 0 then (some (⟨#[45]⟩ : ByteArray)) else (qbT.l0 k (⟨#[]⟩ : ByteArray) l0 (l0.length : Int) 0)) = some r := h; clear h; by_cases c2 : (l0.length : Int) = 0
 ·rw [if_pos c2] at H; have qfr : ((l0.length : Int) == 0) = true := beq_iff_eq.mpr c2; have qm3 : ((l0.length : Int) != 0) = false := bne_eq_false_iff_eq.mpr c2; clear c2; obtain rfl := sj_ H; go_enter Tryz.func158, Tryz.ntmps158; go_wp2
  go_ret
  exact ⟨qcf, qan⟩
 rw [if_neg c2] at H; have qfr : ((l0.length : Int) == 0) = false := beq_eq_false_iff_ne.mpr c2; have qm3 : ((l0.length : Int) != 0) = true := bne_iff_ne.mpr c2
 have c2b2 : ¬ (l0 = []) := fun h_ => c2 (by rw [h_]; rfl)
 have H' := ak_ H; clear H; go_enter Tryz.func158, Tryz.ntmps158; go_wp2
 go_loopg [3, 11] k (fun kq v3 v11 w' => ∃ (qbx : ByteArray) (qcs : Int), v3 = .string qbx ∧ v11 = .int .i64 qcs ∧ qag (qbT.l0 kq qbx l0 (l0.length : Int) qcs = some r) ∧ qag (kq ≤ k) ∧ qag (Below w.heap.size w w'))
 case atStart => exact ⟨((⟨#[]⟩ : ByteArray)), (0), qav, qav, H', ⟨Nat.le_refl _⟩, ⟨qan⟩⟩
 case round =>
  clear H'; (try clear c2); (try clear qfr); (try clear qm3); (try clear c2b2); obtain ⟨qbx, qcs, rfl, rfl, HA, HK1, HB⟩ := hrel
  cases gk with
  | zero => exact absurd HA.out (by simp [qbT.l0])
  | succ k1 =>
   have H := HA.out; clear HA; simp only [qbT.l0] at H; by_cases c3 : qcs < (l0.length : Int); rotate_left
   ·rw [if_neg c3] at H; have qfk := decide_eq_false c3; clear c3; obtain rfl := sj_ H; go_wp2
    go_ret
    exact ⟨qcf, qan⟩
   rw [if_pos c3] at H; have qfk := decide_eq_true c3; clear c3; obtain ⟨c4, H⟩ := qck H; have qfx := decide_eq_true c4; clear c4; obtain ⟨c5, H⟩ := qck H; have qgJ := decide_eq_true c5; clear c5; by_cases c6 : qcs > 0; rotate_left
   ·rw [if_neg c6] at H; have qgk : decide (0 < qcs) = false := decide_eq_false c6; clear c6; obtain ⟨qce, A11, H⟩ := qay H; (try dsimp only at H); obtain ⟨c12, H⟩ := qck H; have qhg := eq_true c12; have c12b1 := decide_eq_true c12
    try have c12b2 : (9223372036854775807 < qbx.size + qce.size) = False := eq_false (Nat.not_lt.2 c12)
    have H' := ak_ H; clear H; have qeE : 0 ≤ (qcs : Int) := of_decide_eq_true qaO; have qeN : qcs < (l0.length : Int) := of_decide_eq_true qaO; obtain ⟨qhf, qhh, qbw⟩ := Kd.qdO HR0.out qcs qeE qeN
    cases qhh
    replace qbw := (HB.out.cell (World.block_lt_of_cell? w _ qbw)).trans qbw; replace qeE := eq_true qeE; replace qeN := eq_true qeN
    go_wp2_with (first | (refine gl_ 22 Tryz.func83 #[.int .i64 (rd l0 qcs)] rfl qbK ?_; (with_reducible refine (qbr.calls k1 (rd l0 qcs) qce _ A11.out).mono ?_); rintro e w13 ⟨rfl, hb⟩; refine ⟨_, rfl, ?_⟩; replace HB := HB.mw hb; (try clear hb)))
    go_roundg k1
    case measure => have := HK1.out; omega
    case rel => exact ⟨(qbx ++ qce), (wrap64 (qcs + 1)), qav, qav, H', ⟨qcW⟩, ⟨qan⟩⟩
   rw [if_pos c6] at H; have qgk : decide (0 < qcs) = true := decide_eq_true c6; clear c6; obtain ⟨c7, H⟩ := qck H; have qgU := eq_true c7; have qmL := decide_eq_true c7
   try have c7b2 : (9223372036854775807 < qbx.size + 1) = False := eq_false (Nat.not_lt.2 c7)
   obtain ⟨qaR, A8, H⟩ := qay H; (try dsimp only at H); obtain ⟨c9, H⟩ := qck H; have qln := eq_true c9; have c9b1 := decide_eq_true c9
   try have c9b2 : (9223372036854775807 < (qbx ++ (⟨#[44]⟩ : ByteArray)).size + qaR.size) = False := eq_false (Nat.not_lt.2 c9)
   have c9b3 := c9b2; simp only [ByteArray.size_append, show (⟨#[44]⟩ : ByteArray).size = 1 from rfl, show (⟨#[47]⟩ : ByteArray).size = 1 from rfl, show (⟨#[58]⟩ : ByteArray).size = 1 from rfl] at c9b3; have H' := ak_ H; clear H; have qeE : 0 ≤ (qcs : Int) := of_decide_eq_true qaO; have qeN : qcs < (l0.length : Int) := of_decide_eq_true qaO; obtain ⟨qhf, qhh, qbw⟩ := Kd.qdO HR0.out qcs qeE qeN
   cases qhh
   replace qbw := (HB.out.cell (World.block_lt_of_cell? w _ qbw)).trans qbw; replace qeE := eq_true qeE; replace qeN := eq_true qeN
   go_wp2_with (first | (refine gl_ 22 Tryz.func83 #[.int .i64 (rd l0 qcs)] rfl qbK ?_; (with_reducible refine (qbr.calls k1 (rd l0 qcs) qaR _ A8.out).mono ?_); rintro e w10 ⟨rfl, hb⟩; refine ⟨_, rfl, ?_⟩; replace HB := HB.mw hb; (try clear hb)))
   go_roundg k1
   case measure => have := HK1.out; omega
   case rel => exact ⟨((qbx ++ (⟨#[44]⟩ : ByteArray)) ++ qaR), (wrap64 (qcs + 1)), qav, qav, H', ⟨qcW⟩, ⟨qan⟩⟩
def qdD.f (k : Nat) (l0 : List Int) (a1 : Bool) : Option (ByteArray) := if a1 = true then ((qbT.f k l0).bind fun qat => (some qat)) else (some (⟨#[110, 111]⟩ : ByteArray))
theorem qdD.calls (k : Nat) (A0 : Option Addr) (c0 : Nat) (l0 : List Int) (a1 : Bool) (r : ByteArray) (w : World) (hr0 : Kd.C (Kd.int .i64) w A0 l0.length l0) (hc0 : l0.length ≤ c0) (h : qdD.f k l0 a1 = some r) :
  Calls Tryz.prog 104 #[.slice A0 l0.length c0, .bool a1] w fun e w' => e = .returned (.string r) ∧ Below w.heap.size w w' := by
 have HR0 := ak_ hr0; have HC0 := ak_ hc0; clear hr0 hc0; have HB := br_ w; have H : (if a1 = true then ((qbT.f k l0).bind fun qat => (some qat)) else (some (⟨#[110, 111]⟩ : ByteArray))) = some r := h; clear h; by_cases c3 : a1 = true
 ·subst c3; rw [if_pos rfl] at H; obtain ⟨qat, A4, H⟩ := qay H; (try dsimp only at H); obtain rfl := sj_ H; go_enter Tryz.func104, Tryz.ntmps104
  go_wp2_with (first | (refine gl_ 8 Tryz.func158 #[.slice A0 l0.length c0] rfl qbK ?_; (with_reducible refine (qbT.calls k _ _ l0 qat _ ?qaA ?qaB A4.out).mono ?_); (case qaA => exact qfN); (case qaB => exact qb5); rintro e w5 ⟨rfl, hb⟩; refine ⟨_, rfl, ?_⟩; replace HB := HB.mw hb; (try clear hb)))
  go_ret
  exact ⟨qcf, qan⟩
 replace c3 := Bool.eq_false_iff.mpr c3; subst c3; rw [if_neg ff_] at H; obtain rfl := sj_ H; go_enter Tryz.func104, Tryz.ntmps104; go_wp2
 go_ret
 exact ⟨qcf, qan⟩
def qdE.f (k : Nat) (l0 : List (qac)) (a1 : Int) : Option (Bool) := (qaP.f k l0).bind fun qat => (if qat = true then ((qbi.f a1 0 600).bind fun qaR => (some qaR)) else (some false))
theorem qdE.calls (k : Nat) (A0 : Option Addr) (c0 : Nat) (l0 : List (qac)) (a1 : Int) (r : Bool) (w : World) (hr0 : Kd.C qaL w A0 l0.length l0) (hc0 : l0.length ≤ c0) (h : qdE.f k l0 a1 = some r) :
  Calls Tryz.prog 159 #[.slice A0 l0.length c0, .int .i64 a1] w fun e w' => e = .returned (.bool r) ∧ Below w.heap.size w w' := by
 have HR0 := ak_ hr0; have HC0 := ak_ hc0; clear hr0 hc0; have HB := br_ w; have H : ((qaP.f k l0).bind fun qat => (if qat = true then ((qbi.f a1 0 600).bind fun qaR => (some qaR)) else (some false))) = some r := h; clear h; obtain ⟨qat, A3, H⟩ := qay H; (try dsimp only at H); by_cases c4 : qat = true
 ·subst c4; rw [if_pos rfl] at H; obtain ⟨qaR, A5, H⟩ := qay H; (try dsimp only at H); obtain rfl := sj_ H; go_enter Tryz.func159, Tryz.ntmps159
  go_wp2_with (first | (refine gl_ 6 Tryz.func60 #[.slice A0 l0.length c0] rfl qbK ?_; (with_reducible refine (qaP.calls k _ _ l0 true _ ?qaA ?qaB A3.out).mono ?_); (case qaA => exact qfN); (case qaB => exact qb5); rintro e w6 ⟨rfl, hb⟩; refine ⟨_, rfl, ?_⟩; replace HB := HB.mw hb; (try clear hb)) | (go_at_call 93; (with_reducible refine (qbi.calls a1 0 600 qaR _ A5.out).mono ?_); rintro e w' ⟨rfl, ⟨nd, rfl⟩⟩))
  go_ret
  exact ⟨qcf, qan⟩
 replace c4 := Bool.eq_false_iff.mpr c4; subst c4; rw [if_neg ff_] at H; obtain rfl := sj_ H; go_enter Tryz.func159, Tryz.ntmps159
 go_wp2_with (first | (refine gl_ 6 Tryz.func60 #[.slice A0 l0.length c0] rfl qbK ?_; (with_reducible refine (qaP.calls k _ _ l0 false _ ?qaA ?qaB A3.out).mono ?_); (case qaA => exact qfN); (case qaB => exact qb5); rintro e w7 ⟨rfl, hb⟩; refine ⟨_, rfl, ?_⟩; replace HB := HB.mw hb; (try clear hb)))
 go_ret
 exact ⟨qcf, qan⟩
def qbU.l0 : Nat → List (qac) → Int → List Int → Int → Option (List Int)
 | 0, _, _, _, _ => none
 | k + 1, x0, x1, x5, x6 => if x6 ≤ x1 then ((qcd.f k x0 x6).bind fun qat => (if qat = true then (if x5.length < 17592186044416 then (qbU.l0 k x0 x1 (x5 ++ [x6]) (wrap64 (x6 + 1))) else (none)) else (qbU.l0 k x0 x1 x5 (wrap64 (x6 + 1))))) else (some x5)
def qbU.f (k : Nat) (l0 : List (qac)) (a1 : Int) : Option (List Int) := qbU.l0 k l0 a1 ([] : List Int) 1
theorem qbU.calls (k : Nat) (A0 : Option Addr) (c0 : Nat) (l0 : List (qac)) (a1 : Int) (r : List Int) (w : World) (hr0 : Kd.C qaL w A0 l0.length l0) (hc0 : l0.length ≤ c0) (h : qbU.f k l0 a1 = some r) :
  Calls Tryz.prog 160 #[.slice A0 l0.length c0, .int .i64 a1] w fun e w' => ∃ v0_ : Value, e = .returned (v0_) ∧ Kd.R (Kd.int .i64) 3 w' w.heap.size (fun _ => True) v0_ r ∧ Below w.heap.size w w' := by
 have HR0 := ak_ hr0; have HC0 := ak_ hc0; clear hr0 hc0; have HB := br_ w; have H : (qbU.l0 k l0 a1 ([] : List Int) 1) = some r := h; clear h; have H' := ak_ H; clear H; go_enter Tryz.func160, Tryz.ntmps160; go_wp2
 go_loopg [5, 6] k (fun kq v5 v6 w' => ∃ (qcn : List Int) (qdl : Int), v6 = .int .i64 qdl ∧ qag (qbU.l0 kq l0 a1 qcn qdl = some r) ∧ qag (kq ≤ k) ∧ qag (Kd.R (Kd.int .i64) 3 w' w.heap.size (fun _ => True) v5 qcn) ∧ qag (Below w.heap.size w w'))
 case atStart => exact ⟨(([] : List Int)), (1), qav, H', ⟨Nat.le_refl _⟩, ⟨qgN⟩, ⟨qan⟩⟩
 case round =>
  clear H'; obtain ⟨qcn, qdl, rfl, HA, HK1, qgC, HB⟩ := hrel
  cases gk with
  | zero => exact absurd HA.out (by simp [qbU.l0])
  | succ k1 =>
   have H := HA.out; clear HA; simp only [qbU.l0] at H; by_cases c3 : qdl ≤ a1; rotate_left
   ·rw [if_neg c3] at H; have qfk := decide_eq_false c3; clear c3; obtain rfl := sj_ H; go_wp2
    go_ret
    exact ⟨_, qcf, k65_, qan⟩
   rw [if_pos c3] at H; have qfk := decide_eq_true c3; clear c3; obtain ⟨qat, A4, H⟩ := qay H; (try dsimp only at H); by_cases c5 : qat = true; rotate_left
   ·replace c5 := Bool.eq_false_iff.mpr c5; subst c5; rw [if_neg ff_] at H; have H' := ak_ H; clear H
    go_wp2_with (first | (refine gl_ 14 Tryz.func173 #[.slice A0 l0.length c0, .int .i64 qdl] rfl qbK ?_; (with_reducible refine (qcd.calls k1 _ _ l0 qdl false _ ?qaA ?qaB A4.out).mono ?_); (case qaA => exact qha); (case qaB => exact qb5); rintro e w9 ⟨rfl, hb⟩; refine ⟨_, rfl, ?_⟩; replace qgC := qgC.mw hb; replace HB := HB.mw hb; (try clear hb)))
    go_roundg k1
    case measure => have := HK1.out; omega
    case rel => exact ⟨(qcn), (wrap64 (qdl + 1)), qav, H', ⟨qcW⟩, ⟨qn1⟩, ⟨qan⟩⟩
   subst c5; rw [if_pos rfl] at H; obtain ⟨c6, H⟩ := qck H; have LMc6 := ak_ c6; clear c6
   obtain ⟨qiR, hy_⟩ : ∃ y_ : List Int, y_ = (qcn ++ [qdl]) := ⟨_, rfl⟩
   replace H : (qbU.l0 k1 l0 a1 qiR (wrap64 (qdl + 1))) = some r := qe1; have qgP := ak_ hy_; clear hy_; have H' := ak_ H; clear H
   go_wp2_with (first | (refine gl_ 14 Tryz.func173 #[.slice A0 l0.length c0, .int .i64 qdl] rfl qbK ?_; (with_reducible refine (qcd.calls k1 _ _ l0 qdl true _ ?qaA ?qaB A4.out).mono ?_); (case qaA => exact qha); (case qaB => exact qb5); rintro e w7 ⟨rfl, hb⟩; refine ⟨_, rfl, ?_⟩; replace qgC := qgC.mw hb; replace HB := HB.mw hb; (try clear hb)) | ((with_reducible refine qa2 (b := .append) (xs := #[.tmp 15, .tmp 17]) rfl ?_); at_builtin; refine Kd.qcH (Kd.int .i64) (w0 := w) w.heap.size rfl (.tmp 15) (.tmp 17) 48 3 (.int .i64 0) 8 rfl Tryz.underlying48 info3 rfl (by decide) (by omega) u5 qcn qdl [.int .i64 qdl] (fun _ => True) (fun _ => False) rfl rfl ?aP (fun _ hk => hk.elim) ?aF ?aO ?aB ?aS ?aL ?_; (case aP => exact rfl); (case aB => exact qan); (case aF => exact (fun _ _ => trivial)); (case aO => exact qn1); (case aS => exact (qab qan)); (case aL => have := LMc6.out; omega); intro qhm w8 ho hb hg hat; rw [← qgP.out] at ho; replace HB := ak_ (hb); have qb1 := ak_ (ho); clear qgC; clear ho hb hg hat))
   go_roundg k1
   case measure => have := HK1.out; omega
   case rel => exact ⟨(qiR), (wrap64 (qdl + 1)), qav, H', ⟨qcW⟩, ⟨qra⟩, ⟨qan⟩⟩
def qer.f (k : Nat) (l0 : List (qac)) (a1 : Int) : Option (List Int × Bool) := (qdE.f k l0 a1).bind fun qat => (if qat = true then ((qbU.f k l0 a1).bind fun qaR => (some (qaR, true))) else (some (([] : List Int), false)))
theorem qer.calls (k : Nat) (A0 : Option Addr) (c0 : Nat) (l0 : List (qac)) (a1 : Int) (r1 : List Int) (r2 : Bool) (w : World) (hr0 : Kd.C qaL w A0 l0.length l0) (hc0 : l0.length ≤ c0) (h : qer.f k l0 a1 = some (r1, r2)) :
  Calls Tryz.prog 105 #[.slice A0 l0.length c0, .int .i64 a1] w fun e w' => ∃ v0_ : Value, e = .returned (.tuple #[v0_, .bool r2]) ∧ Kd.R (Kd.int .i64) 3 w' w.heap.size (fun _ => True) v0_ r1 ∧ Below w.heap.size w w' := by
 have HR0 := ak_ hr0; have HC0 := ak_ hc0; clear hr0 hc0; have HB := br_ w; have H : ((qdE.f k l0 a1).bind fun qat => (if qat = true then ((qbU.f k l0 a1).bind fun qaR => (some (qaR, true))) else (some (([] : List Int), false)))) = some (r1, r2) := h; clear h; obtain ⟨qat, A3, H⟩ := qay H; (try dsimp only at H); by_cases c4 : qat = true
 ·subst c4; rw [if_pos rfl] at H; obtain ⟨qaR, A5, H⟩ := qay H; (try dsimp only at H); obtain ⟨rfl, rfl⟩ := qdF H; go_enter Tryz.func105, Tryz.ntmps105
  go_wp2_with (first | (refine gl_ 8 Tryz.func159 #[.slice A0 l0.length c0, .int .i64 a1] rfl qbK ?_; (with_reducible refine (qdE.calls k _ _ l0 a1 true _ ?qaA ?qaB A3.out).mono ?_); (case qaA => exact qfN); (case qaB => exact qb5); rintro e w6 ⟨rfl, hb⟩; refine ⟨_, rfl, ?_⟩; replace HB := HB.mw hb; (try clear hb)) | (refine gl_ 12 Tryz.func160 #[.slice A0 l0.length c0, .int .i64 a1] rfl qbK ?_; (with_reducible refine (qbU.calls k _ _ l0 a1 qaR _ ?qaA ?qaB A5.out).mono ?_); (case qaA => exact qha); (case qaB => exact qb5); rintro e w7 ⟨qhm, rfl, ho0, hb⟩; refine ⟨_, rfl, ?_⟩; have qb1 := ak_ (Kd.qax ho0 (qab qan)); replace HB := HB.mw hb; (try clear hb ho0)))
  go_ret2
  exact ⟨_, qcf, k63_, qan⟩
 replace c4 := Bool.eq_false_iff.mpr c4; subst c4; rw [if_neg ff_] at H; obtain ⟨rfl, rfl⟩ := qdF H; go_enter Tryz.func105, Tryz.ntmps105
 go_wp2_with (first | (refine gl_ 8 Tryz.func159 #[.slice A0 l0.length c0, .int .i64 a1] rfl qbK ?_; (with_reducible refine (qdE.calls k _ _ l0 a1 false _ ?qaA ?qaB A3.out).mono ?_); (case qaA => exact qfN); (case qaB => exact qb5); rintro e w8 ⟨rfl, hb⟩; refine ⟨_, rfl, ?_⟩; replace HB := HB.mw hb; (try clear hb)))
 go_ret2
 exact ⟨_, qcf, qgN, qan⟩
def qfd.f (k : Nat) (a0 : Int) : Option (ByteArray) := if a0 < 0 then ((qbr.f k (wrap64 (-a0))).bind fun qat => (if 1 + qat.size ≤ 9223372036854775807 then (some ((⟨#[45]⟩ : ByteArray) ++ qat)) else (none))) else ((qbr.f k a0).bind fun qaR => (some qaR))
theorem qfd.calls (k : Nat) (a0 : Int) (r : ByteArray) (w : World) (h : qfd.f k a0 = some r) :
  Calls Tryz.prog 161 #[.int .i64 a0] w fun e w' => e = .returned (.string r) ∧ Below w.heap.size w w' := by
 have HB := br_ w; have H : (if a0 < 0 then ((qbr.f k (wrap64 (-a0))).bind fun qat => (if 1 + qat.size ≤ 9223372036854775807 then (some ((⟨#[45]⟩ : ByteArray) ++ qat)) else (none))) else ((qbr.f k a0).bind fun qaR => (some qaR))) = some r := h; clear h; by_cases c2 : a0 < 0; rotate_left
 ·rw [if_neg c2] at H; have qfr := decide_eq_false c2; clear c2; obtain ⟨qaR, A6, H⟩ := qay H; (try dsimp only at H); obtain rfl := sj_ H; go_enter Tryz.func161, Tryz.ntmps161
  go_wp2_with (first | (refine gl_ 10 Tryz.func83 #[.int .i64 a0] rfl qbK ?_; (with_reducible refine (qbr.calls k a0 qaR _ A6.out).mono ?_); rintro e w7 ⟨rfl, hb⟩; refine ⟨_, rfl, ?_⟩; replace HB := HB.mw hb; (try clear hb)))
  go_ret
  exact ⟨qcf, qan⟩
 rw [if_pos c2] at H; have qfr := decide_eq_true c2; clear c2; obtain ⟨qat, A3, H⟩ := qay H; (try dsimp only at H); obtain ⟨c4, H⟩ := qck H; have qfx := eq_true c4; have qmK := decide_eq_true c4
 try have c4b2 : (9223372036854775807 < 1 + qat.size) = False := eq_false (Nat.not_lt.2 c4)
 obtain rfl := sj_ H; go_enter Tryz.func161, Tryz.ntmps161
 go_wp2_with (first | (refine gl_ 7 Tryz.func83 #[.int .i64 (wrap64 (-a0))] rfl qbK ?_; (with_reducible refine (qbr.calls k (wrap64 (-a0)) qat _ A3.out).mono ?_); rintro e w5 ⟨rfl, hb⟩; refine ⟨_, rfl, ?_⟩; replace HB := HB.mw hb; (try clear hb)))
 go_ret
 exact ⟨qcf, qan⟩
def qcF.f (k : Nat) (a0 : Int) (a1 : Bool) : Option (ByteArray) := if a1 = true then ((qfd.f k a0).bind fun qat => (some qat)) else (some (⟨#[110, 111]⟩ : ByteArray))
theorem qcF.calls (k : Nat) (a0 : Int) (a1 : Bool) (r : ByteArray) (w : World) (h : qcF.f k a0 a1 = some r) :
  Calls Tryz.prog 106 #[.int .i64 a0, .bool a1] w fun e w' => e = .returned (.string r) ∧ Below w.heap.size w w' := by
 have HB := br_ w; have H : (if a1 = true then ((qfd.f k a0).bind fun qat => (some qat)) else (some (⟨#[110, 111]⟩ : ByteArray))) = some r := h; clear h; by_cases c3 : a1 = true
 ·subst c3; rw [if_pos rfl] at H; obtain ⟨qat, A4, H⟩ := qay H; (try dsimp only at H); obtain rfl := sj_ H; go_enter Tryz.func106, Tryz.ntmps106
  go_wp2_with (first | (refine gl_ 8 Tryz.func161 #[.int .i64 a0] rfl qbK ?_; (with_reducible refine (qfd.calls k a0 qat _ A4.out).mono ?_); rintro e w5 ⟨rfl, hb⟩; refine ⟨_, rfl, ?_⟩; replace HB := HB.mw hb; (try clear hb)))
  go_ret
  exact ⟨qcf, qan⟩
 replace c3 := Bool.eq_false_iff.mpr c3; subst c3; rw [if_neg ff_] at H; obtain rfl := sj_ H; go_enter Tryz.func106, Tryz.ntmps106; go_wp2
 go_ret
 exact ⟨qcf, qan⟩
def qd9.f (k : Nat) (l0 : List (qac)) (a1 : Int) : Option (Int × Bool) := (qdE.f k l0 a1).bind fun qat => (if qat = true then ((qbU.f k l0 a1).bind fun qaR => (some ((qaR.length : Int), true))) else (some (0, false)))
theorem qd9.calls (k : Nat) (A0 : Option Addr) (c0 : Nat) (l0 : List (qac)) (a1 : Int) (r1 : Int) (r2 : Bool) (w : World) (hr0 : Kd.C qaL w A0 l0.length l0) (hc0 : l0.length ≤ c0) (h : qd9.f k l0 a1 = some (r1, r2)) :
  Calls Tryz.prog 107 #[.slice A0 l0.length c0, .int .i64 a1] w fun e w' => e = .returned (.tuple #[.int .i64 r1, .bool r2]) ∧ Below w.heap.size w w' := by
 have HR0 := ak_ hr0; have HC0 := ak_ hc0; clear hr0 hc0; have HB := br_ w; have H : ((qdE.f k l0 a1).bind fun qat => (if qat = true then ((qbU.f k l0 a1).bind fun qaR => (some ((qaR.length : Int), true))) else (some (0, false)))) = some (r1, r2) := h; clear h; obtain ⟨qat, A3, H⟩ := qay H; (try dsimp only at H); by_cases c4 : qat = true
 ·subst c4; rw [if_pos rfl] at H; obtain ⟨qaR, A5, H⟩ := qay H; (try dsimp only at H); obtain ⟨rfl, rfl⟩ := qdF H; go_enter Tryz.func107, Tryz.ntmps107
  go_wp2_with (first | (refine gl_ 8 Tryz.func159 #[.slice A0 l0.length c0, .int .i64 a1] rfl qbK ?_; (with_reducible refine (qdE.calls k _ _ l0 a1 true _ ?qaA ?qaB A3.out).mono ?_); (case qaA => exact qfN); (case qaB => exact qb5); rintro e w6 ⟨rfl, hb⟩; refine ⟨_, rfl, ?_⟩; replace HB := HB.mw hb; (try clear hb)) | (refine gl_ 12 Tryz.func160 #[.slice A0 l0.length c0, .int .i64 a1] rfl qbK ?_; (with_reducible refine (qbU.calls k _ _ l0 a1 qaR _ ?qaA ?qaB A5.out).mono ?_); (case qaA => exact qha); (case qaB => exact qb5); rintro e w7 ⟨qhm, rfl, ho0, hb⟩; refine ⟨_, rfl, ?_⟩; have qb1 := ak_ (Kd.qax ho0 (qab qan)); replace HB := HB.mw hb; (try clear hb ho0); obtain ⟨Ao8, co8, eo8⟩ := Kd.qaI qb1.out; subst eo8))
  go_ret2
  exact ⟨qcf, qan⟩
 replace c4 := Bool.eq_false_iff.mpr c4; subst c4; rw [if_neg ff_] at H; obtain ⟨rfl, rfl⟩ := qdF H; go_enter Tryz.func107, Tryz.ntmps107
 go_wp2_with (first | (refine gl_ 8 Tryz.func159 #[.slice A0 l0.length c0, .int .i64 a1] rfl qbK ?_; (with_reducible refine (qdE.calls k _ _ l0 a1 false _ ?qaA ?qaB A3.out).mono ?_); (case qaA => exact qfN); (case qaB => exact qb5); rintro e w9 ⟨rfl, hb⟩; refine ⟨_, rfl, ?_⟩; replace HB := HB.mw hb; (try clear hb)))
 go_ret2
 exact ⟨qcf, qan⟩
def qcD.f (k : Nat) (l0 : List (qac)) : Option (Int × Bool) := (qaP.f k l0).bind fun qat => (if qat = true then ((qbh.f k l0).bind fun qaR => (if qaR = 0 then (some (0, false)) else ((qbh.f k l0).bind fun qce => (some (qce, true))))) else (some (0, false)))
theorem qcD.calls (k : Nat) (A0 : Option Addr) (c0 : Nat) (l0 : List (qac)) (r1 : Int) (r2 : Bool) (w : World) (hr0 : Kd.C qaL w A0 l0.length l0) (hc0 : l0.length ≤ c0) (h : qcD.f k l0 = some (r1, r2)) :
  Calls Tryz.prog 108 #[.slice A0 l0.length c0] w fun e w' => e = .returned (.tuple #[.int .i64 r1, .bool r2]) ∧ Below w.heap.size w w' := by
 have HR0 := ak_ hr0; have HC0 := ak_ hc0; clear hr0 hc0; have HB := br_ w; have H : ((qaP.f k l0).bind fun qat => (if qat = true then ((qbh.f k l0).bind fun qaR => (if qaR = 0 then (some (0, false)) else ((qbh.f k l0).bind fun qce => (some (qce, true))))) else (some (0, false)))) = some (r1, r2) := h; clear h; obtain ⟨qat, A2, H⟩ := qay H; (try dsimp only at H); by_cases c3 : qat = true; rotate_left
 ·replace c3 := Bool.eq_false_iff.mpr c3; subst c3; rw [if_neg ff_] at H; obtain ⟨rfl, rfl⟩ := qdF H; go_enter Tryz.func108, Tryz.ntmps108
  go_wp2_with (first | (refine gl_ 5 Tryz.func60 #[.slice A0 l0.length c0] rfl qbK ?_; (with_reducible refine (qaP.calls k _ _ l0 false _ ?qaA ?qaB A2.out).mono ?_); (case qaA => exact qfN); (case qaB => exact qb5); rintro e w12 ⟨rfl, hb⟩; refine ⟨_, rfl, ?_⟩; replace HB := HB.mw hb; (try clear hb)))
  go_ret2
  exact ⟨qcf, qan⟩
 subst c3; rw [if_pos rfl] at H; obtain ⟨qaR, A4, H⟩ := qay H; (try dsimp only at H); by_cases c5 : qaR = 0
 ·rw [if_pos c5] at H; have qgJ : (qaR == 0) = true := beq_iff_eq.mpr c5; have qrG : (qaR != 0) = false := bne_eq_false_iff_eq.mpr c5; clear c5; obtain ⟨rfl, rfl⟩ := qdF H; go_enter Tryz.func108, Tryz.ntmps108
  go_wp2_with (first | (refine gl_ 5 Tryz.func60 #[.slice A0 l0.length c0] rfl qbK ?_; (with_reducible refine (qaP.calls k _ _ l0 true _ ?qaA ?qaB A2.out).mono ?_); (case qaA => exact qfN); (case qaB => exact qb5); rintro e w6 ⟨rfl, hb⟩; refine ⟨_, rfl, ?_⟩; replace HB := HB.mw hb; (try clear hb)) | (go_at_call 155; (with_reducible refine (qbh.calls k _ _ l0 qaR _ ?qaA ?qaB A4.out).mono ?_); (case qaA => exact qha); (case qaB => exact qb5); rintro e w7 ⟨rfl, hb⟩; replace HB := HB.mw hb; (try clear hb)))
  go_ret2
  exact ⟨qcf, qan⟩
 rw [if_neg c5] at H; have qgJ : (qaR == 0) = false := beq_eq_false_iff_ne.mpr c5; have qrG : (qaR != 0) = true := bne_iff_ne.mpr c5; obtain ⟨qce, A8, H⟩ := qay H; (try dsimp only at H); obtain ⟨rfl, rfl⟩ := qdF H; go_enter Tryz.func108, Tryz.ntmps108
 go_wp2_with (first | (refine gl_ 5 Tryz.func60 #[.slice A0 l0.length c0] rfl qbK ?_; (with_reducible refine (qaP.calls k _ _ l0 true _ ?qaA ?qaB A2.out).mono ?_); (case qaA => exact qfN); (case qaB => exact qb5); rintro e w9 ⟨rfl, hb⟩; refine ⟨_, rfl, ?_⟩; replace HB := HB.mw hb; (try clear hb)) | (go_at_call 155; (with_reducible refine (qbh.calls k _ _ l0 qaR _ ?qaA ?qaB A4.out).mono ?_); (case qaA => exact qha); (case qaB => exact qb5); rintro e w10 ⟨rfl, hb⟩; replace HB := HB.mw hb; (try clear hb)) | (refine gl_ 13 Tryz.func155 #[.slice A0 l0.length c0] rfl qbK ?_; (with_reducible refine (qbh.calls k _ _ l0 qce _ ?qaA ?qaB A8.out).mono ?_); (case qaA => exact qha); (case qaB => exact qb5); rintro e w11 ⟨rfl, hb⟩; refine ⟨_, rfl, ?_⟩; replace HB := HB.mw hb; (try clear hb)))
 go_ret2
 exact ⟨qcf, qan⟩
def qaV.l0 : Nat → List (qac) → Int → Int → Option (Int)
 | 0, _, _, _ => none
 | k + 1, x0, x3, x4 => if x4 < x3 then ((qcd.f k x0 x4).bind fun qce => (if qce = true then (some x3) else (qaV.l0 k x0 x3 (wrap64 (x4 + 1))))) else (some 0)
def qaV.f (k : Nat) (l0 : List (qac)) : Option (Int) := (qaP.f k l0).bind fun qat => (if qat = true then ((qbh.f k l0).bind fun qaR => (if qaR > 5000 then (some 0) else (qaV.l0 k l0 qaR 0))) else (some 0))
theorem qaV.calls (k : Nat) (A0 : Option Addr) (c0 : Nat) (l0 : List (qac)) (r : Int) (w : World) (hr0 : Kd.C qaL w A0 l0.length l0) (hc0 : l0.length ≤ c0) (h : qaV.f k l0 = some r) :
  Calls Tryz.prog 162 #[.slice A0 l0.length c0] w fun e w' => e = .returned (.int .i64 r) ∧ Below w.heap.size w w' := by
 have HR0 := ak_ hr0; have HC0 := ak_ hc0; clear hr0 hc0; have HB := br_ w; have H : ((qaP.f k l0).bind fun qat => (if qat = true then ((qbh.f k l0).bind fun qaR => (if qaR > 5000 then (some 0) else (qaV.l0 k l0 qaR 0))) else (some 0))) = some r := h; clear h; obtain ⟨qat, A2, H⟩ := qay H; (try dsimp only at H); by_cases c3 : qat = true; rotate_left
 ·replace c3 := Bool.eq_false_iff.mpr c3; subst c3; rw [if_neg ff_] at H; obtain rfl := sj_ H; go_enter Tryz.func162, Tryz.ntmps162
  go_wp2_with (first | (refine gl_ 6 Tryz.func60 #[.slice A0 l0.length c0] rfl qbK ?_; (with_reducible refine (qaP.calls k _ _ l0 false _ ?qaA ?qaB A2.out).mono ?_); (case qaA => exact qfN); (case qaB => exact qb5); rintro e w15 ⟨rfl, hb⟩; refine ⟨_, rfl, ?_⟩; replace HB := HB.mw hb; (try clear hb)))
  go_ret
  exact ⟨qcf, qan⟩
 subst c3; rw [if_pos rfl] at H; obtain ⟨qaR, A4, H⟩ := qay H; (try dsimp only at H); by_cases c5 : qaR > 5000
 ·rw [if_pos c5] at H; have qgJ : decide (5000 < qaR) = true := decide_eq_true c5; clear c5; obtain rfl := sj_ H; go_enter Tryz.func162, Tryz.ntmps162
  go_wp2_with (first | (refine gl_ 6 Tryz.func60 #[.slice A0 l0.length c0] rfl qbK ?_; (with_reducible refine (qaP.calls k _ _ l0 true _ ?qaA ?qaB A2.out).mono ?_); (case qaA => exact qfN); (case qaB => exact qb5); rintro e w6 ⟨rfl, hb⟩; refine ⟨_, rfl, ?_⟩; replace HB := HB.mw hb; (try clear hb)) | (refine gl_ 9 Tryz.func155 #[.slice A0 l0.length c0] rfl qbK ?_; (with_reducible refine (qbh.calls k _ _ l0 qaR _ ?qaA ?qaB A4.out).mono ?_); (case qaA => exact qha); (case qaB => exact qb5); rintro e w7 ⟨rfl, hb⟩; refine ⟨_, rfl, ?_⟩; replace HB := HB.mw hb; (try clear hb)))
  go_ret
  exact ⟨qcf, qan⟩
 rw [if_neg c5] at H; have qgJ : decide (5000 < qaR) = false := decide_eq_false c5; clear c5; have H' := ak_ H; clear H; go_enter Tryz.func162, Tryz.ntmps162
 go_wp2_with (first | (refine gl_ 6 Tryz.func60 #[.slice A0 l0.length c0] rfl qbK ?_; (with_reducible refine (qaP.calls k _ _ l0 true _ ?qaA ?qaB A2.out).mono ?_); (case qaA => exact qfN); (case qaB => exact qb5); rintro e w8 ⟨rfl, hb⟩; refine ⟨_, rfl, ?_⟩; replace HB := HB.mw hb; (try clear hb)) | (refine gl_ 9 Tryz.func155 #[.slice A0 l0.length c0] rfl qbK ?_; (with_reducible refine (qbh.calls k _ _ l0 qaR _ ?qaA ?qaB A4.out).mono ?_); (case qaA => exact qha); (case qaB => exact qb5); rintro e w9 ⟨rfl, hb⟩; refine ⟨_, rfl, ?_⟩; replace HB := HB.mw hb; (try clear hb)))
 go_loopg [4] k (fun kq v4 w' => ∃ (qcM : Int), v4 = .int .i64 qcM ∧ qag (qaV.l0 kq l0 qaR qcM = some r) ∧ qag (kq ≤ k) ∧ qag (Below w.heap.size w w'))
 case atStart => exact ⟨(0), qav, H', ⟨Nat.le_refl _⟩, ⟨qan⟩⟩
 case round =>
  clear H'
  skip
  obtain ⟨qcM, rfl, HA, HK1, HB⟩ := hrel
  cases gk with
  | zero => exact absurd HA.out (by simp [qaV.l0])
  | succ k1 =>
   have H := HA.out; clear HA; simp only [qaV.l0] at H; by_cases c10 : qcM < qaR; rotate_left
   ·rw [if_neg c10] at H; have qgt := decide_eq_false c10; clear c10; obtain rfl := sj_ H; go_wp2
    go_ret
    exact ⟨qcf, qan⟩
   rw [if_pos c10] at H; have qgt := decide_eq_true c10; clear c10; obtain ⟨qce, A11, H⟩ := qay H; (try dsimp only at H); by_cases c12 : qce = true
   ·subst c12; rw [if_pos rfl] at H; obtain rfl := sj_ H
    go_wp2_with (first | (refine gl_ 19 Tryz.func173 #[.slice A0 l0.length c0, .int .i64 qcM] rfl qbK ?_; (with_reducible refine (qcd.calls k1 _ _ l0 qcM true _ ?qaA ?qaB A11.out).mono ?_); (case qaA => exact qha); (case qaB => exact qb5); rintro e w13 ⟨rfl, hb⟩; refine ⟨_, rfl, ?_⟩; replace HB := HB.mw hb; (try clear hb)))
    go_ret
    exact ⟨qcf, qan⟩
   replace c12 := Bool.eq_false_iff.mpr c12; subst c12; rw [if_neg ff_] at H; have H' := ak_ H; clear H
   go_wp2_with (first | (refine gl_ 19 Tryz.func173 #[.slice A0 l0.length c0, .int .i64 qcM] rfl qbK ?_; (with_reducible refine (qcd.calls k1 _ _ l0 qcM false _ ?qaA ?qaB A11.out).mono ?_); (case qaA => exact qha); (case qaB => exact qb5); rintro e w14 ⟨rfl, hb⟩; refine ⟨_, rfl, ?_⟩; replace HB := HB.mw hb; (try clear hb)))
   go_roundg k1
   case measure => have := HK1.out; omega
   case rel => exact ⟨(wrap64 (qcM + 1)), qav, H', ⟨qcW⟩, ⟨qan⟩⟩
def qbq.l0 : Nat → List (qac) → Int → List Int → Int → Option (List Int)
 | 0, _, _, _, _ => none
 | k + 1, x0, x1, x5, x6 => if x6 ≤ x1 then ((qcd.f k x0 x6).bind fun qat => (if qat = true then (if x5.length < 17592186044416 then (qbq.l0 k x0 x1 (x5 ++ [x6]) (wrap64 (x6 + 1))) else (none)) else (qbq.l0 k x0 x1 x5 (wrap64 (x6 + 1))))) else (some x5)
def qbq.f (k : Nat) (l0 : List (qac)) (a1 : Int) : Option (List Int) := qbq.l0 k l0 a1 ([] : List Int) 1
theorem qbq.calls (k : Nat) (A0 : Option Addr) (c0 : Nat) (l0 : List (qac)) (a1 : Int) (r : List Int) (w : World) (hr0 : Kd.C qaL w A0 l0.length l0) (hc0 : l0.length ≤ c0) (h : qbq.f k l0 a1 = some r) :
  Calls Tryz.prog 163 #[.slice A0 l0.length c0, .int .i64 a1] w fun e w' => ∃ v0_ : Value, e = .returned (v0_) ∧ Kd.R (Kd.int .i64) 3 w' w.heap.size (fun _ => True) v0_ r ∧ Below w.heap.size w w' := by
 have HR0 := ak_ hr0; have HC0 := ak_ hc0; clear hr0 hc0; have HB := br_ w; have H : (qbq.l0 k l0 a1 ([] : List Int) 1) = some r := h; clear h; have H' := ak_ H; clear H; go_enter Tryz.func163, Tryz.ntmps163; go_wp2
 go_loopg [5, 6] k (fun kq v5 v6 w' => ∃ (qcn : List Int) (qdl : Int), v6 = .int .i64 qdl ∧ qag (qbq.l0 kq l0 a1 qcn qdl = some r) ∧ qag (kq ≤ k) ∧ qag (Kd.R (Kd.int .i64) 3 w' w.heap.size (fun _ => True) v5 qcn) ∧ qag (Below w.heap.size w w'))
 case atStart => exact ⟨(([] : List Int)), (1), qav, H', ⟨Nat.le_refl _⟩, ⟨qgN⟩, ⟨qan⟩⟩
 case round =>
  clear H'; obtain ⟨qcn, qdl, rfl, HA, HK1, qgC, HB⟩ := hrel
  cases gk with
  | zero => exact absurd HA.out (by simp [qbq.l0])
  | succ k1 =>
   have H := HA.out; clear HA; simp only [qbq.l0] at H; by_cases c3 : qdl ≤ a1; rotate_left
   ·rw [if_neg c3] at H; have qfk := decide_eq_false c3; clear c3; obtain rfl := sj_ H; go_wp2
    go_ret
    exact ⟨_, qcf, k65_, qan⟩
   rw [if_pos c3] at H; have qfk := decide_eq_true c3; clear c3; obtain ⟨qat, A4, H⟩ := qay H; (try dsimp only at H); by_cases c5 : qat = true; rotate_left
   ·replace c5 := Bool.eq_false_iff.mpr c5; subst c5; rw [if_neg ff_] at H; have H' := ak_ H; clear H
    go_wp2_with (first | (refine gl_ 14 Tryz.func173 #[.slice A0 l0.length c0, .int .i64 qdl] rfl qbK ?_; (with_reducible refine (qcd.calls k1 _ _ l0 qdl false _ ?qaA ?qaB A4.out).mono ?_); (case qaA => exact qha); (case qaB => exact qb5); rintro e w9 ⟨rfl, hb⟩; refine ⟨_, rfl, ?_⟩; replace qgC := qgC.mw hb; replace HB := HB.mw hb; (try clear hb)))
    go_roundg k1
    case measure => have := HK1.out; omega
    case rel => exact ⟨(qcn), (wrap64 (qdl + 1)), qav, H', ⟨qcW⟩, ⟨qn1⟩, ⟨qan⟩⟩
   subst c5; rw [if_pos rfl] at H; obtain ⟨c6, H⟩ := qck H; have LMc6 := ak_ c6; clear c6
   obtain ⟨qiR, hy_⟩ : ∃ y_ : List Int, y_ = (qcn ++ [qdl]) := ⟨_, rfl⟩
   replace H : (qbq.l0 k1 l0 a1 qiR (wrap64 (qdl + 1))) = some r := qe1; have qgP := ak_ hy_; clear hy_; have H' := ak_ H; clear H
   go_wp2_with (first | (refine gl_ 14 Tryz.func173 #[.slice A0 l0.length c0, .int .i64 qdl] rfl qbK ?_; (with_reducible refine (qcd.calls k1 _ _ l0 qdl true _ ?qaA ?qaB A4.out).mono ?_); (case qaA => exact qha); (case qaB => exact qb5); rintro e w7 ⟨rfl, hb⟩; refine ⟨_, rfl, ?_⟩; replace qgC := qgC.mw hb; replace HB := HB.mw hb; (try clear hb)) | ((with_reducible refine qa2 (b := .append) (xs := #[.tmp 15, .tmp 17]) rfl ?_); at_builtin; refine Kd.qcH (Kd.int .i64) (w0 := w) w.heap.size rfl (.tmp 15) (.tmp 17) 48 3 (.int .i64 0) 8 rfl Tryz.underlying48 info3 rfl (by decide) (by omega) u5 qcn qdl [.int .i64 qdl] (fun _ => True) (fun _ => False) rfl rfl ?aP (fun _ hk => hk.elim) ?aF ?aO ?aB ?aS ?aL ?_; (case aP => exact rfl); (case aB => exact qan); (case aF => exact (fun _ _ => trivial)); (case aO => exact qn1); (case aS => exact (qab qan)); (case aL => have := LMc6.out; omega); intro qhm w8 ho hb hg hat; rw [← qgP.out] at ho; replace HB := ak_ (hb); have qb1 := ak_ (ho); clear qgC; clear ho hb hg hat))
   go_roundg k1
   case measure => have := HK1.out; omega
   case rel => exact ⟨(qiR), (wrap64 (qdl + 1)), qav, H', ⟨qcW⟩, ⟨qra⟩, ⟨qan⟩⟩
def qdN.f (k : Nat) (l0 : List (qac)) : Option (List Int × Bool) := (qaV.f k l0).bind fun qat => (if qat = 0 then (some (([] : List Int), false)) else ((qbq.f k l0 qat).bind fun qaR => (some (qaR, true))))
theorem qdN.calls (k : Nat) (A0 : Option Addr) (c0 : Nat) (l0 : List (qac)) (r1 : List Int) (r2 : Bool) (w : World) (hr0 : Kd.C qaL w A0 l0.length l0) (hc0 : l0.length ≤ c0) (h : qdN.f k l0 = some (r1, r2)) :
  Calls Tryz.prog 109 #[.slice A0 l0.length c0] w fun e w' => ∃ v0_ : Value, e = .returned (.tuple #[v0_, .bool r2]) ∧ Kd.R (Kd.int .i64) 3 w' w.heap.size (fun _ => True) v0_ r1 ∧ Below w.heap.size w w' := by
 have HR0 := ak_ hr0; have HC0 := ak_ hc0; clear hr0 hc0; have HB := br_ w; have H : ((qaV.f k l0).bind fun qat => (if qat = 0 then (some (([] : List Int), false)) else ((qbq.f k l0 qat).bind fun qaR => (some (qaR, true))))) = some (r1, r2) := h; clear h; obtain ⟨qat, A2, H⟩ := qay H; (try dsimp only at H); by_cases c3 : qat = 0
 ·rw [if_pos c3] at H; have qfk : (qat == 0) = true := beq_iff_eq.mpr c3; have qmb : (qat != 0) = false := bne_eq_false_iff_eq.mpr c3; clear c3; obtain ⟨rfl, rfl⟩ := qdF H; go_enter Tryz.func109, Tryz.ntmps109
  go_wp2_with (first | (refine gl_ 6 Tryz.func162 #[.slice A0 l0.length c0] rfl qbK ?_; (with_reducible refine (qaV.calls k _ _ l0 qat _ ?qaA ?qaB A2.out).mono ?_); (case qaA => exact qfN); (case qaB => exact qb5); rintro e w4 ⟨rfl, hb⟩; refine ⟨_, rfl, ?_⟩; replace HB := HB.mw hb; (try clear hb)))
  go_ret2
  exact ⟨_, qcf, qgN, qan⟩
 rw [if_neg c3] at H; have qfk : (qat == 0) = false := beq_eq_false_iff_ne.mpr c3; have qmb : (qat != 0) = true := bne_iff_ne.mpr c3; obtain ⟨qaR, A5, H⟩ := qay H; (try dsimp only at H); obtain ⟨rfl, rfl⟩ := qdF H; go_enter Tryz.func109, Tryz.ntmps109
 go_wp2_with (first | (refine gl_ 6 Tryz.func162 #[.slice A0 l0.length c0] rfl qbK ?_; (with_reducible refine (qaV.calls k _ _ l0 qat _ ?qaA ?qaB A2.out).mono ?_); (case qaA => exact qfN); (case qaB => exact qb5); rintro e w6 ⟨rfl, hb⟩; refine ⟨_, rfl, ?_⟩; replace HB := HB.mw hb; (try clear hb)) | (refine gl_ 11 Tryz.func163 #[.slice A0 l0.length c0, .int .i64 qat] rfl qbK ?_; (with_reducible refine (qbq.calls k _ _ l0 qat qaR _ ?qaA ?qaB A5.out).mono ?_); (case qaA => exact qha); (case qaB => exact qb5); rintro e w7 ⟨qhm, rfl, ho0, hb⟩; refine ⟨_, rfl, ?_⟩; have qb1 := ak_ (Kd.qax ho0 (qab qan)); replace HB := HB.mw hb; (try clear hb ho0)))
 go_ret2
 exact ⟨_, qcf, k63_, qan⟩
def qbR.l0 : Nat → Int → List Int → List Int → List Int → Int → Int → Option (List Int)
 | 0, _, _, _, _, _, _ => none
 | k + 1, x1, x5, x6, x13, x14, x15 => if x15 < x14 then (if 0 ≤ x15 then (if x15 < (x13.length : Int) then (if 0 < (x5.length : Int) then (if (wrap64 (x15 + 1)) < (x5.length : Int) then (if 0 ≤ (wrap64 (x15 + 1)) then (if x6.length < 17592186044416 then (qbR.l0 k x1 x5 (x6 ++ [wrap64 ((rd x5 (wrap64 (x15 + 1))) - (rd x13 x15))]) x13 x14 (wrap64 (x15 + 1))) else (none)) else (none)) else (if x6.length < 17592186044416 then (qbR.l0 k x1 x5 (x6 ++ [wrap64 ((wrap64 ((rd x5 0) + x1)) - (rd x13 x15))]) x13 x14 (wrap64 (x15 + 1))) else (none))) else (none)) else (none)) else (none)) else (some x6)
def qbR.f (k : Nat) (l0 : List (qac)) (a1 : Int) : Option (List Int) := (qbq.f k l0 a1).bind fun qat => (qbR.l0 k a1 qat ([] : List Int) qat (qat.length : Int) 0)
theorem qbR.calls (k : Nat) (A0 : Option Addr) (c0 : Nat) (l0 : List (qac)) (a1 : Int) (r : List Int) (w : World) (hr0 : Kd.C qaL w A0 l0.length l0) (hc0 : l0.length ≤ c0) (h : qbR.f k l0 a1 = some r) :
  Calls Tryz.prog 164 #[.slice A0 l0.length c0, .int .i64 a1] w fun e w' => ∃ v0_ : Value, e = .returned (v0_) ∧ Kd.R (Kd.int .i64) 3 w' w.heap.size (fun _ => True) v0_ r ∧ Below w.heap.size w w' := by
 have HR0 := ak_ hr0; have HC0 := ak_ hc0; clear hr0 hc0; have HB := br_ w; have H : ((qbq.f k l0 a1).bind fun qat => (qbR.l0 k a1 qat ([] : List Int) qat (qat.length : Int) 0)) = some r := h; clear h; obtain ⟨qat, A3, H⟩ := qay H; (try dsimp only at H); have H' := ak_ H; clear H; go_enter Tryz.func164, Tryz.ntmps164
 go_wp2_with (first | (refine gl_ 12 Tryz.func163 #[.slice A0 l0.length c0, .int .i64 a1] rfl qbK ?_; (with_reducible refine (qbq.calls k _ _ l0 a1 qat _ ?qaA ?qaB A3.out).mono ?_); (case qaA => exact qfN); (case qaB => exact qb5); rintro e w4 ⟨qit, rfl, ho0, hb⟩; refine ⟨_, rfl, ?_⟩; have qc6 := ak_ (Kd.qax ho0 (qab qan)); replace HB := HB.mw hb; (try clear hb ho0); obtain ⟨Ao5, co5, eo5⟩ := Kd.qaI qc6.out; subst eo5))
 go_loopg [6, 15] k (fun kq v6 v15 w' => ∃ (qdl : List Int) (qgn : Int), v15 = .int .i64 qgn ∧ qag (qbR.l0 kq a1 qat qdl qat (qat.length : Int) qgn = some r) ∧ qag (kq ≤ k) ∧ qag (Kd.R (Kd.int .i64) 3 w' w.heap.size (fun k_ => some k_ ≠ (v6 : Value).ownBlock) (.slice Ao5 qat.length co5) qat) ∧ qag (Kd.R (Kd.int .i64) 3 w' w.heap.size (fun k_ => some k_ ≠ ((.slice Ao5 qat.length co5) : Value).ownBlock ∧ some k_ ≠ ((.slice Ao5 qat.length co5) : Value).ownBlock) v6 qdl) ∧ qag (Kd.R (Kd.int .i64) 3 w' w.heap.size (fun k_ => some k_ ≠ (v6 : Value).ownBlock) (.slice Ao5 qat.length co5) qat) ∧ qag (Below w.heap.size w w'))
 case atStart => exact ⟨(([] : List Int)), (0), qav, H', ⟨Nat.le_refl _⟩, ⟨by (with_reducible repeat (first | apply Kd.qap | apply Kd.qaq | apply Kd.qaw)); exact Kd.qa9 qc6.out (fun _ hk => (by simp [Value.ownBlock]))⟩, ⟨qgN⟩, ⟨by (with_reducible repeat (first | apply Kd.qap | apply Kd.qaq | apply Kd.qaw)); exact Kd.qa9 qc6.out (fun _ hk => (by simp [Value.ownBlock]))⟩, ⟨qan⟩⟩
 case round =>
  clear H'; obtain ⟨qdl, qgn, rfl, HA, HK1, qgC, qfv, qk1, HB⟩ := hrel
  cases gk with
  | zero => exact absurd HA.out (by simp [qbR.l0])
  | succ k1 =>
   have H := HA.out; clear HA; simp only [qbR.l0] at H; by_cases c6 : qgn < (qat.length : Int); rotate_left
   ·rw [if_neg c6] at H; have qgk := decide_eq_false c6; clear c6; obtain rfl := sj_ H; go_wp2
    go_ret
    exact ⟨_, qcf, by (with_reducible repeat (first | apply Kd.qap | apply Kd.qaq | apply Kd.qaw)); exact Kd.qa9 qfv.out (fun _ hk => trivial), qan⟩
   rw [if_pos c6] at H; have qgk := decide_eq_true c6; clear c6; obtain ⟨c7, H⟩ := qck H; have qgU := decide_eq_true c7; clear c7; obtain ⟨c8, H⟩ := qck H; have qm4 := decide_eq_true c8; clear c8; obtain ⟨c9, H⟩ := qck H; have qln := decide_eq_true c9; have c9b1 : decide (0 < qat.length) = true := decide_eq_true (by omega); clear c9; by_cases c10 : (wrap64 (qgn + 1)) < (qat.length : Int); rotate_left
   ·rw [if_neg c10] at H; have qgt := decide_eq_false c10; clear c10; obtain ⟨c15, H⟩ := qck H; have qrj := ak_ c15; clear c15
    obtain ⟨qiP, hy_⟩ : ∃ y_ : List Int, y_ = (qdl ++ [wrap64 ((wrap64 ((rd qat 0) + a1)) - (rd qat qgn))]) := ⟨_, rfl⟩
    replace H : (qbR.l0 k1 a1 qat qiP qat (qat.length : Int) (wrap64 (qgn + 1))) = some r := qe1; have qk4 := ak_ hy_; clear hy_; have H' := ak_ H; clear H; have qhj : 0 ≤ (qgn : Int) := of_decide_eq_true qaO; have qhk : qgn < (qat.length : Int) := of_decide_eq_true qaO; obtain ⟨qhW, qne, qdX⟩ := Kd.qdO (Kd.qao qk1.out).2.2 qgn qhj qhk
    cases qne
    replace qhj := eq_true qhj; replace qhk := eq_true qhk
    have qhD : 0 ≤ (0 : Int) := (by omega)
    have qhE : 0 < (qat.length : Int) := of_decide_eq_true qaO; obtain ⟨qec, qnf, qcS⟩ := Kd.qdO (Kd.qao qgC.out).2.2 0 qhD qhE
    obtain rfl : qhW = qec := (by injection qnf)
    have qs2 : (0 < qat.length) = True := eq_true (by omega); (try rw [show ((0 : Int)).toNat = 0 from rfl] at qcS); (try rw [Addr.add_zero'] at qcS); replace qhD := eq_true qhD; replace qhE := eq_true qhE
    go_wp2_with (first | ((with_reducible refine qa2 (b := .append) (xs := #[.tmp 35, .tmp 39]) rfl ?_); at_builtin; refine Kd.qcH (Kd.int .i64) (w0 := w) w.heap.size rfl (.tmp 35) (.tmp 39) 48 3 (.int .i64 0) 8 rfl Tryz.underlying48 info3 rfl (by decide) (by omega) u6 qdl (wrap64 ((wrap64 ((rd qat 0) + a1)) - (rd qat qgn))) [.int .i64 (wrap64 ((wrap64 ((rd qat 0) + a1)) - (rd qat qgn)))] (fun k_ => some k_ ≠ (.slice (some qhW) qat.length co5 : Value).ownBlock ∧ some k_ ≠ (.slice (some qhW) qat.length co5 : Value).ownBlock) (fun _ => False) rfl rfl ?aP (fun _ hk => hk.elim) ?aF ?aO ?aB ?aS ?aL ?_; (case aP => exact rfl); (case aB => exact qan); (case aF => exact (fun k_ hk => ⟨Kd.qiC (Kd.qjI qn1) k_ hk, Kd.qiC (Kd.qjI (by apply_rules only [qk1.out, Kd.qap, Kd.qaq, Kd.qaw])) k_ hk⟩)); (case aO => exact qo1); (case aS => exact (qab qan)); (case aL => have := qrj.out; omega); intro v111 w16 ho hb hg hat; rw [← qk4.out] at ho; replace qgC := ak_ (Kd.qf7 (ok := (fun _ => True)) (by (with_reducible repeat (first | apply Kd.qap | apply Kd.qaq | apply Kd.qaw)); exact Kd.qa9 qgC.out (fun _ hk => ⟨trivial, hk⟩)) hg hat); replace qk1 := ak_ (Kd.qf7 (ok := (fun _ => True)) (by (with_reducible repeat (first | apply Kd.qap | apply Kd.qaq | apply Kd.qaw)); exact Kd.qa9 qk1.out (fun _ hk => ⟨trivial, hk⟩)) hg hat); replace HB := ak_ (hb); have qqn := ak_ (ho); clear qfv; clear ho hb hg hat))
    go_roundg k1
    case measure => have := HK1.out; omega
    case rel => exact ⟨(qiP), (wrap64 (qgn + 1)), qav, H', ⟨qcW⟩, ⟨by (with_reducible repeat (first | apply Kd.qap | apply Kd.qaq | apply Kd.qaw)); exact Kd.qa9 qgC.out (fun _ hk => hk.2)⟩, ⟨k86_⟩, ⟨by (with_reducible repeat (first | apply Kd.qap | apply Kd.qaq | apply Kd.qaw)); exact Kd.qa9 qk1.out (fun _ hk => hk.2)⟩, ⟨qan⟩⟩
   rw [if_pos c10] at H; have qgt := decide_eq_true c10; clear c10
   obtain ⟨qq9, qsm⟩ : ∃ j_ : Int, (wrap64 (qgn + 1)) = j_ := ⟨_, rfl⟩
   replace H : (if 0 ≤ (qq9) then (if qdl.length < 17592186044416 then (qbR.l0 k1 a1 qat (qdl ++ [wrap64 ((rd qat (qq9)) - (rd qat qgn))]) qat (qat.length : Int) qq9) else (none)) else (none)) = some r := by first | (rw [qsm] at H; exact H) | (simp only [qsm] at H ⊢; exact H)
   (try rw [qsm] at qgt); have hji11w : (IntKind.i64.wrap (qgn + 1)) = qq9 := (qd7 _).trans qsm; obtain ⟨c12, H⟩ := qck H; have qhg := decide_eq_true c12; clear c12; obtain ⟨c13, H⟩ := qck H; have LMc13 := ak_ c13; clear c13
   obtain ⟨qfM, hy_⟩ : ∃ y_ : List Int, y_ = (qdl ++ [wrap64 ((rd qat (qq9)) - (rd qat qgn))]) := ⟨_, rfl⟩
   replace H : (qbR.l0 k1 a1 qat qfM qat (qat.length : Int) qq9) = some r := qe1; have qjA := ak_ hy_; clear hy_; have H' := ak_ H; clear H; have qhj : 0 ≤ (qgn : Int) := of_decide_eq_true qaO; have qhk : qgn < (qat.length : Int) := of_decide_eq_true qaO; obtain ⟨qhW, qne, qdX⟩ := Kd.qdO (Kd.qao qk1.out).2.2 qgn qhj qhk
   cases qne
   replace qhj := eq_true qhj; replace qhk := eq_true qhk
   have qhD : 0 ≤ (0 : Int) := (by omega)
   have qhE : 0 < (qat.length : Int) := of_decide_eq_true qaO; obtain ⟨qec, qnf, qcS⟩ := Kd.qdO (Kd.qao qgC.out).2.2 0 qhD qhE
   obtain rfl : qhW = qec := (by injection qnf)
   have qs2 : (0 < qat.length) = True := eq_true (by omega); (try rw [show ((0 : Int)).toNat = 0 from rfl] at qcS); (try rw [Addr.add_zero'] at qcS); replace qhD := eq_true qhD; replace qhE := eq_true qhE; have qfI : 0 ≤ ((qq9) : Int) := of_decide_eq_true qaO; have qfK : (qq9) < (qat.length : Int) := of_decide_eq_true qaO; obtain ⟨qgS, qjC, qcr⟩ := Kd.qdO (Kd.qao qgC.out).2.2 (qq9) qfI qfK
   obtain rfl : qhW = qgS := (by injection qjC)
   replace qfI := eq_true qfI; replace qfK := eq_true qfK
   go_wp2_with (first | ((with_reducible refine qa2 (b := .append) (xs := #[.tmp 35, .tmp 39]) rfl ?_); at_builtin; refine Kd.qcH (Kd.int .i64) (w0 := w) w.heap.size rfl (.tmp 35) (.tmp 39) 48 3 (.int .i64 0) 8 rfl Tryz.underlying48 info3 rfl (by decide) (by omega) u6 qdl (wrap64 ((rd qat (qq9)) - (rd qat qgn))) [.int .i64 (wrap64 ((rd qat (qq9)) - (rd qat qgn)))] (fun k_ => some k_ ≠ (.slice (some qhW) qat.length co5 : Value).ownBlock ∧ some k_ ≠ (.slice (some qhW) qat.length co5 : Value).ownBlock) (fun _ => False) rfl rfl ?aP (fun _ hk => hk.elim) ?aF ?aO ?aB ?aS ?aL ?_; (case aP => exact rfl); (case aB => exact qan); (case aF => exact (fun k_ hk => ⟨Kd.qiC (Kd.qjI qn1) k_ hk, Kd.qiC (Kd.qjI (by apply_rules only [qk1.out, Kd.qap, Kd.qaq, Kd.qaw])) k_ hk⟩)); (case aO => exact qo1); (case aS => exact (qab qan)); (case aL => have := LMc13.out; omega); intro v108 w14 ho hb hg hat; rw [← qjA.out] at ho; replace qgC := ak_ (Kd.qf7 (ok := (fun _ => True)) (by (with_reducible repeat (first | apply Kd.qap | apply Kd.qaq | apply Kd.qaw)); exact Kd.qa9 qgC.out (fun _ hk => ⟨trivial, hk⟩)) hg hat); replace qk1 := ak_ (Kd.qf7 (ok := (fun _ => True)) (by (with_reducible repeat (first | apply Kd.qap | apply Kd.qaq | apply Kd.qaw)); exact Kd.qa9 qk1.out (fun _ hk => ⟨trivial, hk⟩)) hg hat); replace HB := ak_ (hb); have qiT := ak_ (ho); clear qfv; clear ho hb hg hat))
   go_roundg k1
   case measure => have := HK1.out; omega
   case rel => exact ⟨(qfM), (qq9), (by first | rfl | (simp; done) | (simp only [← qsm] <;> (first | rfl | simp)) | (simp [*]; done)), H', ⟨qcW⟩, ⟨by (with_reducible repeat (first | apply Kd.qap | apply Kd.qaq | apply Kd.qaw)); exact Kd.qa9 qgC.out (fun _ hk => hk.2)⟩, ⟨by apply_rules only [qiT.out, Kd.qap, Kd.qaq, Kd.qaw]⟩, ⟨by (with_reducible repeat (first | apply Kd.qap | apply Kd.qaq | apply Kd.qaw)); exact Kd.qa9 qk1.out (fun _ hk => hk.2)⟩, ⟨qan⟩⟩
def qd3.f (k : Nat) (l0 : List (qac)) : Option (List Int × Bool) := (qaV.f k l0).bind fun qat => (if qat = 0 then (some (([] : List Int), false)) else ((qbR.f k l0 qat).bind fun qaR => (some (qaR, true))))
theorem qd3.calls (k : Nat) (A0 : Option Addr) (c0 : Nat) (l0 : List (qac)) (r1 : List Int) (r2 : Bool) (w : World) (hr0 : Kd.C qaL w A0 l0.length l0) (hc0 : l0.length ≤ c0) (h : qd3.f k l0 = some (r1, r2)) :
  Calls Tryz.prog 110 #[.slice A0 l0.length c0] w fun e w' => ∃ v0_ : Value, e = .returned (.tuple #[v0_, .bool r2]) ∧ Kd.R (Kd.int .i64) 3 w' w.heap.size (fun _ => True) v0_ r1 ∧ Below w.heap.size w w' := by
 have HR0 := ak_ hr0; have HC0 := ak_ hc0; clear hr0 hc0; have HB := br_ w; have H : ((qaV.f k l0).bind fun qat => (if qat = 0 then (some (([] : List Int), false)) else ((qbR.f k l0 qat).bind fun qaR => (some (qaR, true))))) = some (r1, r2) := h; clear h; obtain ⟨qat, A2, H⟩ := qay H; (try dsimp only at H); by_cases c3 : qat = 0
 ·rw [if_pos c3] at H; have qfk : (qat == 0) = true := beq_iff_eq.mpr c3; have qmb : (qat != 0) = false := bne_eq_false_iff_eq.mpr c3; clear c3; obtain ⟨rfl, rfl⟩ := qdF H; go_enter Tryz.func110, Tryz.ntmps110
  go_wp2_with (first | (refine gl_ 6 Tryz.func162 #[.slice A0 l0.length c0] rfl qbK ?_; (with_reducible refine (qaV.calls k _ _ l0 qat _ ?qaA ?qaB A2.out).mono ?_); (case qaA => exact qfN); (case qaB => exact qb5); rintro e w4 ⟨rfl, hb⟩; refine ⟨_, rfl, ?_⟩; replace HB := HB.mw hb; (try clear hb)))
  go_ret2
  exact ⟨_, qcf, qgN, qan⟩
 rw [if_neg c3] at H; have qfk : (qat == 0) = false := beq_eq_false_iff_ne.mpr c3; have qmb : (qat != 0) = true := bne_iff_ne.mpr c3; obtain ⟨qaR, A5, H⟩ := qay H; (try dsimp only at H); obtain ⟨rfl, rfl⟩ := qdF H; go_enter Tryz.func110, Tryz.ntmps110
 go_wp2_with (first | (refine gl_ 6 Tryz.func162 #[.slice A0 l0.length c0] rfl qbK ?_; (with_reducible refine (qaV.calls k _ _ l0 qat _ ?qaA ?qaB A2.out).mono ?_); (case qaA => exact qfN); (case qaB => exact qb5); rintro e w6 ⟨rfl, hb⟩; refine ⟨_, rfl, ?_⟩; replace HB := HB.mw hb; (try clear hb)) | (refine gl_ 11 Tryz.func164 #[.slice A0 l0.length c0, .int .i64 qat] rfl qbK ?_; (with_reducible refine (qbR.calls k _ _ l0 qat qaR _ ?qaA ?qaB A5.out).mono ?_); (case qaA => exact qha); (case qaB => exact qb5); rintro e w7 ⟨qhm, rfl, ho0, hb⟩; refine ⟨_, rfl, ?_⟩; have qb1 := ak_ (Kd.qax ho0 (qab qan)); replace HB := HB.mw hb; (try clear hb ho0)))
 go_ret2
 exact ⟨_, qcf, k63_, qan⟩
def qdZ.f (a0 : Int) : Option (Bool) := (qbi.f a0 0 1000000000).bind fun qat => (some qat)
theorem qdZ.calls (a0 : Int) (r : Bool) (w : World) (h : qdZ.f a0 = some r) :
  Calls Tryz.prog 165 #[.int .i64 a0] w fun e w' => e = .returned (.bool r) ∧ qcN w w' := by
 have H : ((qbi.f a0 0 1000000000).bind fun qat => (some qat)) = some r := h; clear h; obtain ⟨qat, A2, H⟩ := qay H; (try dsimp only at H); obtain rfl := sj_ H; go_enter Tryz.func165, Tryz.ntmps165
 go_wp2_with (first | (refine gl_ 4 Tryz.func93 #[.int .i64 a0, .int .i64 0, .int .i64 1000000000] rfl qbK ?_; (with_reducible refine (qbi.calls a0 0 1000000000 qat _ A2.out).mono ?_); rintro e w' ⟨rfl, ⟨nd, rfl⟩⟩; refine ⟨_, rfl, ?_⟩))
 go_ret
 exact ⟨qav, qcO⟩
end
end Go.Proofs.YtjeoabbnalamcaaGreatDoor.P
