/- The given statement of FnPuzzlesSievedOfAll: for every argument the law returns true and its arguments read behind the call as before. Proved in this text: its theorems. Conditions: as each theorem states them. -/
import Derived.Test.YtkloiiojigofpaaDoorRows
import Derived.Test.YtkloiiojigofpaaDoorCards
import Derived.Test.YtkloiiojigofpaaDoorTie
import Derived.Test.YtkloiiojigofpaaDoorCFnPuzzlesSievedOfAllF0
import Derived.Test.YtkloiiojigofpaaDoorCFnPuzzlesSievedOfAllF1
import Derived.Test.YtkloiiojigofpaaDoorCFnPuzzlesSievedOfAllF2
import Derived.Test.YtkloiiojigofpaaDoorCFnPuzzlesSievedOfAllF3
import Derived.Test.YtkloiiojigofpaaDoorCFnPuzzlesSievedOfAllF4
import Derived.Test.YtkloiiojigofpaaDoorCFnPuzzlesSievedOfAllQ0
import Derived.WalkKit
import Derived.ProofKit
import Derived.OpenShut
import Derived.ShutString
import Derived.ChangeOld
import Derived.Below
import Derived.SizedLaws
import Derived.Carry
import Derived.Deep.DeepHandedRow
import Derived.Lib.LaidTab

namespace Go.Proofs.YtkloiiojigofpaaDoor.fnPuzzlesSievedOfAll
open Go.ChangeShapes Go.WideShapes Go.ChangeAt Go.RowKit Go.Proofs.YtkloiiojigofpaaDoor.P Go.Proofs.YtkloiiojigofpaaDoorW.PrintWords Go.Proofs.YtkloiiojigofpaaDoorW.PrintLast
open Go.ChangeMaps (open_string shut_string)
set_option linter.unusedVariables false
theorem own : ownKnob Tryd.prog.godebug = none := by kernel_rfl
theorem laidOut : laidOutB Tryd.prog = true := by kernel_rfl
theorem C_Rule {w : World} {a : Option Addr} {l : List (Int × Int)} (hm : l.length ≤ 9223372036854775807) (h : 0 < l.length → ∃ ad, a = some ad ∧ ∀ j p, l[j]? = some p → w.cell? (ad.add (j * 2)) = some (.int .i64 p.1) ∧ w.cell? (ad.add (j * 2 + 1)) = some (.int .i64 p.2)) :
    Kd.C kRule w a (l.map fun p => (⟨p.1, p.2⟩ : SRule)).length (l.map fun p => (⟨p.1, p.2⟩ : SRule)) := by
  refine ⟨rfl, by simpa using hm, fun hn => ?_⟩
  obtain ⟨ad, e, hc⟩ := h (by simpa using hn)
  refine ⟨ad, e, fun j p hj => ?_⟩
  simp only [List.getElem?_map, Option.map_eq_some_iff] at hj
  obtain ⟨q, hq, rfl⟩ := hj
  refine ⟨_, rfl, kRule_mk w _, fun i u hu => ?_⟩
  have h2 := hc j q hq
  match i, hu with
  | 0, hu => simp at hu; subst hu; simpa [kRule, Kd.iso, Kd.pair, Kd.int, Kd.scalar] using h2.1
  | 1, hu => simp at hu; subst hu; simpa [kRule, Kd.iso, Kd.pair, Kd.int, Kd.scalar] using h2.2
  | (i + 2), hu => simp at hu
set_option maxHeartbeats 1000000 in
set_option maxRecDepth 100000 in
theorem contract (H : Type) (enc : TypeId × Value → H) (W : World) (base : Nat) (args : Array Value) (ds gs : List (DataW H)) (before : List MemPlace)
    (hval0 : ∀ (j : Nat) t v, Tryd.f6.params[j]? = some t → args[j]? = some v → Value.okWide Tryd.prog W .any base t v)
    (hW : DataW.Whole enc Tryd.prog Tryd.f6.params.toList Rows.fnPuzzlesSievedOfAllSpec.vars false W args.toList ds gs before) :
    Calls Tryd.prog 6 args W fun e W' => ∃ v, e = .returned v ∧ Rows.fnPuzzlesSievedOfAllSpec.post enc Tryd.prog Tryd.f6 false true false false W args v W' := by
  have hval : ∀ (j : Nat) t v, Tryd.f6.params[j]? = some t → args[j]? = some v → Value.okWide Tryd.prog W .any base t v := hval0
  have hW' := hW
  obtain ⟨p, q, hA0, hV, rfl, hfz, hnd⟩ := hW
  have hA : DataW.TrodAll enc Tryd.prog W 0 (fun _ => true) true Tryd.f6.params.toList args.toList ds p := hA0
  rw [Tryd.params6] at hA hval
  obtain ⟨v0, vs0, d0, ds0, p0, q0, hargs, rfl, rfl, h0, r0⟩ := trodAll_cons hA
  obtain ⟨v1, vs1, d1, ds1, p1, q1, rfl, rfl, rfl, h1, r1⟩ := trodAll_cons r0
  obtain ⟨v2, vs2, d2, ds2, p2, q2, rfl, rfl, rfl, h2, r2⟩ := trodAll_cons r1
  obtain ⟨v3, vs3, d3, ds3, p3, q3, rfl, rfl, rfl, h3, r3⟩ := trodAll_cons r2
  obtain ⟨v4, vs4, d4, ds4, p4, q4, rfl, rfl, rfl, h4, r4⟩ := trodAll_cons r3
  obtain ⟨v5, vs5, d5, ds5, p5, q5, rfl, rfl, rfl, h5, r5⟩ := trodAll_cons r4
  obtain ⟨v6, vs6, d6, ds6, p6, q6, rfl, rfl, rfl, h6, r6⟩ := trodAll_cons r5
  obtain ⟨v7, vs7, d7, ds7, p7, q7, rfl, rfl, rfl, h7, r7⟩ := trodAll_cons r6
  obtain ⟨v8, vs8, d8, ds8, p8, q8, rfl, rfl, rfl, h8, r8⟩ := trodAll_cons r7
  obtain ⟨v9, vs9, d9, ds9, p9, q9, rfl, rfl, rfl, h9, r9⟩ := trodAll_cons r8
  obtain ⟨v10, vs10, d10, ds10, p10, q10, rfl, rfl, rfl, h10, r10⟩ := trodAll_cons r9
  obtain ⟨v11, vs11, d11, ds11, p11, q11, rfl, rfl, rfl, h11, r11⟩ := trodAll_cons r10
  obtain ⟨rfl, rfl, rfl⟩ := trodAll_nil r11
  obtain rfl : args = #[v0, v1, v2, v3, v4, v5, v6, v7, v8, v9, v10, v11] := by cases args; simp_all
  obtain ⟨a0, rfl, rfl, rfl, w0⟩ := open_int Tryd.underlying3 (hval 0 3 v0 rfl rfl) h0
  obtain ⟨a1, rfl, rfl, rfl, w1⟩ := open_int Tryd.underlying3 (hval 1 3 v1 rfl rfl) h1
  obtain ⟨a2, rfl, rfl, rfl, w2⟩ := open_int Tryd.underlying3 (hval 2 3 v2 rfl rfl) h2
  have k3 := h3
  have lt3 : ∀ x ∈ p3, x.block < W.heap.size := by obtain ⟨m, hm⟩ := k3; exact DataW.trod_lt m _ _ _ hm
  obtain ⟨u3_0, u3_1, y3_0, y3_1, fu3, rfl, -, -, t3_0, t3_1⟩ := Joins.open_agg2 Tryd.underlying28 (by kernel_rfl) (by kernel_rfl) (hval 3 28 v3 rfl rfl) h3
  obtain ⟨a3_0, e3_0, -, w3_0⟩ := DataW.trod_string Tryd.underlying9 t3_0
  simp only [List.cons.injEq, and_true] at e3_0
  subst e3_0
  obtain ⟨a3_1, e3_1, -, w3_1⟩ := DataW.trod_int Tryd.underlying3 t3_1
  simp only [List.cons.injEq, and_true] at e3_1
  subst e3_1
  have k4 := h4
  have lt4 : ∀ x ∈ p4, x.block < W.heap.size := by obtain ⟨m, hm⟩ := k4; exact DataW.trod_lt m _ _ _ hm
  obtain ⟨u4_0, u4_1, y4_0, y4_1, fu4, rfl, -, -, t4_0, t4_1⟩ := Joins.open_agg2 Tryd.underlying28 (by kernel_rfl) (by kernel_rfl) (hval 4 28 v4 rfl rfl) h4
  obtain ⟨a4_0, e4_0, -, w4_0⟩ := DataW.trod_string Tryd.underlying9 t4_0
  simp only [List.cons.injEq, and_true] at e4_0
  subst e4_0
  obtain ⟨a4_1, e4_1, -, w4_1⟩ := DataW.trod_int Tryd.underlying3 t4_1
  simp only [List.cons.injEq, and_true] at e4_1
  subst e4_1
  obtain ⟨a5, rfl, rfl, rfl, w5⟩ := open_int Tryd.underlying3 (hval 5 3 v5 rfl rfl) h5
  obtain ⟨a6, rfl, rfl, rfl⟩ := open_bool Tryd.underlying4 (hval 6 4 v6 rfl rfl) h6
  have k7 := h7
  have lt7 : ∀ x ∈ p7, x.block < W.heap.size := by obtain ⟨m, hm⟩ := k7; exact DataW.trod_lt m _ _ _ hm
  obtain ⟨u7_0, u7_1, y7_0, y7_1, fu7, rfl, -, -, t7_0, t7_1⟩ := Joins.open_agg2 Tryd.underlying28 (by kernel_rfl) (by kernel_rfl) (hval 7 28 v7 rfl rfl) h7
  obtain ⟨a7_0, e7_0, -, w7_0⟩ := DataW.trod_string Tryd.underlying9 t7_0
  simp only [List.cons.injEq, and_true] at e7_0
  subst e7_0
  obtain ⟨a7_1, e7_1, -, w7_1⟩ := DataW.trod_int Tryd.underlying3 t7_1
  simp only [List.cons.injEq, and_true] at e7_1
  subst e7_1
  obtain ⟨a8, rfl, rfl, rfl, w8⟩ := open_int Tryd.underlying3 (hval 8 3 v8 rfl rfl) h8
  obtain ⟨a9, rfl, rfl, rfl, y9⟩ := open_string Tryd.underlying9 (hval 9 9 v9 rfl rfl) h9
  have k10 := h10
  have lt10 : ∀ x ∈ p10, x.block < W.heap.size := by obtain ⟨m, hm⟩ := k10; exact DataW.trod_lt m _ _ _ hm
  obtain ⟨a10_, len10_, cap10_, rfl⟩ := okWide_slice Tryd.underlying33 (hval 10 33 v10 rfl rfl)
  obtain ⟨fu10, hf10⟩ := h10
  have hg10 : DataW.trod enc Tryd.prog W 0 (fun _ => true) true fu10 33 [.slice a10_ len10_ cap10_] = some (d10, p10) := by simpa [Value.cells] using hf10
  obtain ⟨A10, n10, c10, m10, e10, g10, hc10, hm10, hw10, hx10⟩ := open_pairs Tryd.underlying33 Tryd.underlying54 (by kernel_rfl) (by kernel_rfl) (by first | exact Tryd.underlying3 | kernel_rfl) (by first | exact Tryd.underlying3 | kernel_rfl) hg10
  have hr10 := C_Rule hm10 hx10
  have hl10 : (m10.map fun p => (⟨p.1, p.2⟩ : SRule)).length = m10.length := List.length_map _
  obtain ⟨l10, hL10⟩ : ∃ l, l = (m10.map fun p => (⟨p.1, p.2⟩ : SRule)) := ⟨_, rfl⟩
  rw [← hL10] at hr10 hl10
  clear hL10
  obtain rfl : n10 = l10.length := g10.trans hl10.symm
  rw [← hl10] at hm10
  simp only [Value.slice.injEq] at e10
  obtain ⟨ea10, en10, ec10⟩ := e10
  obtain rfl := ea10.symm
  obtain rfl := en10.symm
  obtain rfl := ec10.symm
  obtain ⟨a11, rfl, rfl, rfl, w11⟩ := open_int Tryd.underlying3 (hval 11 3 v11 rfl rfl) h11
  obtain ⟨rfl, rfl⟩ := trodVars_none hV
  clear hA0 hval0
  obtain ⟨k, hk⟩ := P.FnPuzzlesSievedOfAll a0 a1 a2 a3_0 a3_1 a4_0 a4_1 a5 a6 a7_0 a7_1 a8 a9 l10 a11 w0 w1 w2 (by unfold maxLen at w3_0; exact w3_0) w3_1 (by unfold maxLen at w4_0; exact w4_0) w4_1 w5 (by unfold maxLen at w7_0; exact w7_0) w7_1 w8 (by have z_ := y9; unfold maxLen at z_; omega) hm10 w11
  refine (laws_FnPuzzlesSievedOfAll.calls k a0 a1 a2 a3_0 a3_1 a4_0 a4_1 a5 a6 a7_0 a7_1 a8 a9 A10 c10 l10 a11 W hr10 hc10 hk).mono fun e W' ⟨he, bel0⟩ => ?_
  have bel : Below W.heap.size W W' := by first | exact bel0 | exact bel0.below
  subst he
  exact ⟨_, rfl, _, _, _, [], _, [], hW', trodAll_mk1 (shut_bool Tryd.underlying4 _), (trodAll_cons_mk (shut_int Tryd.underlying3 w0) (trodAll_cons_mk (shut_int Tryd.underlying3 w1) (trodAll_cons_mk (shut_int Tryd.underlying3 w2) (trodAll_cons_mk (Below.trod laidOut (by kernel_rfl) (of_decide_eq_true (by kernel_rfl)) k3 bel lt3) (trodAll_cons_mk (Below.trod laidOut (by kernel_rfl) (of_decide_eq_true (by kernel_rfl)) k4 bel lt4) (trodAll_cons_mk (shut_int Tryd.underlying3 w5) (trodAll_cons_mk (shut_bool Tryd.underlying4 _) (trodAll_cons_mk (Below.trod laidOut (by kernel_rfl) (of_decide_eq_true (by kernel_rfl)) k7 bel lt7) (trodAll_cons_mk (shut_int Tryd.underlying3 w8) (trodAll_cons_mk (shut_string Tryd.underlying9 y9) (trodAll_cons_mk (Below.trod laidOut (by kernel_rfl) (of_decide_eq_true (by kernel_rfl)) k10 bel lt10) (trodAll_cons_mk (shut_int Tryd.underlying3 w11) trodAll_mk0)))))))))))), rfl, bel.frame _, fun h => by cases h⟩
def datCell : DataW Unit → Value
  | .lit (.int k n) => .int k n
  | _ => .bool false
def datCells : DataW Unit → List Value
  | .agg l => l.flatMap fun | .agg m => m.map datCell | d => [datCell d]
  | _ => []
noncomputable def laidWorld (os : Os) : World :=
  { World.holding Tryd.prog os ⟨#[], #[], []⟩ with heap := (((World.holding Tryd.prog os ⟨#[], #[], []⟩).heap.modify 4 fun
      | .cells _ t frozen => .cells (datCells Rows.laid_unicode_utf8_acceptRanges).toArray t frozen
      | o => o).modify 3 fun
      | .cells _ t frozen => .cells (datCells Rows.laid_unicode_utf8_first).toArray t frozen
      | o => o) }
set_option maxRecDepth 100000 in
theorem laid_met (os : Os) : laidMet Tryd.prog Rows.fnPuzzlesSievedOfAllRow.laid ((laidWorld os).forCall (fun _ _ => 0) ⟨#[], #[Value.int .i64 0, Value.int .i64 0, Value.int .i64 0, Value.agg #[.string ByteArray.empty, .int .i64 0], Value.agg #[.string ByteArray.empty, .int .i64 0], Value.int .i64 0, Value.bool false, Value.agg #[.string ByteArray.empty, .int .i64 0], Value.int .i64 0, Value.string ByteArray.empty, Value.slice none 0 0, Value.int .i64 0], []⟩).memory :=
  laidMet_of_run' 8 (by kernel_rfl) (by kernel_rfl)
theorem reads (os : Os) {H : Type} (enc : TypeId × Value → H) : ∃ places, DataW.whole enc Tryd.prog ((laidWorld os).forCall (fun _ _ => 0) ⟨#[], #[Value.int .i64 0, Value.int .i64 0, Value.int .i64 0, Value.agg #[.string ByteArray.empty, .int .i64 0], Value.agg #[.string ByteArray.empty, .int .i64 0], Value.int .i64 0, Value.bool false, Value.agg #[.string ByteArray.empty, .int .i64 0], Value.int .i64 0, Value.string ByteArray.empty, Value.slice none 0 0, Value.int .i64 0], []⟩).memory Tryd.f6.params.toList Rows.fnPuzzlesSievedOfAllSpec.vars false (#[Value.int .i64 0, Value.int .i64 0, Value.int .i64 0, Value.agg #[.string ByteArray.empty, .int .i64 0], Value.agg #[.string ByteArray.empty, .int .i64 0], Value.int .i64 0, Value.bool false, Value.agg #[.string ByteArray.empty, .int .i64 0], Value.int .i64 0, Value.string ByteArray.empty, Value.slice none 0 0, Value.int .i64 0] : Array Value).toList 8 = some ([.lit (.int .i64 0), .lit (.int .i64 0), .lit (.int .i64 0), .agg [.lit (.string []), .lit (.int .i64 0)], .agg [.lit (.string []), .lit (.int .i64 0)], .lit (.int .i64 0), .lit (.bool false), .agg [.lit (.string []), .lit (.int .i64 0)], .lit (.int .i64 0), .lit (.string []), .nil, .lit (.int .i64 0)], [], places) :=
  ⟨[], by kernel_rfl⟩
set_option maxRecDepth 100000 in
theorem lifted (os : Os) (started : os.Started) (H : Type) (enc : TypeId × Value → H) (F : Stop.Interp) :
    ReturnsInHanded {} Tryd.checked os 6 .any ((OpenSpec.ofChange Rows.fnPuzzlesSievedOfAllSpec).preRow enc Tryd.prog Tryd.f6 Rows.fnPuzzlesSievedOfAllRow.domain false Rows.fnPuzzlesSievedOfAllRow.laid) (((OpenSpec.ofChange Rows.fnPuzzlesSievedOfAllSpec).at F).post enc Tryd.prog Tryd.f6 false true false false) := by
  obtain ⟨places, hx⟩ := reads os enc
  refine returnsInHanded_of_row (C := Tryd.checked) (s := OpenSpec.ofChange Rows.fnPuzzlesSievedOfAllSpec) own started (by kernel_rfl) Tryd.func6
    (witness_row_at (enc := enc) (C := Tryd.checked) false (laidWorld os) #[Value.int .i64 0, Value.int .i64 0, Value.int .i64 0, Value.agg #[.string ByteArray.empty, .int .i64 0], Value.agg #[.string ByteArray.empty, .int .i64 0], Value.int .i64 0, Value.bool false, Value.agg #[.string ByteArray.empty, .int .i64 0], Value.int .i64 0, Value.string ByteArray.empty, Value.slice none 0 0, Value.int .i64 0] rfl (by kernel_rfl) (by kernel_rfl) (by kernel_rfl)
      (OpenSpec.preRow_of_cond 8 hx (by kernel_rfl) (fun k hk => by cases hk) (by kernel_rfl) (laid_met os))) ?_
  intro W base args ds gs before hval hW _ _ _ hL hsh _
  exact contract H enc W base args ds gs before hval hW
theorem said : Rows.FnPuzzlesSievedOfAllSaid :=
  OpenClaim.holds_of_cond 6 Tryd.f6 rfl rfl rfl rfl rfl rfl rfl ⟨rfl, rfl, rfl, rfl, rfl⟩ rfl rfl rfl rfl rfl (by kernel_rfl) Tryd.func6 (by kernel_rfl)
    (of_decide_eq_true (by kernel_rfl)) (by unfold Func.isWrapper; first | (rw [if_pos (by decide +kernel)]; kernel_rfl) | (rw [if_neg (by decide +kernel)]; exact ⟨rfl, rfl⟩))
    (fun os started H enc _ F => by rw [OpenClaim.pre_eq_preRow]; exact lifted os started H enc F)
theorem plain (f : FuncId) (fn : Func) (hf : Tryd.pinned.checked.prog.funcNamed "loop.example/g01235/laws.FnPuzzlesSievedOfAll" = some f) (hfn : Tryd.pinned.checked.prog.funcs[f]? = some fn) :
    true = Tryd.pinned.checked.prog.looks [] ∧ ∀ (j : Nat) t, fn.params[j]? = some t → Tryd.pinned.checked.prog.wantsStandIn t = false := by
  obtain rfl : f = 6 := Option.some.inj ((show Tryd.prog.funcNamed "loop.example/g01235/laws.FnPuzzlesSievedOfAll" = some 6 by kernel_rfl).symm.trans hf) |>.symm
  obtain rfl : fn = Tryd.f6 := (Option.some.inj (Tryd.func6.symm.trans hfn)).symm
  refine ⟨by kernel_rfl, fun j t ht => ?_⟩
  rw [Tryd.params6] at ht
  have hm : t = 3 ∨ t = 3 ∨ t = 3 ∨ t = 28 ∨ t = 28 ∨ t = 3 ∨ t = 4 ∨ t = 28 ∨ t = 3 ∨ t = 9 ∨ t = 33 ∨ t = 3 := by simpa using Array.mem_of_getElem? ht
  rcases hm with rfl | rfl | rfl | rfl | rfl | rfl | rfl | rfl | rfl | rfl | rfl | rfl
  · exact (show Tryd.prog.wantsStandIn 3 = false by kernel_rfl)
  · exact (show Tryd.prog.wantsStandIn 3 = false by kernel_rfl)
  · exact (show Tryd.prog.wantsStandIn 3 = false by kernel_rfl)
  · exact (show Tryd.prog.wantsStandIn 28 = false by kernel_rfl)
  · exact (show Tryd.prog.wantsStandIn 28 = false by kernel_rfl)
  · exact (show Tryd.prog.wantsStandIn 3 = false by kernel_rfl)
  · exact (show Tryd.prog.wantsStandIn 4 = false by kernel_rfl)
  · exact (show Tryd.prog.wantsStandIn 28 = false by kernel_rfl)
  · exact (show Tryd.prog.wantsStandIn 3 = false by kernel_rfl)
  · exact (show Tryd.prog.wantsStandIn 9 = false by kernel_rfl)
  · exact (show Tryd.prog.wantsStandIn 33 = false by kernel_rfl)
  · exact (show Tryd.prog.wantsStandIn 3 = false by kernel_rfl)
theorem card : Rows.FnPuzzlesSievedOfAllCardSaid :=
  Claim7.holds_tied_plain_at .later [] _ _ _ _ said (fun _ h => by cases h) (by kernel_rfl) (fun _ h => by cases h) fnPuzzlesSievedOfAll_row_tie rfl ⟨rfl, rfl⟩ (by kernel_rfl) rfl plain (by kernel_rfl)
end Go.Proofs.YtkloiiojigofpaaDoor.fnPuzzlesSievedOfAll
namespace Go.Proofs.YtkloiiojigofpaaDoor
theorem fnPuzzlesSievedOfAll_holds : Rows.FnPuzzlesSievedOfAllCardSaid := fnPuzzlesSievedOfAll.card
end Go.Proofs.YtkloiiojigofpaaDoor
