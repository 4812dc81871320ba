/- The given statement of FnPatternsAnsweredOfAll: for every argument the law returns true and its arguments read behind the call as before. Proved in this text: its theorems. Conditions: as each theorem states them. -/
import Derived.Test.YtbnmajedmajfoaaGreatDoorRows
import Derived.Test.YtbnmajedmajfoaaGreatDoorCards
import Derived.Test.YtbnmajedmajfoaaGreatDoorTie
import Derived.Test.YtbnmajedmajfoaaGreatDoorCFnPatternsAnsweredOfAllF0
import Derived.Test.YtbnmajedmajfoaaGreatDoorCFnPatternsAnsweredOfAllF1
import Derived.Test.YtbnmajedmajfoaaGreatDoorCFnPatternsAnsweredOfAllF2
import Derived.Test.YtbnmajedmajfoaaGreatDoorCFnPatternsAnsweredOfAllF3
import Derived.Test.YtbnmajedmajfoaaGreatDoorCFnPatternsAnsweredOfAllQ0
import Derived.WalkKit
import Derived.ProofKit
import Derived.OpenShut
import Derived.ShutString
import Derived.ChangeOld
import Derived.Below
import Derived.SizedLaws
import Derived.Carry
import Derived.Deep.DeepHandedRow
import Derived.Lib.LaidTab
import Derived.Stop.LaidErr
import Derived.Shelf.Vars
import Derived.LaidLaws

namespace Go.Proofs.YtbnmajedmajfoaaGreatDoor.fnPatternsAnsweredOfAll
open Go.ChangeShapes Go.WideShapes Go.ChangeAt Go.RowKit Go.Proofs.YtbnmajedmajfoaaGreatDoor.P Go.Proofs.YtbnmajedmajfoaaGreatDoorW.PrintWords Go.Proofs.YtbnmajedmajfoaaGreatDoorW.PrintLast
open Go.ChangeMaps (open_string shut_string)
set_option linter.unusedVariables false
theorem own : ownKnob Tryz.prog.godebug = none := by kernel_rfl
theorem laidOut : laidOutB Tryz.prog = true := by kernel_rfl
theorem C_Rule {w : World} {a : Option Addr} {l : List (Int × Int)} (hm : l.length ≤ 9223372036854775807) (h : 0 < l.length → ∃ ad, a = some ad ∧ ∀ j p, l[j]? = some p → w.cell? (ad.add (j * 2)) = some (.int .i64 p.1) ∧ w.cell? (ad.add (j * 2 + 1)) = some (.int .i64 p.2)) :
    Kd.C kRule w a (l.map fun p => (⟨p.1, p.2⟩ : SRule)).length (l.map fun p => (⟨p.1, p.2⟩ : SRule)) := by
  refine ⟨rfl, by simpa using hm, fun hn => ?_⟩
  obtain ⟨ad, e, hc⟩ := h (by simpa using hn)
  refine ⟨ad, e, fun j p hj => ?_⟩
  simp only [List.getElem?_map, Option.map_eq_some_iff] at hj
  obtain ⟨q, hq, rfl⟩ := hj
  refine ⟨_, rfl, kRule_mk w _, fun i u hu => ?_⟩
  have h2 := hc j q hq
  match i, hu with
  | 0, hu => simp at hu; subst hu; simpa [kRule, Kd.iso, Kd.pair, Kd.int, Kd.scalar] using h2.1
  | 1, hu => simp at hu; subst hu; simpa [kRule, Kd.iso, Kd.pair, Kd.int, Kd.scalar] using h2.2
  | (i + 2), hu => simp at hu
set_option maxHeartbeats 1000000 in
set_option maxRecDepth 100000 in
theorem contract (H : Type) (enc : TypeId × Value → H) (W : World) (base : Nat) (args : Array Value) (ds gs : List (DataW H)) (before : List MemPlace)
    (hval0 : ∀ (j : Nat) t v, Tryz.f3.params[j]? = some t → args[j]? = some v → Value.okWide Tryz.prog W .any base t v)
    (hW : DataW.Whole enc Tryz.prog Tryz.f3.params.toList Rows.fnPatternsAnsweredOfAllSpec.vars false W args.toList ds gs before) (hG : GlobOk W) :
    Calls Tryz.prog 3 args W fun e W' => ∃ v, e = .returned v ∧ Rows.fnPatternsAnsweredOfAllSpec.post enc Tryz.prog Tryz.f3 false true false false W args v W' := by
  have hval : ∀ (j : Nat) t v, Tryz.f3.params[j]? = some t → args[j]? = some v → Value.okWide Tryz.prog W .any base t v := hval0
  have hW' := hW
  obtain ⟨p, q, hA0, hV, rfl, hfz, hnd⟩ := hW
  have hA : DataW.TrodAll enc Tryz.prog W 0 (fun _ => true) true Tryz.f3.params.toList args.toList ds p := hA0
  rw [Tryz.params3] at hA hval
  obtain ⟨v0, vs0, d0, ds0, p0, q0, hargs, rfl, rfl, h0, r0⟩ := trodAll_cons hA
  obtain ⟨v1, vs1, d1, ds1, p1, q1, rfl, rfl, rfl, h1, r1⟩ := trodAll_cons r0
  obtain ⟨v2, vs2, d2, ds2, p2, q2, rfl, rfl, rfl, h2, r2⟩ := trodAll_cons r1
  obtain ⟨v3, vs3, d3, ds3, p3, q3, rfl, rfl, rfl, h3, r3⟩ := trodAll_cons r2
  obtain ⟨rfl, rfl, rfl⟩ := trodAll_nil r3
  obtain rfl : args = #[v0, v1, v2, v3] := by cases args; simp_all
  have k0 := h0
  have lt0 : ∀ x ∈ p0, x.block < W.heap.size := by obtain ⟨m, hm⟩ := k0; exact DataW.trod_lt m _ _ _ hm
  obtain ⟨u0_0, u0_1, y0_0, y0_1, fu0, rfl, -, -, t0_0, t0_1⟩ := Joins.open_agg2 Tryz.underlying23 (by kernel_rfl) (by kernel_rfl) (hval 0 23 v0 rfl rfl) h0
  obtain ⟨a0_0, e0_0, -, w0_0⟩ := DataW.trod_string Tryz.underlying9 t0_0
  simp only [List.cons.injEq, and_true] at e0_0
  subst e0_0
  obtain ⟨a0_1, e0_1, -, w0_1⟩ := DataW.trod_int Tryz.underlying3 t0_1
  simp only [List.cons.injEq, and_true] at e0_1
  subst e0_1
  have k1 := h1
  have lt1 : ∀ x ∈ p1, x.block < W.heap.size := by obtain ⟨m, hm⟩ := k1; exact DataW.trod_lt m _ _ _ hm
  obtain ⟨u1_0, u1_1, y1_0, y1_1, fu1, rfl, -, -, t1_0, t1_1⟩ := Joins.open_agg2 Tryz.underlying23 (by kernel_rfl) (by kernel_rfl) (hval 1 23 v1 rfl rfl) h1
  obtain ⟨a1_0, e1_0, -, w1_0⟩ := DataW.trod_string Tryz.underlying9 t1_0
  simp only [List.cons.injEq, and_true] at e1_0
  subst e1_0
  obtain ⟨a1_1, e1_1, -, w1_1⟩ := DataW.trod_int Tryz.underlying3 t1_1
  simp only [List.cons.injEq, and_true] at e1_1
  subst e1_1
  have k2 := h2
  have lt2 : ∀ x ∈ p2, x.block < W.heap.size := by obtain ⟨m, hm⟩ := k2; exact DataW.trod_lt m _ _ _ hm
  obtain ⟨a2_, len2_, cap2_, rfl⟩ := okWide_slice Tryz.underlying24 (hval 2 24 v2 rfl rfl)
  obtain ⟨fu2, hf2⟩ := h2
  have hg2 : DataW.trod enc Tryz.prog W 0 (fun _ => true) true fu2 24 [.slice a2_ len2_ cap2_] = some (d2, p2) := by simpa [Value.cells] using hf2
  obtain ⟨A2, n2, c2, m2, e2, g2, hc2, hm2, hw2, hx2⟩ := open_pairs Tryz.underlying24 Tryz.underlying33 (by kernel_rfl) (by kernel_rfl) (by first | exact Tryz.underlying3 | kernel_rfl) (by first | exact Tryz.underlying3 | kernel_rfl) hg2
  have hr2 := C_Rule hm2 hx2
  have hl2 : (m2.map fun p => (⟨p.1, p.2⟩ : SRule)).length = m2.length := List.length_map _
  obtain ⟨l2, hL2⟩ : ∃ l, l = (m2.map fun p => (⟨p.1, p.2⟩ : SRule)) := ⟨_, rfl⟩
  rw [← hL2] at hr2 hl2
  clear hL2
  obtain rfl : n2 = l2.length := g2.trans hl2.symm
  rw [← hl2] at hm2
  simp only [Value.slice.injEq] at e2
  obtain ⟨ea2, en2, ec2⟩ := e2
  obtain rfl := ea2.symm
  obtain rfl := en2.symm
  obtain rfl := ec2.symm
  obtain ⟨a3, rfl, rfl, rfl, y3⟩ := open_string Tryz.underlying9 (hval 3 9 v3 rfl rfl) h3
  obtain ⟨rfl, rfl⟩ := trodVars_none hV
  clear hA0 hval0
  obtain ⟨k, hk⟩ := P.FnPatternsAnsweredOfAll a0_0 a0_1 a1_0 a1_1 l2 a3 (by unfold maxLen at w0_0; exact w0_0) w0_1 (by unfold maxLen at w1_0; exact w1_0) w1_1 hm2 (by have z_ := y3; unfold maxLen at z_; omega)
  refine (laws_FnPatternsAnsweredOfAll.calls k a0_0 a0_1 a1_0 a1_1 A2 c2 l2 a3 W hr2 hc2 hk hG).mono fun e W' ⟨he, bel0⟩ => ?_
  have bel : Below W.heap.size W W' := by first | exact bel0 | exact bel0.below
  subst he
  exact ⟨_, rfl, _, _, _, [], _, [], hW', trodAll_mk1 (shut_bool Tryz.underlying4 _), (trodAll_cons_mk (Below.trod laidOut (by kernel_rfl) (of_decide_eq_true (by kernel_rfl)) k0 bel lt0) (trodAll_cons_mk (Below.trod laidOut (by kernel_rfl) (of_decide_eq_true (by kernel_rfl)) k1 bel lt1) (trodAll_cons_mk (Below.trod laidOut (by kernel_rfl) (of_decide_eq_true (by kernel_rfl)) k2 bel lt2) (trodAll_cons_mk (shut_string Tryz.underlying9 y3) trodAll_mk0)))), rfl, bel.frame _, fun h => by cases h⟩
def datCell : DataW Unit → Value
  | .lit (.int k n) => .int k n
  | _ => .bool false
def datCells : DataW Unit → List Value
  | .agg l => l.flatMap fun | .agg m => m.map datCell | d => [datCell d]
  | _ => []
noncomputable def low : Nat := (World.holding Tryz.prog default ⟨#[], #[], []⟩).heap.size
noncomputable def laidWorld (os : Os) : World :=
  { World.holding Tryz.prog os ⟨#[.cells #[.string ⟨#[118, 97, 108, 117, 101, 32, 111, 117, 116, 32, 111, 102, 32, 114, 97, 110, 103, 101]⟩] 156, .cells #[.string ⟨#[105, 110, 118, 97, 108, 105, 100, 32, 115, 121, 110, 116, 97, 120]⟩] 156], #[], []⟩ with heap := ((((((((World.holding Tryz.prog os ⟨#[.cells #[.string ⟨#[118, 97, 108, 117, 101, 32, 111, 117, 116, 32, 111, 102, 32, 114, 97, 110, 103, 101]⟩] 156, .cells #[.string ⟨#[105, 110, 118, 97, 108, 105, 100, 32, 115, 121, 110, 116, 97, 120]⟩] 156], #[], []⟩).heap.modify 6 fun
      | .cells _ t frozen => .cells (datCells Rows.laid_math_bits_deBruijn32tab).toArray t frozen
      | o => o).modify 7 fun
      | .cells _ t frozen => .cells (datCells Rows.laid_math_bits_deBruijn64tab).toArray t frozen
      | o => o).modify 5 fun
      | .cells _ t frozen => .cells (datCells Rows.laid_internal_strconv_uint64pow10).toArray t frozen
      | o => o).modify 4 fun
      | .cells _ t frozen => .cells (datCells Rows.laid_unicode_utf8_acceptRanges).toArray t frozen
      | o => o).modify 2 fun
      | .cells _ t frozen => .cells #[.iface 154 (.pointer (some ⟨low + 0, 0, none⟩))] t frozen
      | o => o).modify 1 fun
      | .cells _ t frozen => .cells #[.iface 154 (.pointer (some ⟨low + 1, 0, none⟩))] t frozen
      | o => o).modify 3 fun
      | .cells _ t frozen => .cells (datCells Rows.laid_unicode_utf8_first).toArray t frozen
      | o => o) }
set_option maxRecDepth 100000 in
theorem laid_met (os : Os) : laidMet Tryz.prog Rows.fnPatternsAnsweredOfAllRow.laid ((laidWorld os).forCall (fun _ _ => 0) ⟨#[], #[Value.agg #[.string ByteArray.empty, .int .i64 0], Value.agg #[.string ByteArray.empty, .int .i64 0], Value.slice none 0 0, Value.string ByteArray.empty], []⟩).memory :=
  laidMet_of_run' 8 (by kernel_rfl) (by kernel_rfl)
theorem reads (os : Os) {H : Type} (enc : TypeId × Value → H) : ∃ places, DataW.whole enc Tryz.prog ((laidWorld os).forCall (fun _ _ => 0) ⟨#[], #[Value.agg #[.string ByteArray.empty, .int .i64 0], Value.agg #[.string ByteArray.empty, .int .i64 0], Value.slice none 0 0, Value.string ByteArray.empty], []⟩).memory Tryz.f3.params.toList Rows.fnPatternsAnsweredOfAllSpec.vars false (#[Value.agg #[.string ByteArray.empty, .int .i64 0], Value.agg #[.string ByteArray.empty, .int .i64 0], Value.slice none 0 0, Value.string ByteArray.empty] : Array Value).toList 8 = some ([.agg [.lit (.string []), .lit (.int .i64 0)], .agg [.lit (.string []), .lit (.int .i64 0)], .nil, .lit (.string [])], [], places) :=
  ⟨[], by kernel_rfl⟩
theorem star_ : "*" ++ "errors.errorString" = "*errors.errorString" := by decide
theorem rowE (u : TypeId) (h : Tryz.prog.typeName? 3 u = some "*errors.errorString") : u = 154 :=
  typeName_ptr_named (nm := "errors.errorString") (by rw [star_]; kernel_rfl) (by kernel_rfl) (by decide) u (by rw [star_]; exact h)
theorem cellsE : Tryz.prog.cellsOf 156 = 1 := by kernel_rfl
theorem cells9_ : Tryz.prog.cellsOf 9 = 1 := by kernel_rfl
theorem gErrRange : Tryz.prog.globalNamed "strconv.ErrRange" = some 2 := by kernel_rfl
theorem tErrRange : (Tryz.prog.globals[2]?).map (·.type) = some 94 := by kernel_rfl
theorem gErrSyntax : Tryz.prog.globalNamed "strconv.ErrSyntax" = some 1 := by kernel_rfl
theorem tErrSyntax : (Tryz.prog.globals[1]?).map (·.type) = some 94 := by kernel_rfl
theorem globs {W : World} (hL : laidMet Tryz.prog Rows.fnPatternsAnsweredOfAllRow.laid W) (hsh : W.ShapedOpen Tryz.prog) : GlobOk W := by
  have h0 : laidMet Tryz.prog [("math/bits.deBruijn32tab", Rows.laid_math_bits_deBruijn32tab), ("math/bits.deBruijn64tab", Rows.laid_math_bits_deBruijn64tab), ("internal/strconv.uint64pow10", Rows.laid_internal_strconv_uint64pow10), ("unicode/utf8.acceptRanges", Rows.laid_unicode_utf8_acceptRanges), ("strconv.ErrRange", Rows.laid_strconv_ErrRange), ("strconv.ErrSyntax", Rows.laid_strconv_ErrSyntax), ("unicode/utf8.first", Rows.laid_unicode_utf8_first)] W := hL
  obtain ⟨aErrRange, sErrRange, hvErrRange, -, -, -⟩ := laid_sentinel h0.tail.tail.tail.tail gErrRange tErrRange Tryz.underlying94 rowE Tryz.underlying154 Tryz.underlying156 rfl rfl Tryz.underlying9 cellsE cells9_
  have hcErrRange : W.cell? ⟨2, 0, none⟩ = some (.iface 154 (.pointer (some aErrRange))) := by simpa using World.var?_cell gErrRange hvErrRange 0
  obtain ⟨aErrSyntax, sErrSyntax, hvErrSyntax, -, -, -⟩ := laid_sentinel h0.tail.tail.tail.tail.tail gErrSyntax tErrSyntax Tryz.underlying94 rowE Tryz.underlying154 Tryz.underlying156 rfl rfl Tryz.underlying9 cellsE cells9_
  have hcErrSyntax : W.cell? ⟨1, 0, none⟩ = some (.iface 154 (.pointer (some aErrSyntax))) := by simpa using World.var?_cell gErrSyntax hvErrSyntax 0
  have hm := Go.Proofs.cell_of_shapedOpen_int (g := 0) (t := 3) (zero := #[.int .i64 0]) (k := .i64) hsh (of_decide_eq_true (by kernel_rfl)) (by kernel_rfl) rfl (by kernel_rfl) (by kernel_rfl) Tryz.underlying3
  exact ⟨hm, ⟨_, hcErrSyntax, .inr ⟨_, _, rfl⟩⟩, ⟨_, hcErrRange, .inr ⟨_, _, rfl⟩⟩⟩
set_option maxRecDepth 100000 in
theorem lifted (os : Os) (started : os.Started) (H : Type) (enc : TypeId × Value → H) (F : Stop.Interp) :
    ReturnsInHanded {} Tryz.checked os 3 .any ((OpenSpec.ofChange Rows.fnPatternsAnsweredOfAllSpec).preRow enc Tryz.prog Tryz.f3 Rows.fnPatternsAnsweredOfAllRow.domain false Rows.fnPatternsAnsweredOfAllRow.laid) (((OpenSpec.ofChange Rows.fnPatternsAnsweredOfAllSpec).at F).post enc Tryz.prog Tryz.f3 false true false false) := by
  obtain ⟨places, hx⟩ := reads os enc
  refine returnsInHanded_of_row (C := Tryz.checked) (s := OpenSpec.ofChange Rows.fnPatternsAnsweredOfAllSpec) own started (by kernel_rfl) Tryz.func3
    (witness_row_at (enc := enc) (C := Tryz.checked) false (laidWorld os) #[Value.agg #[.string ByteArray.empty, .int .i64 0], Value.agg #[.string ByteArray.empty, .int .i64 0], Value.slice none 0 0, Value.string ByteArray.empty] rfl (by kernel_rfl) (by kernel_rfl) (by kernel_rfl)
      (OpenSpec.preRow_of_cond 8 hx (by kernel_rfl) (fun k hk => by cases hk) (by kernel_rfl) (laid_met os))) ?_
  intro W base args ds gs before hval hW _ _ _ hL hsh _
  exact contract H enc W base args ds gs before hval hW (globs hL hsh)
theorem said : Rows.FnPatternsAnsweredOfAllSaid :=
  OpenClaim.holds_of_cond 3 Tryz.f3 rfl rfl rfl rfl rfl rfl rfl ⟨rfl, rfl, rfl, rfl, rfl⟩ rfl rfl rfl rfl rfl (by kernel_rfl) Tryz.func3 (by kernel_rfl)
    (of_decide_eq_true (by kernel_rfl)) (by unfold Func.isWrapper; first | (rw [if_pos (by decide +kernel)]; kernel_rfl) | (rw [if_neg (by decide +kernel)]; exact ⟨rfl, rfl⟩))
    (fun os started H enc _ F => by rw [OpenClaim.pre_eq_preRow]; exact lifted os started H enc F)
theorem plain (f : FuncId) (fn : Func) (hf : Tryz.pinned.checked.prog.funcNamed "loop.example/g01235/laws.FnPatternsAnsweredOfAll" = some f) (hfn : Tryz.pinned.checked.prog.funcs[f]? = some fn) :
    true = Tryz.pinned.checked.prog.looks [] ∧ ∀ (j : Nat) t, fn.params[j]? = some t → Tryz.pinned.checked.prog.wantsStandIn t = false := by
  obtain rfl : f = 3 := Option.some.inj ((show Tryz.prog.funcNamed "loop.example/g01235/laws.FnPatternsAnsweredOfAll" = some 3 by kernel_rfl).symm.trans hf) |>.symm
  obtain rfl : fn = Tryz.f3 := (Option.some.inj (Tryz.func3.symm.trans hfn)).symm
  refine ⟨by kernel_rfl, fun j t ht => ?_⟩
  rw [Tryz.params3] at ht
  have hm : t = 23 ∨ t = 23 ∨ t = 24 ∨ t = 9 := by simpa using Array.mem_of_getElem? ht
  rcases hm with rfl | rfl | rfl | rfl
  · exact (show Tryz.prog.wantsStandIn 23 = false by kernel_rfl)
  · exact (show Tryz.prog.wantsStandIn 23 = false by kernel_rfl)
  · exact (show Tryz.prog.wantsStandIn 24 = false by kernel_rfl)
  · exact (show Tryz.prog.wantsStandIn 9 = false by kernel_rfl)
theorem card : Rows.FnPatternsAnsweredOfAllCardSaid :=
  Claim7.holds_tied_plain_at .later [] _ _ _ _ said (fun _ h => by cases h) (by kernel_rfl) (fun _ h => by cases h) fnPatternsAnsweredOfAll_row_tie rfl ⟨rfl, rfl⟩ (by kernel_rfl) rfl plain (by kernel_rfl)
end Go.Proofs.YtbnmajedmajfoaaGreatDoor.fnPatternsAnsweredOfAll
namespace Go.Proofs.YtbnmajedmajfoaaGreatDoor
theorem fnPatternsAnsweredOfAll_holds : Rows.FnPatternsAnsweredOfAllCardSaid := fnPatternsAnsweredOfAll.card
end Go.Proofs.YtbnmajedmajfoaaGreatDoor
