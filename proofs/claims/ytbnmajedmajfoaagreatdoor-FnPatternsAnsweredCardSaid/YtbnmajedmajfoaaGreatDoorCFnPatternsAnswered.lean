/- The given statement of FnPatternsAnswered: for every argument the law returns true and its arguments read behind the call as before. Proved in this text: its theorems. Conditions: as each theorem states them. -/
import Derived.Test.YtbnmajedmajfoaaGreatDoorRows
import Derived.Test.YtbnmajedmajfoaaGreatDoorCards
import Derived.Test.YtbnmajedmajfoaaGreatDoorTie
import Derived.Test.YtbnmajedmajfoaaGreatDoorCFnPatternsAnsweredF0
import Derived.Test.YtbnmajedmajfoaaGreatDoorCFnPatternsAnsweredF1
import Derived.Test.YtbnmajedmajfoaaGreatDoorCFnPatternsAnsweredF2
import Derived.Test.YtbnmajedmajfoaaGreatDoorCFnPatternsAnsweredF3
import Derived.Test.YtbnmajedmajfoaaGreatDoorCFnPatternsAnsweredF4
import Derived.Test.YtbnmajedmajfoaaGreatDoorCFnPatternsAnsweredF5
import Derived.Test.YtbnmajedmajfoaaGreatDoorCFnPatternsAnsweredQ0
import Derived.WalkKit
import Derived.ProofKit
import Derived.OpenShut
import Derived.ShutString
import Derived.ChangeOld
import Derived.Below
import Derived.SizedLaws
import Derived.Carry
import Derived.Deep.DeepHandedRow
import Derived.Lib.LaidTab
import Derived.Stop.LaidErr
import Derived.Shelf.Vars
import Derived.LaidLaws

namespace Go.Proofs.YtbnmajedmajfoaaGreatDoor.fnPatternsAnswered
open Go.ChangeShapes Go.WideShapes Go.ChangeAt Go.RowKit Go.Proofs.YtbnmajedmajfoaaGreatDoor.P Go.Proofs.YtbnmajedmajfoaaGreatDoorW.qaG Go.Proofs.YtbnmajedmajfoaaGreatDoorW.PrintLast
open Go.ChangeMaps (open_string shut_string)
set_option linter.unusedVariables false
theorem own : ownKnob Tryz.prog.godebug = none := by kernel_rfl
theorem laidOut : laidOutB Tryz.prog = true := by kernel_rfl
set_option maxHeartbeats 1000000 in
set_option maxRecDepth 100000 in
theorem contract (H : Type) (enc : TypeId × Value → H) (W : World) (base : Nat) (args : Array Value) (ds gs : List (DataW H)) (before : List MemPlace)
    (hval0 : ∀ (j : Nat) t v, Tryz.f4.params[j]? = some t → args[j]? = some v → Value.okWide Tryz.prog W .any base t v)
    (hW : DataW.Whole enc Tryz.prog Tryz.f4.params.toList Rows.fnPatternsAnsweredSpec.vars false W args.toList ds gs before) (hG : qeY W) :
    Calls Tryz.prog 4 args W fun e W' => ∃ v, e = .returned v ∧ Rows.fnPatternsAnsweredSpec.post enc Tryz.prog Tryz.f4 false true false false W args v W' := by
  have hval : ∀ (j : Nat) t v, Tryz.f4.params[j]? = some t → args[j]? = some v → Value.okWide Tryz.prog W .any base t v := hval0
  have hW' := hW
  obtain ⟨p, q, hA0, hV, rfl, hfz, hnd⟩ := hW
  have hA : DataW.TrodAll enc Tryz.prog W 0 (fun _ => true) true Tryz.f4.params.toList args.toList ds p := hA0
  rw [Tryz.params4] at hA hval
  obtain ⟨v0, vs0, d0, ds0, p0, q0, hargs, rfl, rfl, h0, r0⟩ := trodAll_cons hA
  obtain ⟨v1, vs1, d1, ds1, p1, q1, rfl, rfl, rfl, h1, r1⟩ := trodAll_cons r0
  obtain ⟨rfl, rfl, rfl⟩ := trodAll_nil r1
  obtain rfl : args = #[v0, v1] := by cases args; simp_all
  have k0 := h0
  have lt0 : ∀ x ∈ p0, x.block < W.heap.size := by obtain ⟨m, hm⟩ := k0; exact DataW.trod_lt m _ _ _ hm
  obtain ⟨a0_, len0_, cap0_, rfl⟩ := okWide_slice Tryz.underlying50 (hval 0 50 v0 rfl rfl)
  obtain ⟨fu0, hf0⟩ := h0
  have hg0 : DataW.trod enc Tryz.prog W 0 (fun _ => true) true fu0 50 [.slice a0_ len0_ cap0_] = some (d0, p0) := by simpa [Value.cells] using hf0
  obtain ⟨A0, n0, c0, l0, e0, g0, hc0, hm0, hw0, hr0⟩ := qpi Tryz.underlying50 Tryz.underlying5 (by kernel_rfl) hg0
  obtain rfl := g0
  simp only [Value.slice.injEq] at e0
  obtain ⟨ea0, en0, ec0⟩ := e0
  obtain rfl := ea0.symm
  obtain rfl := en0.symm
  obtain rfl := ec0.symm
  have k1 := h1
  have lt1 : ∀ x ∈ p1, x.block < W.heap.size := by obtain ⟨m, hm⟩ := k1; exact DataW.trod_lt m _ _ _ hm
  obtain ⟨a1_, len1_, cap1_, rfl⟩ := okWide_slice Tryz.underlying50 (hval 1 50 v1 rfl rfl)
  obtain ⟨fu1, hf1⟩ := h1
  have hg1 : DataW.trod enc Tryz.prog W 0 (fun _ => true) true fu1 50 [.slice a1_ len1_ cap1_] = some (d1, p1) := by simpa [Value.cells] using hf1
  obtain ⟨A1, n1, c1, l1, e1, g1, hc1, hm1, hw1, hr1⟩ := qpi Tryz.underlying50 Tryz.underlying5 (by kernel_rfl) hg1
  obtain rfl := g1
  simp only [Value.slice.injEq] at e1
  obtain ⟨ea1, en1, ec1⟩ := e1
  obtain rfl := ea1.symm
  obtain rfl := en1.symm
  obtain rfl := ec1.symm
  obtain ⟨rfl, rfl⟩ := trodVars_none hV
  clear hA0 hval0
  obtain ⟨k, hk⟩ := P.FnPatternsAnswered l0 l1 hm0 hw0 hm1 hw1
  refine (qaa.calls k A0 c0 l0 A1 c1 l1 W hr0 hc0 hr1 hc1 hk hG).mono fun e W' ⟨he, bel0⟩ => ?_
  have bel : Below W.heap.size W W' := by first | exact bel0 | exact bel0.below
  subst he
  exact ⟨_, rfl, _, _, _, [], _, [], hW', trodAll_mk1 (shut_bool Tryz.underlying4 _), (trodAll_cons_mk (Below.trod laidOut (by kernel_rfl) (of_decide_eq_true (by kernel_rfl)) k0 bel lt0) (trodAll_cons_mk (Below.trod laidOut (by kernel_rfl) (of_decide_eq_true (by kernel_rfl)) k1 bel lt1) trodAll_mk0)), rfl, bel.frame _, fun h => by cases h⟩
def qti : DataW Unit → Value
  | .lit (.int k n) => .int k n
  | _ => .bool false
def qji : DataW Unit → List Value
  | .agg l => l.flatMap fun | .agg m => m.map qti | d => [qti d]
  | _ => []
noncomputable def low : Nat := (World.holding Tryz.prog default ⟨#[], #[], []⟩).heap.size
noncomputable def ql6 (os : Os) : World :=
  { World.holding Tryz.prog os ⟨#[.cells #[.string ⟨#[118, 97, 108, 117, 101, 32, 111, 117, 116, 32, 111, 102, 32, 114, 97, 110, 103, 101]⟩] 156, .cells #[.string ⟨#[105, 110, 118, 97, 108, 105, 100, 32, 115, 121, 110, 116, 97, 120]⟩] 156], #[], []⟩ with heap := ((((((((World.holding Tryz.prog os ⟨#[.cells #[.string ⟨#[118, 97, 108, 117, 101, 32, 111, 117, 116, 32, 111, 102, 32, 114, 97, 110, 103, 101]⟩] 156, .cells #[.string ⟨#[105, 110, 118, 97, 108, 105, 100, 32, 115, 121, 110, 116, 97, 120]⟩] 156], #[], []⟩).heap.modify 6 fun
      | .cells _ t frozen => .cells (qji Rows.laid_math_bits_deBruijn32tab).toArray t frozen
      | o => o).modify 7 fun
      | .cells _ t frozen => .cells (qji Rows.laid_math_bits_deBruijn64tab).toArray t frozen
      | o => o).modify 5 fun
      | .cells _ t frozen => .cells (qji Rows.laid_internal_strconv_uint64pow10).toArray t frozen
      | o => o).modify 4 fun
      | .cells _ t frozen => .cells (qji Rows.laid_unicode_utf8_acceptRanges).toArray t frozen
      | o => o).modify 2 fun
      | .cells _ t frozen => .cells #[.iface 154 (.pointer (some ⟨low + 0, 0, none⟩))] t frozen
      | o => o).modify 1 fun
      | .cells _ t frozen => .cells #[.iface 154 (.pointer (some ⟨low + 1, 0, none⟩))] t frozen
      | o => o).modify 3 fun
      | .cells _ t frozen => .cells (qji Rows.laid_unicode_utf8_first).toArray t frozen
      | o => o) }
set_option maxRecDepth 100000 in
theorem laid_met (os : Os) : laidMet Tryz.prog Rows.fnPatternsAnsweredRow.laid ((ql6 os).forCall (fun _ _ => 0) ⟨#[], #[Value.slice none 0 0, Value.slice none 0 0], []⟩).memory :=
  laidMet_of_run' 8 (by kernel_rfl) (by kernel_rfl)
theorem reads (os : Os) {H : Type} (enc : TypeId × Value → H) : ∃ places, DataW.whole enc Tryz.prog ((ql6 os).forCall (fun _ _ => 0) ⟨#[], #[Value.slice none 0 0, Value.slice none 0 0], []⟩).memory Tryz.f4.params.toList Rows.fnPatternsAnsweredSpec.vars false (#[Value.slice none 0 0, Value.slice none 0 0] : Array Value).toList 8 = some ([.nil, .nil], [], places) :=
  ⟨[], by kernel_rfl⟩
theorem star_ : "*" ++ "errors.errorString" = "*errors.errorString" := by decide
theorem rowE (u : TypeId) (h : Tryz.prog.typeName? 3 u = some "*errors.errorString") : u = 154 :=
  typeName_ptr_named (nm := "errors.errorString") (by rw [star_]; kernel_rfl) (by kernel_rfl) (by decide) u (by rw [star_]; exact h)
theorem cellsE : Tryz.prog.cellsOf 156 = 1 := by kernel_rfl
theorem qta : Tryz.prog.cellsOf 9 = 1 := by kernel_rfl
theorem qoW : Tryz.prog.globalNamed "strconv.ErrRange" = some 2 := by kernel_rfl
theorem quk : (Tryz.prog.globals[2]?).map (·.type) = some 94 := by kernel_rfl
theorem qmX : Tryz.prog.globalNamed "strconv.ErrSyntax" = some 1 := by kernel_rfl
theorem qrZ : (Tryz.prog.globals[1]?).map (·.type) = some 94 := by kernel_rfl
theorem globs {W : World} (hL : laidMet Tryz.prog Rows.fnPatternsAnsweredRow.laid W) (hsh : W.ShapedOpen Tryz.prog) : qeY W := by
  have h0 : laidMet Tryz.prog [("math/bits.deBruijn32tab", Rows.laid_math_bits_deBruijn32tab), ("math/bits.deBruijn64tab", Rows.laid_math_bits_deBruijn64tab), ("internal/strconv.uint64pow10", Rows.laid_internal_strconv_uint64pow10), ("unicode/utf8.acceptRanges", Rows.laid_unicode_utf8_acceptRanges), ("strconv.ErrRange", Rows.laid_strconv_ErrRange), ("strconv.ErrSyntax", Rows.laid_strconv_ErrSyntax), ("unicode/utf8.first", Rows.laid_unicode_utf8_first)] W := hL
  obtain ⟨aErrRange, sErrRange, hvErrRange, -, -, -⟩ := laid_sentinel h0.tail.tail.tail.tail qoW quk Tryz.underlying94 rowE Tryz.underlying154 Tryz.underlying156 rfl rfl Tryz.underlying9 cellsE qta
  have hcErrRange : W.cell? ⟨2, 0, none⟩ = some (.iface 154 (.pointer (some aErrRange))) := by simpa using World.var?_cell qoW hvErrRange 0
  obtain ⟨aErrSyntax, sErrSyntax, hvErrSyntax, -, -, -⟩ := laid_sentinel h0.tail.tail.tail.tail.tail qmX qrZ Tryz.underlying94 rowE Tryz.underlying154 Tryz.underlying156 rfl rfl Tryz.underlying9 cellsE qta
  have hcErrSyntax : W.cell? ⟨1, 0, none⟩ = some (.iface 154 (.pointer (some aErrSyntax))) := by simpa using World.var?_cell qmX hvErrSyntax 0
  have hm := Go.Proofs.cell_of_shapedOpen_int (g := 0) (t := 3) (zero := #[.int .i64 0]) (k := .i64) hsh (of_decide_eq_true (by kernel_rfl)) (by kernel_rfl) rfl (by kernel_rfl) (by kernel_rfl) Tryz.underlying3
  exact ⟨hm, ⟨_, hcErrSyntax, .inr ⟨_, _, rfl⟩⟩, ⟨_, hcErrRange, .inr ⟨_, _, rfl⟩⟩⟩
set_option maxRecDepth 100000 in
theorem lifted (os : Os) (started : os.Started) (H : Type) (enc : TypeId × Value → H) (F : Stop.Interp) :
    ReturnsInHanded {} Tryz.checked os 4 .any ((OpenSpec.ofChange Rows.fnPatternsAnsweredSpec).preRow enc Tryz.prog Tryz.f4 Rows.fnPatternsAnsweredRow.domain false Rows.fnPatternsAnsweredRow.laid) (((OpenSpec.ofChange Rows.fnPatternsAnsweredSpec).at F).post enc Tryz.prog Tryz.f4 false true false false) := by
  obtain ⟨places, hx⟩ := reads os enc
  refine returnsInHanded_of_row (C := Tryz.checked) (s := OpenSpec.ofChange Rows.fnPatternsAnsweredSpec) own started (by kernel_rfl) Tryz.func4
    (witness_row_at (enc := enc) (C := Tryz.checked) false (ql6 os) #[Value.slice none 0 0, Value.slice none 0 0] rfl (by kernel_rfl) (by kernel_rfl) (by kernel_rfl)
      (OpenSpec.preRow_of_cond 8 hx (by kernel_rfl) (fun k hk => by cases hk) (by kernel_rfl) (laid_met os))) ?_
  intro W base args ds gs before hval hW _ _ _ hL hsh _
  exact contract H enc W base args ds gs before hval hW (globs hL hsh)
theorem said : Rows.FnPatternsAnsweredSaid :=
  OpenClaim.holds_of_cond 4 Tryz.f4 rfl rfl rfl rfl rfl rfl rfl ⟨rfl, rfl, rfl, rfl, rfl⟩ rfl rfl rfl rfl rfl (by kernel_rfl) Tryz.func4 (by kernel_rfl)
    (of_decide_eq_true (by kernel_rfl)) (by unfold Func.isWrapper; first | (rw [if_pos (by decide +kernel)]; kernel_rfl) | (rw [if_neg (by decide +kernel)]; exact ⟨rfl, rfl⟩))
    (fun os started H enc _ F => by rw [OpenClaim.pre_eq_preRow]; exact lifted os started H enc F)
theorem plain (f : FuncId) (fn : Func) (hf : Tryz.pinned.checked.prog.funcNamed "loop.example/g01235/laws.FnPatternsAnswered" = some f) (hfn : Tryz.pinned.checked.prog.funcs[f]? = some fn) :
    true = Tryz.pinned.checked.prog.looks [] ∧ ∀ (j : Nat) t, fn.params[j]? = some t → Tryz.pinned.checked.prog.wantsStandIn t = false := by
  obtain rfl : f = 4 := Option.some.inj ((show Tryz.prog.funcNamed "loop.example/g01235/laws.FnPatternsAnswered" = some 4 by kernel_rfl).symm.trans hf) |>.symm
  obtain rfl : fn = Tryz.f4 := (Option.some.inj (Tryz.func4.symm.trans hfn)).symm
  refine ⟨by kernel_rfl, fun j t ht => ?_⟩
  rw [Tryz.params4] at ht
  have hm : t = 50 ∨ t = 50 := by simpa using Array.mem_of_getElem? ht
  rcases hm with rfl | rfl
  · exact (show Tryz.prog.wantsStandIn 50 = false by kernel_rfl)
  · exact (show Tryz.prog.wantsStandIn 50 = false by kernel_rfl)
theorem card : Rows.FnPatternsAnsweredCardSaid :=
  Claim7.holds_tied_plain_at .later [] _ _ _ _ said (fun _ h => by cases h) (by kernel_rfl) (fun _ h => by cases h) fnPatternsAnswered_row_tie rfl ⟨rfl, rfl⟩ (by kernel_rfl) rfl plain (by kernel_rfl)
end Go.Proofs.YtbnmajedmajfoaaGreatDoor.fnPatternsAnswered
namespace Go.Proofs.YtbnmajedmajfoaaGreatDoor
theorem fnPatternsAnswered_holds : Rows.FnPatternsAnsweredCardSaid := fnPatternsAnswered.card
end Go.Proofs.YtbnmajedmajfoaaGreatDoor
