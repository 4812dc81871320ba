/- The given statement of FnExactDeskAfter: for every argument the law returns true and its arguments read behind the call as before. Proved in this text: its theorems. Conditions: as each theorem states them. -/
import Derived.Test.YtjeoabbnalamcaaGreatDoorRows
import Derived.Test.YtjeoabbnalamcaaGreatDoorCards
import Derived.Test.YtjeoabbnalamcaaGreatDoorTie
import Derived.Test.YtjeoabbnalamcaaGreatDoorCFnExactDeskAfterF0
import Derived.Test.YtjeoabbnalamcaaGreatDoorCFnExactDeskAfterF1
import Derived.Test.YtjeoabbnalamcaaGreatDoorCFnExactDeskAfterF2
import Derived.Test.YtjeoabbnalamcaaGreatDoorCFnExactDeskAfterF3
import Derived.Test.YtjeoabbnalamcaaGreatDoorCFnExactDeskAfterF4
import Derived.Test.YtjeoabbnalamcaaGreatDoorCFnExactDeskAfterF5
import Derived.Test.YtjeoabbnalamcaaGreatDoorCFnExactDeskAfterQ0
import Derived.Test.YtjeoabbnalamcaaGreatDoorCFnExactDeskAfterQ1
import Derived.WalkKit
import Derived.ProofKit
import Derived.OpenShut
import Derived.ShutString
import Derived.ChangeOld
import Derived.Below
import Derived.SizedLaws
import Derived.Carry
import Derived.Deep.DeepHandedRow
import Derived.Lib.LaidTab
import Derived.Stop.LaidErr
import Derived.Shelf.Vars
import Derived.LaidLaws

namespace Go.Proofs.YtjeoabbnalamcaaGreatDoor.fnExactDeskAfter
open Go.ChangeShapes Go.WideShapes Go.ChangeAt Go.RowKit Go.Proofs.YtjeoabbnalamcaaGreatDoor.P Go.Proofs.YtjeoabbnalamcaaGreatDoorW.qaZ Go.Proofs.YtjeoabbnalamcaaGreatDoorW.PrintLast
open Go.ChangeMaps (open_string shut_string)
set_option linter.unusedVariables false
theorem own : ownKnob Tryz.prog.godebug = none := by kernel_rfl
set_option maxHeartbeats 1000000 in
set_option maxRecDepth 100000 in
theorem contract (H : Type) (enc : TypeId × Value → H) (W : World) (base : Nat) (args : Array Value) (ds gs : List (DataW H)) (before : List MemPlace)
    (hval0 : ∀ (j : Nat) t v, Tryz.f9.params[j]? = some t → args[j]? = some v → Value.okWide Tryz.prog W .any base t v)
    (hW : DataW.Whole enc Tryz.prog Tryz.f9.params.toList Rows.fnExactDeskAfterSpec.vars false W args.toList ds gs before) (hG : qbc W) :
    Calls Tryz.prog 9 args W fun e W' => ∃ v, e = .returned v ∧ Rows.fnExactDeskAfterSpec.post enc Tryz.prog Tryz.f9 false true false false W args v W' := by
  have hval : ∀ (j : Nat) t v, Tryz.f9.params[j]? = some t → args[j]? = some v → Value.okWide Tryz.prog W .any base t v := hval0
  have hW' := hW
  obtain ⟨p, q, hA0, hV, rfl, hfz, hnd⟩ := hW
  have hA : DataW.TrodAll enc Tryz.prog W 0 (fun _ => true) true Tryz.f9.params.toList args.toList ds p := hA0
  rw [Tryz.params9] at hA hval
  obtain ⟨v0, vs0, d0, ds0, p0, q0, hargs, rfl, rfl, h0, r0⟩ := trodAll_cons hA
  obtain ⟨rfl, rfl, rfl⟩ := trodAll_nil r0
  obtain rfl : args = #[v0] := by cases args; simp_all
  obtain ⟨a0, rfl, rfl, rfl, y0⟩ := open_string Tryz.underlying9 (hval 0 9 v0 rfl rfl) h0
  obtain ⟨rfl, rfl⟩ := trodVars_none hV
  clear hA0 hval0
  obtain ⟨k, hk⟩ := P.FnExactDeskAfter a0 (by have z_ := y0; unfold maxLen at z_; omega)
  refine (qcr.calls k a0 W  hk hG).mono fun e W' ⟨he, bel0⟩ => ?_
  have bel : Below W.heap.size W W' := by first | exact bel0 | exact bel0.below
  subst he
  exact ⟨_, rfl, _, _, _, [], _, [], hW', trodAll_mk1 (shut_bool Tryz.underlying4 _), (trodAll_cons_mk (shut_string Tryz.underlying9 y0) trodAll_mk0), rfl, bel.frame _, fun h => by cases h⟩
def qsu : DataW Unit → Value
  | .lit (.int k n) => .int k n
  | _ => .bool false
def qiV : DataW Unit → List Value
  | .agg l => l.flatMap fun | .agg m => m.map qsu | d => [qsu d]
  | _ => []
noncomputable def low : Nat := (World.holding Tryz.prog default ⟨#[], #[], []⟩).heap.size
noncomputable def qk9 (os : Os) : World :=
  { World.holding Tryz.prog os ⟨#[.cells #[.string ⟨#[118, 97, 108, 117, 101, 32, 111, 117, 116, 32, 111, 102, 32, 114, 97, 110, 103, 101]⟩] 228, .cells #[.string ⟨#[105, 110, 118, 97, 108, 105, 100, 32, 115, 121, 110, 116, 97, 120]⟩] 228], #[], []⟩ with heap := ((((((((World.holding Tryz.prog os ⟨#[.cells #[.string ⟨#[118, 97, 108, 117, 101, 32, 111, 117, 116, 32, 111, 102, 32, 114, 97, 110, 103, 101]⟩] 228, .cells #[.string ⟨#[105, 110, 118, 97, 108, 105, 100, 32, 115, 121, 110, 116, 97, 120]⟩] 228], #[], []⟩).heap.modify 6 fun
      | .cells _ t frozen => .cells (qiV Rows.laid_math_bits_deBruijn32tab).toArray t frozen
      | o => o).modify 7 fun
      | .cells _ t frozen => .cells (qiV Rows.laid_math_bits_deBruijn64tab).toArray t frozen
      | o => o).modify 3 fun
      | .cells _ t frozen => .cells (qiV Rows.laid_internal_strconv_uint64pow10).toArray t frozen
      | o => o).modify 5 fun
      | .cells _ t frozen => .cells (qiV Rows.laid_unicode_utf8_acceptRanges).toArray t frozen
      | o => o).modify 2 fun
      | .cells _ t frozen => .cells #[.iface 226 (.pointer (some ⟨low + 0, 0, none⟩))] t frozen
      | o => o).modify 1 fun
      | .cells _ t frozen => .cells #[.iface 226 (.pointer (some ⟨low + 1, 0, none⟩))] t frozen
      | o => o).modify 4 fun
      | .cells _ t frozen => .cells (qiV Rows.laid_unicode_utf8_first).toArray t frozen
      | o => o) }
set_option maxRecDepth 100000 in
theorem laid_met (os : Os) : laidMet Tryz.prog Rows.fnExactDeskAfterRow.laid ((qk9 os).forCall (fun _ _ => 0) ⟨#[], #[Value.string ByteArray.empty], []⟩).memory :=
  laidMet_of_run' 8 (by kernel_rfl) (by kernel_rfl)
theorem reads (os : Os) {H : Type} (enc : TypeId × Value → H) : ∃ places, DataW.whole enc Tryz.prog ((qk9 os).forCall (fun _ _ => 0) ⟨#[], #[Value.string ByteArray.empty], []⟩).memory Tryz.f9.params.toList Rows.fnExactDeskAfterSpec.vars false (#[Value.string ByteArray.empty] : Array Value).toList 8 = some ([.lit (.string [])], [], places) :=
  ⟨[], by kernel_rfl⟩
theorem star_ : "*" ++ "errors.errorString" = "*errors.errorString" := by decide
theorem rowE (u : TypeId) (h : Tryz.prog.typeName? 3 u = some "*errors.errorString") : u = 226 :=
  typeName_ptr_named (nm := "errors.errorString") (by rw [star_]; kernel_rfl) (by kernel_rfl) (by decide) u (by rw [star_]; exact h)
theorem cellsE : Tryz.prog.cellsOf 228 = 1 := by kernel_rfl
theorem qsn : Tryz.prog.cellsOf 9 = 1 := by kernel_rfl
theorem qnZ : Tryz.prog.globalNamed "strconv.ErrRange" = some 2 := by kernel_rfl
theorem qt4 : (Tryz.prog.globals[2]?).map (·.type) = some 137 := by kernel_rfl
theorem ql8 : Tryz.prog.globalNamed "strconv.ErrSyntax" = some 1 := by kernel_rfl
theorem qrI : (Tryz.prog.globals[1]?).map (·.type) = some 137 := by kernel_rfl
theorem globs {W : World} (hL : laidMet Tryz.prog Rows.fnExactDeskAfterRow.laid W) (hsh : W.ShapedOpen Tryz.prog) : qfu W := by
  have h0 : laidMet Tryz.prog [("math/bits.deBruijn32tab", Rows.laid_math_bits_deBruijn32tab), ("math/bits.deBruijn64tab", Rows.laid_math_bits_deBruijn64tab), ("internal/strconv.uint64pow10", Rows.laid_internal_strconv_uint64pow10), ("unicode/utf8.acceptRanges", Rows.laid_unicode_utf8_acceptRanges), ("strconv.ErrRange", Rows.laid_strconv_ErrRange), ("strconv.ErrSyntax", Rows.laid_strconv_ErrSyntax), ("unicode/utf8.first", Rows.laid_unicode_utf8_first)] W := hL
  obtain ⟨aErrRange, sErrRange, hvErrRange, -, -, -⟩ := laid_sentinel h0.tail.tail.tail.tail qnZ qt4 Tryz.underlying137 rowE Tryz.underlying226 Tryz.underlying228 rfl rfl Tryz.underlying9 cellsE qsn
  have hcErrRange : W.cell? ⟨2, 0, none⟩ = some (.iface 226 (.pointer (some aErrRange))) := by simpa using World.var?_cell qnZ hvErrRange 0
  obtain ⟨aErrSyntax, sErrSyntax, hvErrSyntax, -, -, -⟩ := laid_sentinel h0.tail.tail.tail.tail.tail ql8 qrI Tryz.underlying137 rowE Tryz.underlying226 Tryz.underlying228 rfl rfl Tryz.underlying9 cellsE qsn
  have hcErrSyntax : W.cell? ⟨1, 0, none⟩ = some (.iface 226 (.pointer (some aErrSyntax))) := by simpa using World.var?_cell ql8 hvErrSyntax 0
  have hm := Go.Proofs.cell_of_shapedOpen_int (g := 0) (t := 3) (zero := #[.int .i64 0]) (k := .i64) hsh (of_decide_eq_true (by kernel_rfl)) (by kernel_rfl) rfl (by kernel_rfl) (by kernel_rfl) Tryz.underlying3
  exact ⟨hm, ⟨_, hcErrSyntax, .inr ⟨_, _, rfl⟩⟩, ⟨_, hcErrRange, .inr ⟨_, _, rfl⟩⟩⟩
theorem gpow : Tryz.prog.globalNamed "internal/strconv.uint64pow10" = some 3 := by kernel_rfl
set_option maxRecDepth 100000 in
theorem globsAll {W : World} (hL : laidMet Tryz.prog Rows.fnExactDeskAfterRow.laid W) (hsh : W.ShapedOpen Tryz.prog) : qbc W := by
  have h0 : laidMet Tryz.prog [("math/bits.deBruijn32tab", Rows.laid_math_bits_deBruijn32tab), ("math/bits.deBruijn64tab", Rows.laid_math_bits_deBruijn64tab), ("internal/strconv.uint64pow10", Rows.laid_internal_strconv_uint64pow10), ("unicode/utf8.acceptRanges", Rows.laid_unicode_utf8_acceptRanges), ("strconv.ErrRange", Rows.laid_strconv_ErrRange), ("strconv.ErrSyntax", Rows.laid_strconv_ErrSyntax), ("unicode/utf8.first", Rows.laid_unicode_utf8_first)] W := hL
  refine ⟨globs hL hsh, ?_⟩
  have h1 := h0.tail.tail
  have e : (Rows.laid_internal_strconv_uint64pow10 : DataW Unit) = Lib.tabData .u64 Lib.pow10Tab := by kernel_rfl
  rw [e] at h1
  exact Lib.tabIs_of_head gpow (t := 219) (e := 68) (n := 20) (by kernel_rfl) (by kernel_rfl) (by kernel_rfl) (by kernel_rfl) (by kernel_rfl) h1
set_option maxRecDepth 100000 in
theorem lifted (os : Os) (started : os.Started) (H : Type) (enc : TypeId × Value → H) (F : Stop.Interp) :
    ReturnsInHanded {} Tryz.checked os 9 .any ((OpenSpec.ofChange Rows.fnExactDeskAfterSpec).preRow enc Tryz.prog Tryz.f9 Rows.fnExactDeskAfterRow.domain false Rows.fnExactDeskAfterRow.laid) (((OpenSpec.ofChange Rows.fnExactDeskAfterSpec).at F).post enc Tryz.prog Tryz.f9 false true false false) := by
  obtain ⟨places, hx⟩ := reads os enc
  refine returnsInHanded_of_row (C := Tryz.checked) (s := OpenSpec.ofChange Rows.fnExactDeskAfterSpec) own started (by kernel_rfl) Tryz.func9
    (witness_row_at (enc := enc) (C := Tryz.checked) false (qk9 os) #[Value.string ByteArray.empty] rfl (by kernel_rfl) (by kernel_rfl) (by kernel_rfl)
      (OpenSpec.preRow_of_cond 8 hx (by kernel_rfl) (fun k hk => by cases hk) (by kernel_rfl) (laid_met os))) ?_
  intro W base args ds gs before hval hW _ _ _ hL hsh _
  exact contract H enc W base args ds gs before hval hW (globsAll hL hsh)
theorem cl0_ : (Rows.fnExactDeskAfterRow.inPlace == Tryz.pinned.checked.prog.inPlace 9) = true := by kernel_rfl
theorem cl1_ : (Rows.fnExactDeskAfterRow.unfollowed == Tryz.pinned.checked.prog.unfollowed 9) = true := by kernel_rfl
theorem cl2_ : (Rows.fnExactDeskAfterRow.recurses == Tryz.pinned.checked.prog.recurses 9) = true := by kernel_rfl
theorem cl3_ : (Rows.fnExactDeskAfterRow.named == Tryz.pinned.checked.prog.varsNamed 9) = true := by kernel_rfl
theorem closed_ : joinedFacts Tryz.pinned.checked.prog 9 Tryz.f9 (OpenSpec.ofChange Rows.fnExactDeskAfterSpec).bare Rows.fnExactDeskAfterRow = true := by
  unfold joinedFacts
  rw [cl0_, cl1_, cl2_, cl3_]
  kernel_rfl
theorem said : Rows.FnExactDeskAfterSaid :=
  OpenClaim.holds_of_cond 9 Tryz.f9 rfl rfl rfl rfl rfl rfl rfl ⟨rfl, rfl, rfl, rfl, rfl⟩ rfl rfl rfl rfl rfl (by kernel_rfl) Tryz.func9 closed_
    (of_decide_eq_true (by kernel_rfl)) (by unfold Func.isWrapper; first | (rw [if_pos (by decide +kernel)]; kernel_rfl) | (rw [if_neg (by decide +kernel)]; exact ⟨rfl, rfl⟩))
    (fun os started H enc _ F => by rw [OpenClaim.pre_eq_preRow]; exact lifted os started H enc F)
theorem plain (f : FuncId) (fn : Func) (hf : Tryz.pinned.checked.prog.funcNamed "loop.example/g01235/laws.FnExactDeskAfter" = some f) (hfn : Tryz.pinned.checked.prog.funcs[f]? = some fn) :
    true = Tryz.pinned.checked.prog.looks [] ∧ ∀ (j : Nat) t, fn.params[j]? = some t → Tryz.pinned.checked.prog.wantsStandIn t = false := by
  obtain rfl : f = 9 := Option.some.inj ((show Tryz.prog.funcNamed "loop.example/g01235/laws.FnExactDeskAfter" = some 9 by kernel_rfl).symm.trans hf) |>.symm
  obtain rfl : fn = Tryz.f9 := (Option.some.inj (Tryz.func9.symm.trans hfn)).symm
  refine ⟨by kernel_rfl, fun j t ht => ?_⟩
  rw [Tryz.params9] at ht
  have hm : t = 9 := by simpa using Array.mem_of_getElem? ht
  rcases hm with rfl
  · exact (show Tryz.prog.wantsStandIn 9 = false by kernel_rfl)
theorem card : Rows.FnExactDeskAfterCardSaid :=
  Claim7.holds_tied_plain_at .later [] _ _ _ _ said (fun _ h => by cases h) (by kernel_rfl) (fun _ h => by cases h) fnExactDeskAfter_row_tie rfl ⟨rfl, rfl⟩ (by kernel_rfl) rfl plain (by kernel_rfl)
end Go.Proofs.YtjeoabbnalamcaaGreatDoor.fnExactDeskAfter
namespace Go.Proofs.YtjeoabbnalamcaaGreatDoor
theorem fnExactDeskAfter_holds : Rows.FnExactDeskAfterCardSaid := fnExactDeskAfter.card
end Go.Proofs.YtjeoabbnalamcaaGreatDoor
