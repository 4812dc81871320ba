/- The given statement of FnPuzzlesSieved: for every argument the law returns true and its arguments read behind the call as before. Proved in this text: its theorems. Conditions: as each theorem states them. -/
import Derived.Test.YtgmfaleamhpfjaaDoorRows
import Derived.Test.YtgmfaleamhpfjaaDoorCards
import Derived.Test.YtgmfaleamhpfjaaDoorTie
import Derived.Test.YtgmfaleamhpfjaaDoorCFnPuzzlesSievedF0
import Derived.Test.YtgmfaleamhpfjaaDoorCFnPuzzlesSievedF1
import Derived.Test.YtgmfaleamhpfjaaDoorCFnPuzzlesSievedF2
import Derived.Test.YtgmfaleamhpfjaaDoorCFnPuzzlesSievedF3
import Derived.Test.YtgmfaleamhpfjaaDoorCFnPuzzlesSievedQ0
import Derived.WalkKit
import Derived.ProofKit
import Derived.OpenShut
import Derived.ShutString
import Derived.ChangeOld
import Derived.Below
import Derived.SizedLaws
import Derived.Carry
import Derived.Deep.DeepHandedRow
import Derived.Lib.LaidTab

namespace Go.Proofs.YtgmfaleamhpfjaaDoor.fnPuzzlesSieved
open Go.ChangeShapes Go.WideShapes Go.ChangeAt Go.RowKit Go.Proofs.YtgmfaleamhpfjaaDoor.P Go.Proofs.YtgmfaleamhpfjaaDoorW.PrintWords Go.Proofs.YtgmfaleamhpfjaaDoorW.PrintLast
open Go.ChangeMaps (open_string shut_string)
set_option linter.unusedVariables false
theorem own : ownKnob Tryd.prog.godebug = none := by kernel_rfl
theorem laidOut : laidOutB Tryd.prog = true := by kernel_rfl
set_option maxHeartbeats 1000000 in
set_option maxRecDepth 100000 in
theorem contract (H : Type) (enc : TypeId × Value → H) (W : World) (base : Nat) (args : Array Value) (ds gs : List (DataW H)) (before : List MemPlace)
    (hval0 : ∀ (j : Nat) t v, Tryd.f3.params[j]? = some t → args[j]? = some v → Value.okWide Tryd.prog W .any base t v)
    (hW : DataW.Whole enc Tryd.prog Tryd.f3.params.toList Rows.fnPuzzlesSievedSpec.vars false W args.toList ds gs before) :
    Calls Tryd.prog 3 args W fun e W' => ∃ v, e = .returned v ∧ Rows.fnPuzzlesSievedSpec.post enc Tryd.prog Tryd.f3 false true false false W args v W' := by
  have hval : ∀ (j : Nat) t v, Tryd.f3.params[j]? = some t → args[j]? = some v → Value.okWide Tryd.prog W .any base t v := hval0
  have hW' := hW
  obtain ⟨p, q, hA0, hV, rfl, hfz, hnd⟩ := hW
  have hA : DataW.TrodAll enc Tryd.prog W 0 (fun _ => true) true Tryd.f3.params.toList args.toList ds p := hA0
  rw [Tryd.params3] at hA hval
  obtain ⟨v0, vs0, d0, ds0, p0, q0, hargs, rfl, rfl, h0, r0⟩ := trodAll_cons hA
  obtain ⟨v1, vs1, d1, ds1, p1, q1, rfl, rfl, rfl, h1, r1⟩ := trodAll_cons r0
  obtain ⟨rfl, rfl, rfl⟩ := trodAll_nil r1
  obtain rfl : args = #[v0, v1] := by cases args; simp_all
  have k0 := h0
  have lt0 : ∀ x ∈ p0, x.block < W.heap.size := by obtain ⟨m, hm⟩ := k0; exact DataW.trod_lt m _ _ _ hm
  obtain ⟨a0_, len0_, cap0_, rfl⟩ := okWide_slice Tryd.underlying22 (hval 0 22 v0 rfl rfl)
  obtain ⟨fu0, hf0⟩ := h0
  have hg0 : DataW.trod enc Tryd.prog W 0 (fun _ => true) true fu0 22 [.slice a0_ len0_ cap0_] = some (d0, p0) := by simpa [Value.cells] using hf0
  obtain ⟨A0, n0, c0, l0, e0, g0, hc0, hm0, hw0, hr0⟩ := open_nums Tryd.underlying22 Tryd.underlying5 (by kernel_rfl) hg0
  obtain rfl := g0
  simp only [Value.slice.injEq] at e0
  obtain ⟨ea0, en0, ec0⟩ := e0
  obtain rfl := ea0.symm
  obtain rfl := en0.symm
  obtain rfl := ec0.symm
  have k1 := h1
  have lt1 : ∀ x ∈ p1, x.block < W.heap.size := by obtain ⟨m, hm⟩ := k1; exact DataW.trod_lt m _ _ _ hm
  obtain ⟨a1_, len1_, cap1_, rfl⟩ := okWide_slice Tryd.underlying22 (hval 1 22 v1 rfl rfl)
  obtain ⟨fu1, hf1⟩ := h1
  have hg1 : DataW.trod enc Tryd.prog W 0 (fun _ => true) true fu1 22 [.slice a1_ len1_ cap1_] = some (d1, p1) := by simpa [Value.cells] using hf1
  obtain ⟨A1, n1, c1, l1, e1, g1, hc1, hm1, hw1, hr1⟩ := open_nums Tryd.underlying22 Tryd.underlying5 (by kernel_rfl) hg1
  obtain rfl := g1
  simp only [Value.slice.injEq] at e1
  obtain ⟨ea1, en1, ec1⟩ := e1
  obtain rfl := ea1.symm
  obtain rfl := en1.symm
  obtain rfl := ec1.symm
  obtain ⟨rfl, rfl⟩ := trodVars_none hV
  clear hA0 hval0
  obtain ⟨k, hk⟩ := P.FnPuzzlesSieved l0 l1 hm0 hw0 hm1 hw1
  refine (laws_FnPuzzlesSieved.calls k A0 c0 l0 A1 c1 l1 W hr0 hc0 hr1 hc1 hk).mono fun e W' ⟨he, bel0⟩ => ?_
  have bel : Below W.heap.size W W' := by first | exact bel0 | exact bel0.below
  subst he
  exact ⟨_, rfl, _, _, _, [], _, [], hW', trodAll_mk1 (shut_bool Tryd.underlying4 _), (trodAll_cons_mk (Below.trod laidOut (by kernel_rfl) (of_decide_eq_true (by kernel_rfl)) k0 bel lt0) (trodAll_cons_mk (Below.trod laidOut (by kernel_rfl) (of_decide_eq_true (by kernel_rfl)) k1 bel lt1) trodAll_mk0)), rfl, bel.frame _, fun h => by cases h⟩
def datCell : DataW Unit → Value
  | .lit (.int k n) => .int k n
  | _ => .bool false
def datCells : DataW Unit → List Value
  | .agg l => l.flatMap fun | .agg m => m.map datCell | d => [datCell d]
  | _ => []
noncomputable def laidWorld (os : Os) : World :=
  { World.holding Tryd.prog os ⟨#[], #[], []⟩ with heap := (((World.holding Tryd.prog os ⟨#[], #[], []⟩).heap.modify 1 fun
      | .cells _ t frozen => .cells (datCells Rows.laid_unicode_utf8_acceptRanges).toArray t frozen
      | o => o).modify 0 fun
      | .cells _ t frozen => .cells (datCells Rows.laid_unicode_utf8_first).toArray t frozen
      | o => o) }
set_option maxRecDepth 100000 in
theorem laid_met (os : Os) : laidMet Tryd.prog Rows.fnPuzzlesSievedRow.laid ((laidWorld os).forCall (fun _ _ => 0) ⟨#[], #[Value.slice none 0 0, Value.slice none 0 0], []⟩).memory :=
  laidMet_of_run' 8 (by kernel_rfl) (by kernel_rfl)
theorem reads (os : Os) {H : Type} (enc : TypeId × Value → H) : ∃ places, DataW.whole enc Tryd.prog ((laidWorld os).forCall (fun _ _ => 0) ⟨#[], #[Value.slice none 0 0, Value.slice none 0 0], []⟩).memory Tryd.f3.params.toList Rows.fnPuzzlesSievedSpec.vars false (#[Value.slice none 0 0, Value.slice none 0 0] : Array Value).toList 8 = some ([.nil, .nil], [], places) :=
  ⟨[], by kernel_rfl⟩
set_option maxRecDepth 100000 in
theorem lifted (os : Os) (started : os.Started) (H : Type) (enc : TypeId × Value → H) (F : Stop.Interp) :
    ReturnsInHanded {} Tryd.checked os 3 .any ((OpenSpec.ofChange Rows.fnPuzzlesSievedSpec).preRow enc Tryd.prog Tryd.f3 Rows.fnPuzzlesSievedRow.domain false Rows.fnPuzzlesSievedRow.laid) (((OpenSpec.ofChange Rows.fnPuzzlesSievedSpec).at F).post enc Tryd.prog Tryd.f3 false true false false) := by
  obtain ⟨places, hx⟩ := reads os enc
  refine returnsInHanded_of_row (C := Tryd.checked) (s := OpenSpec.ofChange Rows.fnPuzzlesSievedSpec) own started (by kernel_rfl) Tryd.func3
    (witness_row_at (enc := enc) (C := Tryd.checked) false (laidWorld os) #[Value.slice none 0 0, Value.slice none 0 0] rfl (by kernel_rfl) (by kernel_rfl) (by kernel_rfl)
      (OpenSpec.preRow_of_cond 8 hx (by kernel_rfl) (fun k hk => by cases hk) (by kernel_rfl) (laid_met os))) ?_
  intro W base args ds gs before hval hW _ _ _ hL hsh _
  exact contract H enc W base args ds gs before hval hW
theorem said : Rows.FnPuzzlesSievedSaid :=
  OpenClaim.holds_of_cond 3 Tryd.f3 rfl rfl rfl rfl rfl rfl rfl ⟨rfl, rfl, rfl, rfl, rfl⟩ rfl rfl rfl rfl rfl (by kernel_rfl) Tryd.func3 (by kernel_rfl)
    (of_decide_eq_true (by kernel_rfl)) (by unfold Func.isWrapper; first | (rw [if_pos (by decide +kernel)]; kernel_rfl) | (rw [if_neg (by decide +kernel)]; exact ⟨rfl, rfl⟩))
    (fun os started H enc _ F => by rw [OpenClaim.pre_eq_preRow]; exact lifted os started H enc F)
theorem plain (f : FuncId) (fn : Func) (hf : Tryd.pinned.checked.prog.funcNamed "loop.example/g01235/laws.FnPuzzlesSieved" = some f) (hfn : Tryd.pinned.checked.prog.funcs[f]? = some fn) :
    false = Tryd.pinned.checked.prog.looks [] ∧ ∀ (j : Nat) t, fn.params[j]? = some t → Tryd.pinned.checked.prog.wantsStandIn t = false := by
  obtain rfl : f = 3 := Option.some.inj ((show Tryd.prog.funcNamed "loop.example/g01235/laws.FnPuzzlesSieved" = some 3 by kernel_rfl).symm.trans hf) |>.symm
  obtain rfl : fn = Tryd.f3 := (Option.some.inj (Tryd.func3.symm.trans hfn)).symm
  refine ⟨by kernel_rfl, fun j t ht => ?_⟩
  rw [Tryd.params3] at ht
  have hm : t = 22 ∨ t = 22 := by simpa using Array.mem_of_getElem? ht
  rcases hm with rfl | rfl
  · exact (show Tryd.prog.wantsStandIn 22 = false by kernel_rfl)
  · exact (show Tryd.prog.wantsStandIn 22 = false by kernel_rfl)
theorem card : Rows.FnPuzzlesSievedCardSaid :=
  Claim7.holds_tied_plain_at .later [] _ _ _ _ said (fun _ h => by cases h) (by kernel_rfl) (fun _ h => by cases h) fnPuzzlesSieved_row_tie rfl ⟨rfl, rfl⟩ (by kernel_rfl) rfl plain (by kernel_rfl)
end Go.Proofs.YtgmfaleamhpfjaaDoor.fnPuzzlesSieved
namespace Go.Proofs.YtgmfaleamhpfjaaDoor
theorem fnPuzzlesSieved_holds : Rows.FnPuzzlesSievedCardSaid := fnPuzzlesSieved.card
end Go.Proofs.YtgmfaleamhpfjaaDoor
