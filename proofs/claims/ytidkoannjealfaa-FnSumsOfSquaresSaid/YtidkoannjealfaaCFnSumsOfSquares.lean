/- The given statement of FnSumsOfSquares: for every argument the law returns true and its arguments read behind the call as before. Proved in this text: its theorems. Conditions: as each theorem states them. -/
import Derived.Test.YtidkoannjealfaaRows
import Derived.Test.YtidkoannjealfaaCFnSumsOfSquaresF0
import Derived.Test.YtidkoannjealfaaCFnSumsOfSquaresF1
import Derived.Test.YtidkoannjealfaaCFnSumsOfSquaresQ0
import Derived.WalkKit
import Derived.ProofKit
import Derived.OpenShut
import Derived.ShutString
import Derived.ChangeOld
import Derived.Below
import Derived.SizedLaws
import Derived.Carry

namespace Go.Proofs.Ytidkoannjealfaa.fnSumsOfSquares
open Go.ChangeShapes Go.WideShapes Go.ChangeAt Go.RowKit Go.Proofs.Ytidkoannjealfaa.P Go.Proofs.YtidkoannjealfaaW.PrintWords Go.Proofs.YtidkoannjealfaaW.PrintLast
open Go.ChangeMaps (open_string shut_string)
set_option linter.unusedVariables false
theorem own : ownKnob Try.prog.godebug = none := by kernel_rfl
theorem laidOut : laidOutB Try.prog = true := by kernel_rfl
set_option maxHeartbeats 1000000 in
set_option maxRecDepth 100000 in
theorem lifted (os : Os) (started : os.Started) (H : Type) (enc : TypeId × Value → H) :
    ReturnsInHanded {} Try.checked os 3 .any (Rows.fnSumsOfSquaresSpec.pre6 enc Try.prog Try.f3 Rows.fnSumsOfSquaresRow.domain false) (Rows.fnSumsOfSquaresSpec.post enc Try.prog Try.f3 false true false false) := by
  refine returnsInHanded_of_change_sized (C := Try.checked) own started (by kernel_rfl) Try.func3
    (ChangeSpec.witness6 (enc := enc) (C := Try.checked) false ⟨#[], #[.slice none 0 0, .slice none 0 0], []⟩ 8 (by kernel_rfl) (by kernel_rfl) (by kernel_rfl) (by kernel_rfl)) ?_
  intro W base args ds gs before hval0 hW hcnd hsz0 _
  have hval : ∀ (j : Nat) t v, Try.f3.params[j]? = some t → args[j]? = some v → Value.okWide Try.prog W .any base t v := hval0
  have hW' := hW
  obtain ⟨p, q, hA0, hV, rfl, hfz, hnd⟩ := hW
  have hA : DataW.TrodAll enc Try.prog W 0 (fun _ => true) true Try.f3.params.toList args.toList ds p := hA0
  rw [Try.params3] at hA hval
  obtain ⟨v0, vs0, d0, ds0, p0, q0, hargs, rfl, rfl, h0, r0⟩ := trodAll_cons hA
  obtain ⟨v1, vs1, d1, ds1, p1, q1, rfl, rfl, rfl, h1, r1⟩ := trodAll_cons r0
  obtain ⟨rfl, rfl, rfl⟩ := trodAll_nil r1
  obtain rfl : args = #[v0, v1] := by cases args; simp_all
  have k0 := h0
  have lt0 : ∀ x ∈ p0, x.block < W.heap.size := by obtain ⟨m, hm⟩ := k0; exact DataW.trod_lt m _ _ _ hm
  obtain ⟨a0_, len0_, cap0_, rfl⟩ := okWide_slice Try.underlying22 (hval 0 22 v0 rfl rfl)
  obtain ⟨fu0, hf0⟩ := h0
  have hg0 : DataW.trod enc Try.prog W 0 (fun _ => true) true fu0 22 [.slice a0_ len0_ cap0_] = some (d0, p0) := by simpa [Value.cells] using hf0
  obtain ⟨A0, n0, c0, l0, e0, g0, hc0, hm0, hw0, hr0⟩ := open_nums Try.underlying22 Try.underlying5 (by kernel_rfl) hg0
  obtain rfl := g0
  simp only [Value.slice.injEq] at e0
  obtain ⟨ea0, en0, ec0⟩ := e0
  obtain rfl := ea0.symm
  obtain rfl := en0.symm
  obtain rfl := ec0.symm
  have k1 := h1
  have lt1 : ∀ x ∈ p1, x.block < W.heap.size := by obtain ⟨m, hm⟩ := k1; exact DataW.trod_lt m _ _ _ hm
  obtain ⟨a1_, len1_, cap1_, rfl⟩ := okWide_slice Try.underlying22 (hval 1 22 v1 rfl rfl)
  obtain ⟨fu1, hf1⟩ := h1
  have hg1 : DataW.trod enc Try.prog W 0 (fun _ => true) true fu1 22 [.slice a1_ len1_ cap1_] = some (d1, p1) := by simpa [Value.cells] using hf1
  obtain ⟨A1, n1, c1, l1, e1, g1, hc1, hm1, hw1, hr1⟩ := open_nums Try.underlying22 Try.underlying5 (by kernel_rfl) hg1
  obtain rfl := g1
  simp only [Value.slice.injEq] at e1
  obtain ⟨ea1, en1, ec1⟩ := e1
  obtain rfl := ea1.symm
  obtain rfl := en1.symm
  obtain rfl := ec1.symm
  obtain ⟨rfl, rfl⟩ := trodVars_none hV
  clear hA0 hval0 hsz0
  obtain ⟨k, hk⟩ := P.FnSumsOfSquares l0 l1 hm0 hw0 hm1 hw1
  refine (laws_FnSumsOfSquares.calls k A0 c0 l0 A1 c1 l1 W hr0 hc0 hr1 hc1 hk).mono fun e W' ⟨he, bel0⟩ => ?_
  have bel : Below W.heap.size W W' := by first | exact bel0 | exact bel0.below
  subst he
  exact ⟨_, rfl, _, _, _, [], _, [], hW', trodAll_mk1 (shut_bool Try.underlying4 _), (trodAll_cons_mk (Below.trod laidOut (by kernel_rfl) (of_decide_eq_true (by kernel_rfl)) k0 bel lt0) (trodAll_cons_mk (Below.trod laidOut (by kernel_rfl) (of_decide_eq_true (by kernel_rfl)) k1 bel lt1) trodAll_mk0)), rfl, bel.frame _, fun h => by cases h⟩
theorem over : Rows.fnSumsOfSquaresRow.holds Try.pinned (OpenSpec.ofChange Rows.fnSumsOfSquaresSpec) :=
  OpenClaim.holds_of_wide 3 Try.f3 rfl rfl rfl rfl rfl rfl rfl ⟨rfl, rfl, rfl, rfl, rfl⟩ rfl rfl rfl rfl rfl (by kernel_rfl) Try.func3 (by kernel_rfl)
    (of_decide_eq_true (by kernel_rfl)) (by unfold Func.isWrapper; first | (rw [if_pos (by decide +kernel)]; kernel_rfl) | (rw [if_neg (by decide +kernel)]; exact ⟨rfl, rfl⟩))
    (fun os started H enc _ => lifted os started H enc)
theorem proved : Rows.FnSumsOfSquaresSaid := over
end Go.Proofs.Ytidkoannjealfaa.fnSumsOfSquares
namespace Go.Proofs.Ytidkoannjealfaa
theorem fnSumsOfSquares_holds : Rows.FnSumsOfSquaresSaid := fnSumsOfSquares.proved
end Go.Proofs.Ytidkoannjealfaa
