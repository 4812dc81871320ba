/- The given statement of FnExactIsDesk: for every argument the law returns true and its arguments read behind the call as before. Proved in this text: its theorems. Conditions: as each theorem states them. -/
import Derived.Test.YtfagnnjjojklaaaRows
import Derived.Test.YtfagnnjjojklaaaCFnExactIsDeskF0
import Derived.Test.YtfagnnjjojklaaaCFnExactIsDeskQ0
import Derived.WalkKit
import Derived.ProofKit
import Derived.OpenShut
import Derived.ShutString
import Derived.ChangeOld
import Derived.Below
import Derived.SizedLaws
import Derived.Carry

namespace Go.Proofs.Ytfagnnjjojklaaa.fnExactIsDesk
open Go.ChangeShapes Go.WideShapes Go.ChangeAt Go.RowKit Go.Proofs.Ytfagnnjjojklaaa.P Go.Proofs.YtfagnnjjojklaaaW.PrintWords Go.Proofs.YtfagnnjjojklaaaW.PrintLast
open Go.ChangeMaps (open_string shut_string)
set_option linter.unusedVariables false
theorem own : ownKnob Try.prog.godebug = none := by kernel_rfl
theorem laidOut : laidOutB Try.prog = true := by kernel_rfl
theorem C_LRule {w : World} {a : Option Addr} {l : List (Int × Int)} (hm : l.length ≤ 9223372036854775807) (h : 0 < l.length → ∃ ad, a = some ad ∧ ∀ j p, l[j]? = some p → w.cell? (ad.add (j * 2)) = some (.int .i64 p.1) ∧ w.cell? (ad.add (j * 2 + 1)) = some (.int .i64 p.2)) :
    Kd.C kLRule w a (l.map fun p => (⟨p.1, p.2⟩ : SLRule)).length (l.map fun p => (⟨p.1, p.2⟩ : SLRule)) := by
  refine ⟨rfl, by simpa using hm, fun hn => ?_⟩
  obtain ⟨ad, e, hc⟩ := h (by simpa using hn)
  refine ⟨ad, e, fun j p hj => ?_⟩
  simp only [List.getElem?_map, Option.map_eq_some_iff] at hj
  obtain ⟨q, hq, rfl⟩ := hj
  refine ⟨_, rfl, kLRule_mk w _, fun i u hu => ?_⟩
  have h2 := hc j q hq
  match i, hu with
  | 0, hu => simp at hu; subst hu; simpa [kLRule, Kd.iso, Kd.pair, Kd.int, Kd.scalar] using h2.1
  | 1, hu => simp at hu; subst hu; simpa [kLRule, Kd.iso, Kd.pair, Kd.int, Kd.scalar] using h2.2
  | (i + 2), hu => simp at hu
set_option maxRecDepth 100000 in
theorem lifted (os : Os) (started : os.Started) (H : Type) (enc : TypeId × Value → H) :
    ReturnsInHanded {} Try.checked os 3 .any (Rows.fnExactIsDeskSpec.pre6 enc Try.prog Try.f3 Rows.fnExactIsDeskRow.domain false) (Rows.fnExactIsDeskSpec.post enc Try.prog Try.f3 false true false false) := by
  refine returnsInHanded_of_change_sized (C := Try.checked) own started (by kernel_rfl) Try.func3
    (ChangeSpec.witness6 (enc := enc) (C := Try.checked) false ⟨#[], #[.agg #[.slice none 0 0, .int .i64 0]], []⟩ 8 (by kernel_rfl) (by kernel_rfl) (by kernel_rfl) (by kernel_rfl)) ?_
  intro W base args ds gs before hval0 hW hcnd hsz0 _
  have hval : ∀ (j : Nat) t v, Try.f3.params[j]? = some t → args[j]? = some v → Value.okWide Try.prog W .any base t v := hval0
  have hW' := hW
  obtain ⟨p, q, hA0, hV, rfl, hfz, hnd⟩ := hW
  have hA : DataW.TrodAll enc Try.prog W 0 (fun _ => true) true Try.f3.params.toList args.toList ds p := hA0
  rw [Try.params3] at hA hval
  obtain ⟨v0, vs0, d0, ds0, p0, q0, hargs, rfl, rfl, h0, r0⟩ := trodAll_cons hA
  obtain ⟨rfl, rfl, rfl⟩ := trodAll_nil r0
  obtain rfl : args = #[v0] := by cases args; simp_all
  have k0 := h0
  have lt0 : ∀ x ∈ p0, x.block < W.heap.size := by obtain ⟨m, hm⟩ := k0; exact DataW.trod_lt m _ _ _ hm
  obtain ⟨u0_0, u0_1, y0_0, y0_1, fu0, rfl, -, -, t0_0, t0_1⟩ := Joins.open_agg2 Try.underlying24 (by kernel_rfl) (by kernel_rfl) (hval 0 24 v0 rfl rfl) h0
  obtain ⟨A0_0, n0_0, c0_0, m0_0, e0_0, g0_0, hc0_0, hm0_0, hw0_0, hx0_0⟩ := open_pairs Try.underlying22 Try.underlying69 (by kernel_rfl) (by kernel_rfl) (by first | exact Try.underlying3 | kernel_rfl) (by first | exact Try.underlying3 | kernel_rfl) t0_0
  have hr0_0 := C_LRule hm0_0 hx0_0
  have hl0_0 : (m0_0.map fun p => (⟨p.1, p.2⟩ : SLRule)).length = m0_0.length := List.length_map _
  obtain ⟨l0_0, hL0_0⟩ : ∃ l, l = (m0_0.map fun p => (⟨p.1, p.2⟩ : SLRule)) := ⟨_, rfl⟩
  rw [← hL0_0] at hr0_0 hl0_0
  clear hL0_0
  obtain rfl : n0_0 = l0_0.length := g0_0.trans hl0_0.symm
  rw [← hl0_0] at hm0_0
  subst e0_0
  obtain ⟨a0_1, e0_1, -, w0_1⟩ := DataW.trod_int Try.underlying3 t0_1
  simp only [List.cons.injEq, and_true] at e0_1
  subst e0_1
  obtain ⟨rfl, rfl⟩ := trodVars_none hV
  clear hA0 hval0 hsz0
  obtain ⟨k, hk⟩ := P.FnExactIsDesk l0_0 a0_1 hm0_0 w0_1
  refine (laws_FnExactIsDesk.calls k A0_0 c0_0 l0_0 a0_1 W hr0_0 hc0_0 hk).mono fun e W' ⟨he, bel0⟩ => ?_
  have bel : Below W.heap.size W W' := by first | exact bel0 | exact bel0.below
  subst he
  exact ⟨_, rfl, _, _, _, [], _, [], hW', trodAll_mk1 (shut_bool Try.underlying4 _), (trodAll_cons_mk (Below.trod laidOut (by kernel_rfl) (of_decide_eq_true (by kernel_rfl)) k0 bel lt0) trodAll_mk0), rfl, bel.frame _, fun h => by cases h⟩
theorem over : Rows.fnExactIsDeskRow.holds Try.pinned (OpenSpec.ofChange Rows.fnExactIsDeskSpec) :=
  OpenClaim.holds_of_wide 3 Try.f3 rfl rfl rfl rfl rfl rfl rfl ⟨rfl, rfl, rfl, rfl, rfl⟩ rfl rfl rfl rfl rfl (by kernel_rfl) Try.func3 (by kernel_rfl)
    (of_decide_eq_true (by kernel_rfl)) (by unfold Func.isWrapper; first | (rw [if_pos (by decide +kernel)]; kernel_rfl) | (rw [if_neg (by decide +kernel)]; exact ⟨rfl, rfl⟩))
    (fun os started H enc _ => lifted os started H enc)
theorem proved : Rows.FnExactIsDeskSaid := over
end Go.Proofs.Ytfagnnjjojklaaa.fnExactIsDesk
namespace Go.Proofs.Ytfagnnjjojklaaa
theorem fnExactIsDesk_holds : Rows.FnExactIsDeskSaid := fnExactIsDesk.proved
end Go.Proofs.Ytfagnnjjojklaaa
