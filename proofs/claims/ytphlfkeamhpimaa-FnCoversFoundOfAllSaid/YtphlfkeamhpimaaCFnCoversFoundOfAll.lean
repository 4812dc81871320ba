/- The given statement of FnCoversFoundOfAll: for every argument the law returns true and its arguments read behind the call as before. Proved in this text: its theorems. Conditions: as each theorem states them. -/
import Derived.Test.YtphlfkeamhpimaaRows
import Derived.Test.YtphlfkeamhpimaaCFnCoversFoundOfAllF0
import Derived.Test.YtphlfkeamhpimaaCFnCoversFoundOfAllF1
import Derived.Test.YtphlfkeamhpimaaCFnCoversFoundOfAllF2
import Derived.Test.YtphlfkeamhpimaaCFnCoversFoundOfAllF3
import Derived.Test.YtphlfkeamhpimaaCFnCoversFoundOfAllQ0
import Derived.WalkKit
import Derived.ProofKit
import Derived.OpenShut
import Derived.ShutString
import Derived.ChangeOld
import Derived.Below
import Derived.SizedLaws
import Derived.Carry

namespace Go.Proofs.Ytphlfkeamhpimaa.fnCoversFoundOfAll
open Go.ChangeShapes Go.WideShapes Go.ChangeAt Go.RowKit Go.Proofs.Ytphlfkeamhpimaa.P Go.Proofs.YtphlfkeamhpimaaW.PrintWords Go.Proofs.YtphlfkeamhpimaaW.PrintLast
open Go.ChangeMaps (open_string shut_string)
set_option linter.unusedVariables false
theorem own : ownKnob Try.prog.godebug = none := by kernel_rfl
theorem laidOut : laidOutB Try.prog = true := by kernel_rfl
theorem C_Rule {w : World} {a : Option Addr} {l : List (Int × Int)} (hm : l.length ≤ 9223372036854775807) (h : 0 < l.length → ∃ ad, a = some ad ∧ ∀ j p, l[j]? = some p → w.cell? (ad.add (j * 2)) = some (.int .i64 p.1) ∧ w.cell? (ad.add (j * 2 + 1)) = some (.int .i64 p.2)) :
    Kd.C kRule w a (l.map fun p => (⟨p.1, p.2⟩ : SRule)).length (l.map fun p => (⟨p.1, p.2⟩ : SRule)) := by
  refine ⟨rfl, by simpa using hm, fun hn => ?_⟩
  obtain ⟨ad, e, hc⟩ := h (by simpa using hn)
  refine ⟨ad, e, fun j p hj => ?_⟩
  simp only [List.getElem?_map, Option.map_eq_some_iff] at hj
  obtain ⟨q, hq, rfl⟩ := hj
  refine ⟨_, rfl, kRule_mk w _, fun i u hu => ?_⟩
  have h2 := hc j q hq
  match i, hu with
  | 0, hu => simp at hu; subst hu; simpa [kRule, Kd.iso, Kd.pair, Kd.int, Kd.scalar] using h2.1
  | 1, hu => simp at hu; subst hu; simpa [kRule, Kd.iso, Kd.pair, Kd.int, Kd.scalar] using h2.2
  | (i + 2), hu => simp at hu
set_option maxHeartbeats 1000000 in
set_option maxRecDepth 100000 in
theorem lifted (os : Os) (started : os.Started) (H : Type) (enc : TypeId × Value → H) :
    ReturnsInHanded {} Try.checked os 6 .any (Rows.fnCoversFoundOfAllSpec.pre6 enc Try.prog Try.f6 Rows.fnCoversFoundOfAllRow.domain false) (Rows.fnCoversFoundOfAllSpec.post enc Try.prog Try.f6 false true false false) := by
  refine returnsInHanded_of_change_sized (C := Try.checked) own started (by kernel_rfl) Try.func6
    (ChangeSpec.witness6 (enc := enc) (C := Try.checked) false ⟨#[], #[.slice none 0 0, .slice none 0 0, .int .i64 0, .slice none 0 0, .int .i64 0], []⟩ 8 (by kernel_rfl) (by kernel_rfl) (by kernel_rfl) (by kernel_rfl)) ?_
  intro W base args ds gs before hval0 hW hcnd hsz0 _
  have hval : ∀ (j : Nat) t v, Try.f6.params[j]? = some t → args[j]? = some v → Value.okWide Try.prog W .any base t v := hval0
  have hW' := hW
  obtain ⟨p, q, hA0, hV, rfl, hfz, hnd⟩ := hW
  have hA : DataW.TrodAll enc Try.prog W 0 (fun _ => true) true Try.f6.params.toList args.toList ds p := hA0
  rw [Try.params6] at hA hval
  obtain ⟨v0, vs0, d0, ds0, p0, q0, hargs, rfl, rfl, h0, r0⟩ := trodAll_cons hA
  obtain ⟨v1, vs1, d1, ds1, p1, q1, rfl, rfl, rfl, h1, r1⟩ := trodAll_cons r0
  obtain ⟨v2, vs2, d2, ds2, p2, q2, rfl, rfl, rfl, h2, r2⟩ := trodAll_cons r1
  obtain ⟨v3, vs3, d3, ds3, p3, q3, rfl, rfl, rfl, h3, r3⟩ := trodAll_cons r2
  obtain ⟨v4, vs4, d4, ds4, p4, q4, rfl, rfl, rfl, h4, r4⟩ := trodAll_cons r3
  obtain ⟨rfl, rfl, rfl⟩ := trodAll_nil r4
  obtain rfl : args = #[v0, v1, v2, v3, v4] := by cases args; simp_all
  have k0 := h0
  have lt0 : ∀ x ∈ p0, x.block < W.heap.size := by obtain ⟨m, hm⟩ := k0; exact DataW.trod_lt m _ _ _ hm
  obtain ⟨a0_, len0_, cap0_, rfl⟩ := okWide_slice Try.underlying22 (hval 0 22 v0 rfl rfl)
  obtain ⟨fu0, hf0⟩ := h0
  have hg0 : DataW.trod enc Try.prog W 0 (fun _ => true) true fu0 22 [.slice a0_ len0_ cap0_] = some (d0, p0) := by simpa [Value.cells] using hf0
  obtain ⟨A0, n0, c0, l0, e0, g0, hc0, hm0, hw0, hr0⟩ := open_nums Try.underlying22 Try.underlying3 (by kernel_rfl) hg0
  obtain rfl := g0
  simp only [Value.slice.injEq] at e0
  obtain ⟨ea0, en0, ec0⟩ := e0
  obtain rfl := ea0.symm
  obtain rfl := en0.symm
  obtain rfl := ec0.symm
  have k1 := h1
  have lt1 : ∀ x ∈ p1, x.block < W.heap.size := by obtain ⟨m, hm⟩ := k1; exact DataW.trod_lt m _ _ _ hm
  obtain ⟨a1_, len1_, cap1_, rfl⟩ := okWide_slice Try.underlying22 (hval 1 22 v1 rfl rfl)
  obtain ⟨fu1, hf1⟩ := h1
  have hg1 : DataW.trod enc Try.prog W 0 (fun _ => true) true fu1 22 [.slice a1_ len1_ cap1_] = some (d1, p1) := by simpa [Value.cells] using hf1
  obtain ⟨A1, n1, c1, l1, e1, g1, hc1, hm1, hw1, hr1⟩ := open_nums Try.underlying22 Try.underlying3 (by kernel_rfl) hg1
  obtain rfl := g1
  simp only [Value.slice.injEq] at e1
  obtain ⟨ea1, en1, ec1⟩ := e1
  obtain rfl := ea1.symm
  obtain rfl := en1.symm
  obtain rfl := ec1.symm
  obtain ⟨a2, rfl, rfl, rfl, w2⟩ := open_int Try.underlying3 (hval 2 3 v2 rfl rfl) h2
  have k3 := h3
  have lt3 : ∀ x ∈ p3, x.block < W.heap.size := by obtain ⟨m, hm⟩ := k3; exact DataW.trod_lt m _ _ _ hm
  obtain ⟨a3_, len3_, cap3_, rfl⟩ := okWide_slice Try.underlying30 (hval 3 30 v3 rfl rfl)
  obtain ⟨fu3, hf3⟩ := h3
  have hg3 : DataW.trod enc Try.prog W 0 (fun _ => true) true fu3 30 [.slice a3_ len3_ cap3_] = some (d3, p3) := by simpa [Value.cells] using hf3
  obtain ⟨A3, n3, c3, m3, e3, g3, hc3, hm3, hw3, hx3⟩ := open_pairs Try.underlying30 Try.underlying41 (by kernel_rfl) (by kernel_rfl) (by first | exact Try.underlying3 | kernel_rfl) (by first | exact Try.underlying3 | kernel_rfl) hg3
  have hr3 := C_Rule hm3 hx3
  have hl3 : (m3.map fun p => (⟨p.1, p.2⟩ : SRule)).length = m3.length := List.length_map _
  obtain ⟨l3, hL3⟩ : ∃ l, l = (m3.map fun p => (⟨p.1, p.2⟩ : SRule)) := ⟨_, rfl⟩
  rw [← hL3] at hr3 hl3
  clear hL3
  obtain rfl : n3 = l3.length := g3.trans hl3.symm
  rw [← hl3] at hm3
  simp only [Value.slice.injEq] at e3
  obtain ⟨ea3, en3, ec3⟩ := e3
  obtain rfl := ea3.symm
  obtain rfl := en3.symm
  obtain rfl := ec3.symm
  obtain ⟨a4, rfl, rfl, rfl, w4⟩ := open_int Try.underlying3 (hval 4 3 v4 rfl rfl) h4
  obtain ⟨rfl, rfl⟩ := trodVars_none hV
  clear hA0 hval0 hsz0
  obtain ⟨k, hk⟩ := P.FnCoversFoundOfAll l0 l1 a2 l3 a4 hm0 hw0 hm1 hw1 w2 hm3 w4
  refine (laws_FnCoversFoundOfAll.calls k A0 c0 l0 A1 c1 l1 a2 A3 c3 l3 a4 W hr0 hc0 hr1 hc1 hr3 hc3 hk).mono fun e W' ⟨he, bel0⟩ => ?_
  have bel : Below W.heap.size W W' := by first | exact bel0 | exact bel0.below
  subst he
  exact ⟨_, rfl, _, _, _, [], _, [], hW', trodAll_mk1 (shut_bool Try.underlying4 _), (trodAll_cons_mk (Below.trod laidOut (by kernel_rfl) (of_decide_eq_true (by kernel_rfl)) k0 bel lt0) (trodAll_cons_mk (Below.trod laidOut (by kernel_rfl) (of_decide_eq_true (by kernel_rfl)) k1 bel lt1) (trodAll_cons_mk (shut_int Try.underlying3 w2) (trodAll_cons_mk (Below.trod laidOut (by kernel_rfl) (of_decide_eq_true (by kernel_rfl)) k3 bel lt3) (trodAll_cons_mk (shut_int Try.underlying3 w4) trodAll_mk0))))), rfl, bel.frame _, fun h => by cases h⟩
theorem over : Rows.fnCoversFoundOfAllRow.holds Try.pinned (OpenSpec.ofChange Rows.fnCoversFoundOfAllSpec) :=
  OpenClaim.holds_of_wide 6 Try.f6 rfl rfl rfl rfl rfl rfl rfl ⟨rfl, rfl, rfl, rfl, rfl⟩ rfl rfl rfl rfl rfl (by kernel_rfl) Try.func6 (by kernel_rfl)
    (of_decide_eq_true (by kernel_rfl)) (by unfold Func.isWrapper; first | (rw [if_pos (by decide +kernel)]; kernel_rfl) | (rw [if_neg (by decide +kernel)]; exact ⟨rfl, rfl⟩))
    (fun os started H enc _ => lifted os started H enc)
theorem proved : Rows.FnCoversFoundOfAllSaid := over
end Go.Proofs.Ytphlfkeamhpimaa.fnCoversFoundOfAll
namespace Go.Proofs.Ytphlfkeamhpimaa
theorem fnCoversFoundOfAll_holds : Rows.FnCoversFoundOfAllSaid := fnCoversFoundOfAll.proved
end Go.Proofs.Ytphlfkeamhpimaa
