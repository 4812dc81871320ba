/- The given statement of FnGapsToldOfAll: for every argument the law returns true and its arguments read behind the call as before. Proved in this text: its theorems. Conditions: as each theorem states them. -/
import Derived.Test.YtphlfkeamhpimaaRows
import Derived.Test.YtphlfkeamhpimaaCFnGapsToldOfAllF0
import Derived.Test.YtphlfkeamhpimaaCFnGapsToldOfAllF1
import Derived.Test.YtphlfkeamhpimaaCFnGapsToldOfAllF2
import Derived.Test.YtphlfkeamhpimaaCFnGapsToldOfAllF3
import Derived.Test.YtphlfkeamhpimaaCFnGapsToldOfAllF4
import Derived.Test.YtphlfkeamhpimaaCFnGapsToldOfAllQ0
import Derived.WalkKit
import Derived.ProofKit
import Derived.OpenShut
import Derived.ShutString
import Derived.ChangeOld
import Derived.Below
import Derived.SizedLaws
import Derived.Carry

namespace Go.Proofs.Ytphlfkeamhpimaa.fnGapsToldOfAll
open Go.ChangeShapes Go.WideShapes Go.ChangeAt Go.RowKit Go.Proofs.Ytphlfkeamhpimaa.P Go.Proofs.YtphlfkeamhpimaaW.PrintWords Go.Proofs.YtphlfkeamhpimaaW.PrintLast
open Go.ChangeMaps (open_string shut_string)
set_option linter.unusedVariables false
theorem own : ownKnob Try.prog.godebug = none := by kernel_rfl
theorem laidOut : laidOutB Try.prog = true := by kernel_rfl
theorem C_Rule {w : World} {a : Option Addr} {l : List (Int × Int)} (hm : l.length ≤ 9223372036854775807) (h : 0 < l.length → ∃ ad, a = some ad ∧ ∀ j p, l[j]? = some p → w.cell? (ad.add (j * 2)) = some (.int .i64 p.1) ∧ w.cell? (ad.add (j * 2 + 1)) = some (.int .i64 p.2)) :
    Kd.C kRule w a (l.map fun p => (⟨p.1, p.2⟩ : SRule)).length (l.map fun p => (⟨p.1, p.2⟩ : SRule)) := by
  refine ⟨rfl, by simpa using hm, fun hn => ?_⟩
  obtain ⟨ad, e, hc⟩ := h (by simpa using hn)
  refine ⟨ad, e, fun j p hj => ?_⟩
  simp only [List.getElem?_map, Option.map_eq_some_iff] at hj
  obtain ⟨q, hq, rfl⟩ := hj
  refine ⟨_, rfl, kRule_mk w _, fun i u hu => ?_⟩
  have h2 := hc j q hq
  match i, hu with
  | 0, hu => simp at hu; subst hu; simpa [kRule, Kd.iso, Kd.pair, Kd.int, Kd.scalar] using h2.1
  | 1, hu => simp at hu; subst hu; simpa [kRule, Kd.iso, Kd.pair, Kd.int, Kd.scalar] using h2.2
  | (i + 2), hu => simp at hu
set_option maxHeartbeats 1000000 in
set_option maxRecDepth 100000 in
theorem lifted (os : Os) (started : os.Started) (H : Type) (enc : TypeId × Value → H) :
    ReturnsInHanded {} Try.checked os 7 .any (Rows.fnGapsToldOfAllSpec.pre6 enc Try.prog Try.f7 Rows.fnGapsToldOfAllRow.domain false) (Rows.fnGapsToldOfAllSpec.post enc Try.prog Try.f7 false true false false) := by
  refine returnsInHanded_of_change_sized (C := Try.checked) own started (by kernel_rfl) Try.func7
    (ChangeSpec.witness6 (enc := enc) (C := Try.checked) false ⟨#[], #[.slice none 0 0, .slice none 0 0, .int .i64 0, .slice none 0 0, .int .i64 0, .slice none 0 0, .int .i64 0, .slice none 0 0, .int .i64 0], []⟩ 8 (by kernel_rfl) (by kernel_rfl) (by kernel_rfl) (by kernel_rfl)) ?_
  intro W base args ds gs before hval0 hW hcnd hsz0 _
  have hval : ∀ (j : Nat) t v, Try.f7.params[j]? = some t → args[j]? = some v → Value.okWide Try.prog W .any base t v := hval0
  have hW' := hW
  obtain ⟨p, q, hA0, hV, rfl, hfz, hnd⟩ := hW
  have hA : DataW.TrodAll enc Try.prog W 0 (fun _ => true) true Try.f7.params.toList args.toList ds p := hA0
  rw [Try.params7] at hA hval
  obtain ⟨v0, vs0, d0, ds0, p0, q0, hargs, rfl, rfl, h0, r0⟩ := trodAll_cons hA
  obtain ⟨v1, vs1, d1, ds1, p1, q1, rfl, rfl, rfl, h1, r1⟩ := trodAll_cons r0
  obtain ⟨v2, vs2, d2, ds2, p2, q2, rfl, rfl, rfl, h2, r2⟩ := trodAll_cons r1
  obtain ⟨v3, vs3, d3, ds3, p3, q3, rfl, rfl, rfl, h3, r3⟩ := trodAll_cons r2
  obtain ⟨v4, vs4, d4, ds4, p4, q4, rfl, rfl, rfl, h4, r4⟩ := trodAll_cons r3
  obtain ⟨v5, vs5, d5, ds5, p5, q5, rfl, rfl, rfl, h5, r5⟩ := trodAll_cons r4
  obtain ⟨v6, vs6, d6, ds6, p6, q6, rfl, rfl, rfl, h6, r6⟩ := trodAll_cons r5
  obtain ⟨v7, vs7, d7, ds7, p7, q7, rfl, rfl, rfl, h7, r7⟩ := trodAll_cons r6
  obtain ⟨v8, vs8, d8, ds8, p8, q8, rfl, rfl, rfl, h8, r8⟩ := trodAll_cons r7
  obtain ⟨rfl, rfl, rfl⟩ := trodAll_nil r8
  obtain rfl : args = #[v0, v1, v2, v3, v4, v5, v6, v7, v8] := by cases args; simp_all
  have k0 := h0
  have lt0 : ∀ x ∈ p0, x.block < W.heap.size := by obtain ⟨m, hm⟩ := k0; exact DataW.trod_lt m _ _ _ hm
  obtain ⟨a0_, len0_, cap0_, rfl⟩ := okWide_slice Try.underlying30 (hval 0 30 v0 rfl rfl)
  obtain ⟨fu0, hf0⟩ := h0
  have hg0 : DataW.trod enc Try.prog W 0 (fun _ => true) true fu0 30 [.slice a0_ len0_ cap0_] = some (d0, p0) := by simpa [Value.cells] using hf0
  obtain ⟨A0, n0, c0, m0, e0, g0, hc0, hm0, hw0, hx0⟩ := open_pairs Try.underlying30 Try.underlying41 (by kernel_rfl) (by kernel_rfl) (by first | exact Try.underlying3 | kernel_rfl) (by first | exact Try.underlying3 | kernel_rfl) hg0
  have hr0 := C_Rule hm0 hx0
  have hl0 : (m0.map fun p => (⟨p.1, p.2⟩ : SRule)).length = m0.length := List.length_map _
  obtain ⟨l0, hL0⟩ : ∃ l, l = (m0.map fun p => (⟨p.1, p.2⟩ : SRule)) := ⟨_, rfl⟩
  rw [← hL0] at hr0 hl0
  clear hL0
  obtain rfl : n0 = l0.length := g0.trans hl0.symm
  rw [← hl0] at hm0
  simp only [Value.slice.injEq] at e0
  obtain ⟨ea0, en0, ec0⟩ := e0
  obtain rfl := ea0.symm
  obtain rfl := en0.symm
  obtain rfl := ec0.symm
  have k1 := h1
  have lt1 : ∀ x ∈ p1, x.block < W.heap.size := by obtain ⟨m, hm⟩ := k1; exact DataW.trod_lt m _ _ _ hm
  obtain ⟨a1_, len1_, cap1_, rfl⟩ := okWide_slice Try.underlying30 (hval 1 30 v1 rfl rfl)
  obtain ⟨fu1, hf1⟩ := h1
  have hg1 : DataW.trod enc Try.prog W 0 (fun _ => true) true fu1 30 [.slice a1_ len1_ cap1_] = some (d1, p1) := by simpa [Value.cells] using hf1
  obtain ⟨A1, n1, c1, m1, e1, g1, hc1, hm1, hw1, hx1⟩ := open_pairs Try.underlying30 Try.underlying41 (by kernel_rfl) (by kernel_rfl) (by first | exact Try.underlying3 | kernel_rfl) (by first | exact Try.underlying3 | kernel_rfl) hg1
  have hr1 := C_Rule hm1 hx1
  have hl1 : (m1.map fun p => (⟨p.1, p.2⟩ : SRule)).length = m1.length := List.length_map _
  obtain ⟨l1, hL1⟩ : ∃ l, l = (m1.map fun p => (⟨p.1, p.2⟩ : SRule)) := ⟨_, rfl⟩
  rw [← hL1] at hr1 hl1
  clear hL1
  obtain rfl : n1 = l1.length := g1.trans hl1.symm
  rw [← hl1] at hm1
  simp only [Value.slice.injEq] at e1
  obtain ⟨ea1, en1, ec1⟩ := e1
  obtain rfl := ea1.symm
  obtain rfl := en1.symm
  obtain rfl := ec1.symm
  obtain ⟨a2, rfl, rfl, rfl, w2⟩ := open_int Try.underlying3 (hval 2 3 v2 rfl rfl) h2
  have k3 := h3
  have lt3 : ∀ x ∈ p3, x.block < W.heap.size := by obtain ⟨m, hm⟩ := k3; exact DataW.trod_lt m _ _ _ hm
  obtain ⟨a3_, len3_, cap3_, rfl⟩ := okWide_slice Try.underlying30 (hval 3 30 v3 rfl rfl)
  obtain ⟨fu3, hf3⟩ := h3
  have hg3 : DataW.trod enc Try.prog W 0 (fun _ => true) true fu3 30 [.slice a3_ len3_ cap3_] = some (d3, p3) := by simpa [Value.cells] using hf3
  obtain ⟨A3, n3, c3, m3, e3, g3, hc3, hm3, hw3, hx3⟩ := open_pairs Try.underlying30 Try.underlying41 (by kernel_rfl) (by kernel_rfl) (by first | exact Try.underlying3 | kernel_rfl) (by first | exact Try.underlying3 | kernel_rfl) hg3
  have hr3 := C_Rule hm3 hx3
  have hl3 : (m3.map fun p => (⟨p.1, p.2⟩ : SRule)).length = m3.length := List.length_map _
  obtain ⟨l3, hL3⟩ : ∃ l, l = (m3.map fun p => (⟨p.1, p.2⟩ : SRule)) := ⟨_, rfl⟩
  rw [← hL3] at hr3 hl3
  clear hL3
  obtain rfl : n3 = l3.length := g3.trans hl3.symm
  rw [← hl3] at hm3
  simp only [Value.slice.injEq] at e3
  obtain ⟨ea3, en3, ec3⟩ := e3
  obtain rfl := ea3.symm
  obtain rfl := en3.symm
  obtain rfl := ec3.symm
  obtain ⟨a4, rfl, rfl, rfl, w4⟩ := open_int Try.underlying3 (hval 4 3 v4 rfl rfl) h4
  have k5 := h5
  have lt5 : ∀ x ∈ p5, x.block < W.heap.size := by obtain ⟨m, hm⟩ := k5; exact DataW.trod_lt m _ _ _ hm
  obtain ⟨a5_, len5_, cap5_, rfl⟩ := okWide_slice Try.underlying30 (hval 5 30 v5 rfl rfl)
  obtain ⟨fu5, hf5⟩ := h5
  have hg5 : DataW.trod enc Try.prog W 0 (fun _ => true) true fu5 30 [.slice a5_ len5_ cap5_] = some (d5, p5) := by simpa [Value.cells] using hf5
  obtain ⟨A5, n5, c5, m5, e5, g5, hc5, hm5, hw5, hx5⟩ := open_pairs Try.underlying30 Try.underlying41 (by kernel_rfl) (by kernel_rfl) (by first | exact Try.underlying3 | kernel_rfl) (by first | exact Try.underlying3 | kernel_rfl) hg5
  have hr5 := C_Rule hm5 hx5
  have hl5 : (m5.map fun p => (⟨p.1, p.2⟩ : SRule)).length = m5.length := List.length_map _
  obtain ⟨l5, hL5⟩ : ∃ l, l = (m5.map fun p => (⟨p.1, p.2⟩ : SRule)) := ⟨_, rfl⟩
  rw [← hL5] at hr5 hl5
  clear hL5
  obtain rfl : n5 = l5.length := g5.trans hl5.symm
  rw [← hl5] at hm5
  simp only [Value.slice.injEq] at e5
  obtain ⟨ea5, en5, ec5⟩ := e5
  obtain rfl := ea5.symm
  obtain rfl := en5.symm
  obtain rfl := ec5.symm
  obtain ⟨a6, rfl, rfl, rfl, w6⟩ := open_int Try.underlying3 (hval 6 3 v6 rfl rfl) h6
  have k7 := h7
  have lt7 : ∀ x ∈ p7, x.block < W.heap.size := by obtain ⟨m, hm⟩ := k7; exact DataW.trod_lt m _ _ _ hm
  obtain ⟨a7_, len7_, cap7_, rfl⟩ := okWide_slice Try.underlying30 (hval 7 30 v7 rfl rfl)
  obtain ⟨fu7, hf7⟩ := h7
  have hg7 : DataW.trod enc Try.prog W 0 (fun _ => true) true fu7 30 [.slice a7_ len7_ cap7_] = some (d7, p7) := by simpa [Value.cells] using hf7
  obtain ⟨A7, n7, c7, m7, e7, g7, hc7, hm7, hw7, hx7⟩ := open_pairs Try.underlying30 Try.underlying41 (by kernel_rfl) (by kernel_rfl) (by first | exact Try.underlying3 | kernel_rfl) (by first | exact Try.underlying3 | kernel_rfl) hg7
  have hr7 := C_Rule hm7 hx7
  have hl7 : (m7.map fun p => (⟨p.1, p.2⟩ : SRule)).length = m7.length := List.length_map _
  obtain ⟨l7, hL7⟩ : ∃ l, l = (m7.map fun p => (⟨p.1, p.2⟩ : SRule)) := ⟨_, rfl⟩
  rw [← hL7] at hr7 hl7
  clear hL7
  obtain rfl : n7 = l7.length := g7.trans hl7.symm
  rw [← hl7] at hm7
  simp only [Value.slice.injEq] at e7
  obtain ⟨ea7, en7, ec7⟩ := e7
  obtain rfl := ea7.symm
  obtain rfl := en7.symm
  obtain rfl := ec7.symm
  obtain ⟨a8, rfl, rfl, rfl, w8⟩ := open_int Try.underlying3 (hval 8 3 v8 rfl rfl) h8
  obtain ⟨rfl, rfl⟩ := trodVars_none hV
  clear hA0 hval0 hsz0
  obtain ⟨k, hk⟩ := P.FnGapsToldOfAll l0 l1 a2 l3 a4 l5 a6 l7 a8 hm0 hm1 w2 hm3 w4 hm5 w6 hm7 w8
  refine (laws_FnGapsToldOfAll.calls k A0 c0 l0 A1 c1 l1 a2 A3 c3 l3 a4 A5 c5 l5 a6 A7 c7 l7 a8 W hr0 hc0 hr1 hc1 hr3 hc3 hr5 hc5 hr7 hc7 hk).mono fun e W' ⟨he, bel0⟩ => ?_
  have bel : Below W.heap.size W W' := by first | exact bel0 | exact bel0.below
  subst he
  exact ⟨_, rfl, _, _, _, [], _, [], hW', trodAll_mk1 (shut_bool Try.underlying4 _), (trodAll_cons_mk (Below.trod laidOut (by kernel_rfl) (of_decide_eq_true (by kernel_rfl)) k0 bel lt0) (trodAll_cons_mk (Below.trod laidOut (by kernel_rfl) (of_decide_eq_true (by kernel_rfl)) k1 bel lt1) (trodAll_cons_mk (shut_int Try.underlying3 w2) (trodAll_cons_mk (Below.trod laidOut (by kernel_rfl) (of_decide_eq_true (by kernel_rfl)) k3 bel lt3) (trodAll_cons_mk (shut_int Try.underlying3 w4) (trodAll_cons_mk (Below.trod laidOut (by kernel_rfl) (of_decide_eq_true (by kernel_rfl)) k5 bel lt5) (trodAll_cons_mk (shut_int Try.underlying3 w6) (trodAll_cons_mk (Below.trod laidOut (by kernel_rfl) (of_decide_eq_true (by kernel_rfl)) k7 bel lt7) (trodAll_cons_mk (shut_int Try.underlying3 w8) trodAll_mk0))))))))), rfl, bel.frame _, fun h => by cases h⟩
theorem over : Rows.fnGapsToldOfAllRow.holds Try.pinned (OpenSpec.ofChange Rows.fnGapsToldOfAllSpec) :=
  OpenClaim.holds_of_wide 7 Try.f7 rfl rfl rfl rfl rfl rfl rfl ⟨rfl, rfl, rfl, rfl, rfl⟩ rfl rfl rfl rfl rfl (by kernel_rfl) Try.func7 (by kernel_rfl)
    (of_decide_eq_true (by kernel_rfl)) (by unfold Func.isWrapper; first | (rw [if_pos (by decide +kernel)]; kernel_rfl) | (rw [if_neg (by decide +kernel)]; exact ⟨rfl, rfl⟩))
    (fun os started H enc _ => lifted os started H enc)
theorem proved : Rows.FnGapsToldOfAllSaid := over
end Go.Proofs.Ytphlfkeamhpimaa.fnGapsToldOfAll
namespace Go.Proofs.Ytphlfkeamhpimaa
theorem fnGapsToldOfAll_holds : Rows.FnGapsToldOfAllSaid := fnGapsToldOfAll.proved
end Go.Proofs.Ytphlfkeamhpimaa
