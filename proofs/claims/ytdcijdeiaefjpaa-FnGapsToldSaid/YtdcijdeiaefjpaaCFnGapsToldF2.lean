/- What functions of the program answer. Proved in this text: its theorems. Conditions: as each theorem states them. -/
import Derived.Test.YtdcijdeiaefjpaaCFnGapsToldP
import Derived.Test.YtdcijdeiaefjpaaCFnGapsToldF0
import Derived.Test.YtdcijdeiaefjpaaCFnGapsToldF1
namespace Go.Proofs.Ytdcijdeiaefjpaa.P
open Go.RowKit Go.Proofs.YtdcijdeiaefjpaaW.PrintWords Go.Proofs.YtdcijdeiaefjpaaW.PrintLast Go.Proofs.YtdcijdeiaefjpaaW.PrintMore
attribute [local go_sem] max2_int min2_int max_two min_two max_three min_three max_four min_four
set_option linter.unusedVariables false
set_option linter.unusedSimpArgs false
def spec_DrawMostInWindow.g (k : Nat) (s0_0 : List Int) (s0_1 : Int) (s0_2 : Int) : Option ((List (SRule)) × Int × Int × Int) := (spec_l1Cur_one.f s0_0 s0_1 s0_2 12).bind fun bt101 => (if bt101.1 = true then ((spec_l1Cur_someLeft.f k s0_0 bt101.2.1 bt101.2.2).bind fun bt104 => ((spec_l1Cur_among.f s0_0 bt104.2.1 bt104.2.2 (([(-1), 0, 200, 201] : List Int))).bind fun bt112 => (some (bt104.1, bt112.1, bt112.2.1, bt112.2.2)))) else ((spec_l1Cur_someLeft.f k s0_0 bt101.2.1 bt101.2.2).bind fun bt115 => ((spec_l1Cur_pick.f s0_0 bt115.2.1 bt115.2.2 40).bind fun bt120 => (some (bt115.1, bt120.1, bt120.2.1, bt120.2.2)))))
def spec_DrawMostInWindow.codeOf : Option Code → Code
 | some c => c
 | none => .skip
def spec_DrawMostInWindow.seqB : Code → Code
 | .seq _ b => b
 | c => c
set_option maxHeartbeats 8000000 in
set_option maxRecDepth 100000 in
theorem spec_DrawMostInWindow.rest (k : Nat) (g : Nat) (s0_0 : List Int) (s0_1 : Int) (s0_2 : Int) (r1 : List (SRule)) (r2 : Int) (r3 : Int) (r4 : Int) (w0 w wc : World) (hI : IsS60 w0 wc g s0_0 s0_1 s0_2) (hK : KeepBut w wc g none) (hL : w0.heap.size ≤ w.heap.size) (hB : Below w0.heap.size w0 wc) (h : spec_DrawMostInWindow.g k s0_0 s0_1 s0_2 = some (r1, r2, r3, r4)) (u0 u1 u2 u3 u5 u6 u7 u8 u9 u10 u11 u12 u13 u14 u15 u16 u17 u18 : Value) (P : Ending → World → Prop) (hP : ∀ e w', (∃ v0_ : Value, e = .returned (.tuple #[v0_, .int .i64 r2]) ∧ Kd.R kRule 38 w' w.heap.size (fun _ => True) v0_ r1 ∧ IsS60 w0 w' g s0_0 r3 r4 ∧ Below w0.heap.size w0 w' ∧ KeepBut w w' g none) → P e w') :
  Code.wp Try.prog (spec_DrawMostInWindow.seqB (spec_DrawMostInWindow.seqB (spec_DrawMostInWindow.codeOf Try.f47.body))) (bodyPost Try.prog Try.f47 P) ⟨#[u0, u1, u2, u3, .pointer (some ⟨g, 0, none⟩), u5, u6, u7, u8, u9, u10, u11, u12, u13, u14, u15, u16, u17, u18], []⟩ wc := by
 have HP := Aside0.mk hP
 clear hP
 have HI0 := Aside0.mk hI
 have HK := Aside0.mk hK
 clear hK
 have HL := Aside0.mk hL
 clear hI
 have HW0 := Aside0.mk hL
 clear hL
 have HB := Aside0.mk hB
 clear hB
 have H : ((spec_l1Cur_one.f s0_0 s0_1 s0_2 12).bind fun bt101 => (if bt101.1 = true then ((spec_l1Cur_someLeft.f k s0_0 bt101.2.1 bt101.2.2).bind fun bt104 => ((spec_l1Cur_among.f s0_0 bt104.2.1 bt104.2.2 (([(-1), 0, 200, 201] : List Int))).bind fun bt112 => (some (bt104.1, bt112.1, bt112.2.1, bt112.2.2)))) else ((spec_l1Cur_someLeft.f k s0_0 bt101.2.1 bt101.2.2).bind fun bt115 => ((spec_l1Cur_pick.f s0_0 bt115.2.1 bt115.2.2 40).bind fun bt120 => (some (bt115.1, bt120.1, bt120.2.1, bt120.2.2)))))) = some (r1, r2, r3, r4) := h
 clear h
 obtain ⟨⟨t101, t102, t103⟩, A2, H⟩ := obnd_ H
 (try dsimp only at H)
 by_cases c3 : t101 = true
 ·subst c3
  rw [if_pos rfl] at H
  obtain ⟨⟨t104, t107, t108⟩, A4, H⟩ := obnd_ H
  (try dsimp only at H)
  obtain ⟨y109, hy_⟩ : ∃ y_ : List Int, y_ = (([(-1), 0, 200, 201] : List Int)) := ⟨_, rfl⟩
  replace H : ((spec_l1Cur_among.f s0_0 t107 t108 y109).bind fun bt112 => (some (t104, bt112.1, bt112.2.1, bt112.2.2))) = some (r1, r2, r3, r4) := k1_
  have Ny109 := Aside0.mk hy_
  clear hy_
  obtain ⟨⟨t112, t113, t114⟩, A5, H⟩ := obnd_ H
  (try dsimp only at H)
  simp only [Option.some.injEq, Prod.mk.injEq] at H
  obtain ⟨rfl, rfl, rfl, rfl⟩ := H
  show (let Q'_ := bodyPost Try.prog Try.f47 P; Code.wp Try.prog _ Q'_ _ _)
  intro Q'_
  conv => arg 2; whnf
  go_wp2_with (first | ((with_reducible refine gate_callee (f := 55) rfl ?_); refine goesL_ (some 9) rfl rfl Try.func55 (by kernel_rfl) rfl #[.pointer (some ⟨g, 0, none⟩), .int .i64 12] rfl k35_ ?_; (with_reducible refine (spec_l1Cur_one.calls g s0_0 s0_1 s0_2 12 true t102 t103 w0 _ ?side1 ?side2 A2.out).mono ?_); (case side1 => exact k27_); (case side2 => exact k19_); rintro e w6 ⟨rfl, hi, hb, hk⟩; refine ⟨_, rfl, ?_⟩; replace HK := Aside0.mk (KeepBut.trans k33_ hk (.inl rfl)); replace HB := Aside0.mk (hb); replace HI0 := Aside0.mk (hi); (try clear hb hk hi)) | ((with_reducible refine gate_callee (f := 72) rfl ?_); refine goesL_ (some 11) rfl rfl Try.func72 (by kernel_rfl) rfl #[.pointer (some ⟨g, 0, none⟩)] rfl k35_ ?_; (with_reducible refine (spec_l1Cur_someLeft.calls k g s0_0 t102 t103 t104 t107 t108 w0 _ ?side1 ?side2 A4.out).mono ?_); (case side1 => exact k27_); (case side2 => exact k19_); rintro e w7 ⟨v105, rfl, ho0, hi, hb, hk⟩; refine ⟨_, rfl, ?_⟩; have HO106 := Aside0.mk (Kd.R_lower ho0 (keep_size (w := w) (g := g) (row := none) k33_)); replace HK := Aside0.mk (KeepBut.trans k33_ hk (.inl rfl)); replace HB := Aside0.mk (hb); replace HI0 := Aside0.mk (hi); (try clear hb hk hi ho0)) | ((with_reducible refine gate_dst (N := 13) rfl ?_); refine Kd.R_lit (Kd.int .i64) _ 3 ?hg (N := 13) ?hd (xs := ([(-1), 0, 200, 201] : List Int)) (inner := [.int .i64 (-1), .int .i64 0, .int .i64 200, .int .i64 201]) (ok := fun _ => True) (okp := fun _ => True) ?hr ?hp (fun _ hk => hk) trivial (Below.refl _ _) (Nat.le_refl _) (by simp) ?_; (case hd => rfl); (case hg => rfl); (case hr => exact k70_); (case hp => exact (Reps.one (show Kd.M (Kd.int .i64) _ _ _ (-1) [.int .i64 (-1)] from rfl) (Reps.one (show Kd.M (Kd.int .i64) _ _ _ 0 [.int .i64 0] from rfl) (Reps.one (show Kd.M (Kd.int .i64) _ _ _ 200 [.int .i64 200] from rfl) (Reps.one (show Kd.M (Kd.int .i64) _ _ _ 201 [.int .i64 201] from rfl) (Reps.none _ _)))))); intro v110 w8 ho9 hb hg_ hnew_; clear hg_ hnew_; (first | rw [← Ny109.out] at ho9 | (simp only [Int.reduceToNat] at ho9; rw [← Ny109.out] at ho9)); replace HO106 := HO106.mw hb; have HO111 := Aside0.mk (Kd.R_lower ho9 (keep_size (w := w) (g := g) (row := none) k33_)); replace HK := Aside0.mk (KeepBut.trans k33_ (KeepBut.of_below hb g none) (.inl rfl)); replace HB := Aside0.mk (below_step k19_ hb); replace HI0 := Aside0.mk (IsS60.below k27_ hb); clear hb ho9; obtain ⟨Ao10, co10, eo10⟩ := Kd.R_slice HO111.out; subst eo10) | ((with_reducible refine gate_callee (f := 64) rfl ?_); refine goesL_ (some 14) rfl rfl Try.func64 (by kernel_rfl) rfl #[.pointer (some ⟨g, 0, none⟩), .slice Ao10 y109.length co10] rfl k35_ ?_; (with_reducible refine (spec_l1Cur_among.calls g s0_0 t107 t108 _ _ y109 t112 t113 t114 w0 _ ?side1 ?side2 ?side3 ?side4 ?side5 A5.out).mono ?_); (case side1 => exact k27_); (case side2 => exact k19_); (case side3 => exact k25_); (case side4 => exact (Kd.R_reads' HO111.out).2.1); (case side5 => exact far_slice (IsS60.own_ne HI0.out HO111.out (by decide))); rintro e w11 ⟨rfl, hi, hb, hk⟩; refine ⟨_, rfl, ?_⟩; replace HO106 := Aside0.mk (Kd.R_mono (Kd.R_keep (IsS60.apart (show IsS60 w0 _ g s0_0 t107 t108 from k27_) k50_ (by decide)) hk (fun _ h => h.2)) (fun _ h => h.1)); replace HO111 := Aside0.mk (Kd.R_mono (Kd.R_keep (IsS60.apart (show IsS60 w0 _ g s0_0 t107 t108 from k27_) k51_ (by decide)) hk (fun _ h => h.2)) (fun _ h => h.1)); replace HK := Aside0.mk (KeepBut.trans k33_ hk (.inl rfl)); replace HB := Aside0.mk (hb); replace HI0 := Aside0.mk (hi); (try clear hb hk hi)))
  (try go_ret2)
  refine HP.out _ _ ?_
  exact ⟨_, k46_, by (with_reducible repeat (first | apply Kd.R_alloc | apply Kd.R_drewN | apply Kd.R_drew)); exact HO106.out, k27_, k19_, k33_⟩
 ·replace c3 := Bool.eq_false_iff.mpr c3
  subst c3
  rw [if_neg (show ¬ (false = true) by decide)] at H
  obtain ⟨⟨t115, t118, t119⟩, A12, H⟩ := obnd_ H
  (try dsimp only at H)
  obtain ⟨⟨t120, t121, t122⟩, A13, H⟩ := obnd_ H
  (try dsimp only at H)
  simp only [Option.some.injEq, Prod.mk.injEq] at H
  obtain ⟨rfl, rfl, rfl, rfl⟩ := H
  show (let Q'_ := bodyPost Try.prog Try.f47 P; Code.wp Try.prog _ Q'_ _ _)
  intro Q'_
  conv => arg 2; whnf
  go_wp2_with (first | ((with_reducible refine gate_callee (f := 55) rfl ?_); refine goesL_ (some 9) rfl rfl Try.func55 (by kernel_rfl) rfl #[.pointer (some ⟨g, 0, none⟩), .int .i64 12] rfl k35_ ?_; (with_reducible refine (spec_l1Cur_one.calls g s0_0 s0_1 s0_2 12 false t102 t103 w0 _ ?side1 ?side2 A2.out).mono ?_); (case side1 => exact k27_); (case side2 => exact k19_); rintro e w14 ⟨rfl, hi, hb, hk⟩; refine ⟨_, rfl, ?_⟩; replace HK := Aside0.mk (KeepBut.trans k33_ hk (.inl rfl)); replace HB := Aside0.mk (hb); replace HI0 := Aside0.mk (hi); (try clear hb hk hi)) | ((with_reducible refine gate_callee (f := 72) rfl ?_); refine goesL_ (some 16) rfl rfl Try.func72 (by kernel_rfl) rfl #[.pointer (some ⟨g, 0, none⟩)] rfl k35_ ?_; (with_reducible refine (spec_l1Cur_someLeft.calls k g s0_0 t102 t103 t115 t118 t119 w0 _ ?side1 ?side2 A12.out).mono ?_); (case side1 => exact k27_); (case side2 => exact k19_); rintro e w15 ⟨v116, rfl, ho0, hi, hb, hk⟩; refine ⟨_, rfl, ?_⟩; have HO117 := Aside0.mk (Kd.R_lower ho0 (keep_size (w := w) (g := g) (row := none) k33_)); replace HK := Aside0.mk (KeepBut.trans k33_ hk (.inl rfl)); replace HB := Aside0.mk (hb); replace HI0 := Aside0.mk (hi); (try clear hb hk hi ho0)) | ((with_reducible refine gate_callee (f := 65) rfl ?_); refine goesL_ (some 18) rfl rfl Try.func65 (by kernel_rfl) rfl #[.pointer (some ⟨g, 0, none⟩), .int .i64 40] rfl k35_ ?_; (with_reducible refine (spec_l1Cur_pick.calls g s0_0 t118 t119 40 t120 t121 t122 w0 _ ?side1 ?side2 A13.out).mono ?_); (case side1 => exact k27_); (case side2 => exact k19_); rintro e w16 ⟨rfl, hi, hb, hk⟩; refine ⟨_, rfl, ?_⟩; replace HO117 := Aside0.mk (Kd.R_mono (Kd.R_keep (IsS60.apart (show IsS60 w0 _ g s0_0 t118 t119 from k27_) (by apply_rules only [HO117.out, Kd.R_alloc, Kd.R_drewN, Kd.R_drew]) (by decide)) hk (fun _ h => h.2)) (fun _ h => h.1)); replace HK := Aside0.mk (KeepBut.trans k33_ hk (.inl rfl)); replace HB := Aside0.mk (hb); replace HI0 := Aside0.mk (hi); (try clear hb hk hi)))
  (try go_ret2)
  refine HP.out _ _ ?_
  exact ⟨_, k46_, by (with_reducible repeat (first | apply Kd.R_alloc | apply Kd.R_drewN | apply Kd.R_drew)); exact HO117.out, k27_, k19_, k33_⟩
def spec_DrawMostInWindow.f (k : Nat) (l0 : List Int) : Option ((List (SRule)) × Int) := (spec_DrawMostInWindow.g k l0 0 0).bind fun t => some (t.1, t.2.1)
set_option maxHeartbeats 8000000 in
set_option maxRecDepth 100000 in
theorem spec_DrawMostInWindow.calls (k : Nat) (A0 : Option Addr) (c0 : Nat) (l0 : List Int) (r1 : List (SRule)) (r2 : Int) (w : World) (hr0 : Kd.C (Kd.int .u8) w A0 l0.length l0) (hc0 : l0.length ≤ c0) (h : spec_DrawMostInWindow.f k l0 = some (r1, r2)) :
  Calls Try.prog 47 #[.slice A0 l0.length c0] w fun e w' => ∃ v0_ : Value, e = .returned (.tuple #[v0_, .int .i64 r2]) ∧ Kd.R kRule 38 w' w.heap.size (fun _ => True) v0_ r1 ∧ Below w.heap.size w w' := by
 obtain ⟨⟨r1_, r2_, r3, r4⟩, hg, he⟩ := Option.bind_eq_some_iff.mp h
 simp only [Option.some.injEq, Prod.mk.injEq] at he
 obtain ⟨rfl, rfl⟩ := he
 go_enter Try.func47, Try.ntmps47
 apply wp_seq_k
 intro K1 hK1
 have HK1 := Aside0.mk hK1
 clear hK1
 go_wp2
 refine HK1.out _ _ ?_
 apply wp_seq_k
 intro K2 hK2
 have HK2 := Aside0.mk hK2
 clear hK2
 go_wp2_with (first | ((with_reducible refine gate_dst (N := 7) rfl ?_); (try (refine gate_guard (by rfl) ?_; dsimp only)); refine box_event ?hg (N := 7) ?hd (cs := #[.slice A0 l0.length c0, .int .i64 0, .int .u64 0]) (t := 60) ?hr ?_; (case hd => rfl); (case hg => rfl); (case hr => exact k70_); intro gP hgp w1 hbox hb; have HGP := Aside0.mk hgp; have HBX := Aside0.mk hbox; have HBB := Aside0.mk hb; clear hgp hbox hb))
 refine HK2.out _ _ ?_
 have hBw : Below w.heap.size w w1 := HBB.out
 have hgP : w.heap.size ≤ gP := by rw [HGP.out]; exact Nat.le_refl _
 refine spec_DrawMostInWindow.rest k gP l0 0 0 r1_ r2_ r3 r4 w w w1 ⟨A0, c0, HBX.out, hgP, hr0⟩ (KeepBut.of_below hBw gP none) (Nat.le_refl _) hBw hg _ _ _ _ _ _ _ _ _ _ _ _ _ _ _ _ _ _ _ ?_
 rintro e w' ⟨v0_, rfl, ho_1, _hI2, hb_3, _hk4⟩
 exact ⟨_, rfl, ho_1, hb_3⟩
end Go.Proofs.Ytdcijdeiaefjpaa.P
namespace Go.Proofs.Ytdcijdeiaefjpaa.P
open Go.RowKit Go.Proofs.YtdcijdeiaefjpaaW.PrintWords Go.Proofs.YtdcijdeiaefjpaaW.PrintLast Go.Proofs.YtdcijdeiaefjpaaW.PrintMore
attribute [local go_sem] max2_int min2_int max_two min_two max_three min_three max_four min_four
set_option linter.unusedVariables false
set_option linter.unusedSimpArgs false
def spec_l1Least.f (a0 : Int) (a1 : Int) : Option (Int) := if a0 < a1 then (some a0) else (some a1)
set_option maxHeartbeats 8000000 in
set_option maxRecDepth 100000 in
theorem spec_l1Least.calls (a0 : Int) (a1 : Int) (r : Int) (w : World) (h : spec_l1Least.f a0 a1 = some r) :
  Calls Try.prog 104 #[.int .i64 a0, .int .i64 a1] w fun e w' => e = .returned (.int .i64 r) ∧ Drawn0 w w' := by
 have H : (if a0 < a1 then (some a0) else (some a1)) = some r := h
 clear h
 by_cases c3 : a0 < a1
 ·rw [if_pos c3] at H
  have c3b0 : decide (a0 < a1) = true := decide_eq_true c3
  clear c3
  obtain rfl := Option.some.inj H
  go_enter Try.func104, Try.ntmps104
  go_wp2
  go_ret
  exact ⟨k69_, k67_⟩
 ·rw [if_neg c3] at H
  have c3b0 : decide (a0 < a1) = false := decide_eq_false c3
  clear c3
  obtain rfl := Option.some.inj H
  go_enter Try.func104, Try.ntmps104
  go_wp2
  go_ret
  exact ⟨k69_, k67_⟩
end Go.Proofs.Ytdcijdeiaefjpaa.P
namespace Go.Proofs.Ytdcijdeiaefjpaa.P
open Go.RowKit Go.Proofs.YtdcijdeiaefjpaaW.PrintWords Go.Proofs.YtdcijdeiaefjpaaW.PrintLast Go.Proofs.YtdcijdeiaefjpaaW.PrintMore
attribute [local go_sem] max2_int min2_int max_two min_two max_three min_three max_four min_four
set_option linter.unusedVariables false
set_option linter.unusedSimpArgs false
mutual
def spec_gpWindows.j0 : Nat → List (SRule) → Int → Bool → Option (Int × Int × Bool)
 | 0, _, _, _ => none
 | k + 1, x0, x1, x25 => if x25 = true then (some (0, 0, false)) else (spec_gpWindows.l0 k x0 x1 0 0)
def spec_gpWindows.l0 : Nat → List (SRule) → Int → Int → Int → Option (Int × Int × Bool)
 | 0, _, _, _, _ => none
 | k + 1, x0, x1, x9, x10 => if x10 < x1 then ((spec_siLeft.f k x0 x10).bind fun t106 => (if t106 = true then (spec_gpWindows.l0 k x0 x1 (wrap64 (x9 + 1)) (wrap64 (x10 + 1))) else (spec_gpWindows.l0 k x0 x1 x9 (wrap64 (x10 + 1))))) else (spec_gpWindows.l1 k x0 x1 x9 x9 x9 0)
def spec_gpWindows.l1 : Nat → List (SRule) → Int → Int → Int → Int → Int → Option (Int × Int × Bool)
 | 0, _, _, _, _, _, _ => none
 | k + 1, x0, x1, x9, x11, x12, x13 => (spec_siPeriod.f k x0).bind fun t107 => (if x13 < t107 then ((spec_siLeft.f k x0 x13).bind fun t108 => (if t108 = true then (spec_gpWindows.j3 k x0 x1 (wrap64 (x9 - 1)) x11 x12 x13) else (spec_gpWindows.j3 k x0 x1 x9 x11 x12 x13))) else (some (x11, x12, true)))
def spec_gpWindows.j3 : Nat → List (SRule) → Int → Int → Int → Int → Int → Option (Int × Int × Bool)
 | 0, _, _, _, _, _, _ => none
 | k + 1, x0, x1, x9, x11, x12, x13 => (spec_siLeft.f k x0 (wrap64 (x13 + x1))).bind fun t109 => (if t109 = true then ((spec_l1Most.f x11 (wrap64 (x9 + 1))).bind fun t110 => ((spec_l1Least.f x12 (wrap64 (x9 + 1))).bind fun t111 => (spec_gpWindows.l1 k x0 x1 (wrap64 (x9 + 1)) t110 t111 (wrap64 (x13 + 1))))) else ((spec_l1Most.f x11 x9).bind fun t112 => ((spec_l1Least.f x12 x9).bind fun t113 => (spec_gpWindows.l1 k x0 x1 x9 t112 t113 (wrap64 (x13 + 1))))))
end
def spec_gpWindows.f (k : Nat) (l0 : List (SRule)) (a1 : Int) : Option (Int × Int × Bool) := (spec_gpLeft.f k l0).bind fun bt101 => (if bt101.2 = true then ((spec_l1In.f a1 0 200).bind fun t105 => (spec_gpWindows.j0 k l0 a1 (!t105))) else (spec_gpWindows.j0 k l0 a1 true))
set_option maxHeartbeats 8000000 in
set_option maxRecDepth 100000 in
theorem spec_gpWindows.calls (k : Nat) (A0 : Option Addr) (c0 : Nat) (l0 : List (SRule)) (a1 : Int) (r1 : Int) (r2 : Int) (r3 : Bool) (w : World) (hr0 : Kd.C kRule w A0 l0.length l0) (hc0 : l0.length ≤ c0) (h : spec_gpWindows.f k l0 a1 = some (r1, r2, r3)) :
  Calls Try.prog 85 #[.slice A0 l0.length c0, .int .i64 a1] w fun e w' => e = .returned (.tuple #[.int .i64 r1, .int .i64 r2, .bool r3]) ∧ Below w.heap.size w w' := by
 have HR0 := Aside0.mk hr0
 have HC0 := Aside0.mk hc0
 clear hr0 hc0
 have HB := Aside0.mk (Below.refl w.heap.size w)
 have H : ((spec_gpLeft.f k l0).bind fun bt101 => (if bt101.2 = true then ((spec_l1In.f a1 0 200).bind fun t105 => (spec_gpWindows.j0 k l0 a1 (!t105))) else (spec_gpWindows.j0 k l0 a1 true))) = some (r1, r2, r3) := h
 clear h
 obtain ⟨⟨t101, t102⟩, A3, H⟩ := obnd_ H
 (try dsimp only at H)
 have HC4 := Aside0.mk H
 clear H
 go_enter Try.func85, Try.ntmps85
 go_upto_region 2 with (first | ((with_reducible refine gate_callee (f := 86) rfl ?_); refine goesL_ (some 16) rfl rfl Try.func86 (by kernel_rfl) rfl #[.slice A0 l0.length c0] rfl k35_ ?_; (with_reducible refine (spec_gpLeft.calls k _ _ l0 t101 t102 _ ?side1 ?side2 A3.out).mono ?_); (case side1 => exact k31_); (case side2 => exact k77_); rintro e w5 ⟨v103, rfl, ho0, hb⟩; refine ⟨_, rfl, ?_⟩; have HO104 := Aside0.mk (Kd.R_lower ho0 (below_size k49_)); replace HB := HB.mw hb; (try clear hb ho0)))
 (try simp only [Act.put, List.setIfInBounds_toArray, List.set_cons_zero, List.set_cons_succ])
 go_cut [25] (fun v25 wc => ∃ (kq : Nat) (x25_3 : Bool), v25 = .bool x25_3 ∧ Aside0 (spec_gpWindows.j0 kq l0 a1 x25_3 = some (r1, r2, r3)) ∧ Aside0 (kq ≤ k) ∧ Aside0 (Below w.heap.size w wc))
 case first =>
  have H := HC4.out
  clear HC4
  by_cases c6 : t102 = true
  ·subst c6
   rw [if_pos rfl] at H
   obtain ⟨t105, A7, H⟩ := obnd_ H
   (try dsimp only at H)
   have H' := Aside0.mk H
   clear H
   go_wp2_with (first | (go_at_call 69; (with_reducible refine (spec_l1In.calls a1 0 200 t105 _ A7.out).mono ?_); rintro e w' ⟨rfl, ⟨nd, rfl⟩⟩))
   go_meet
   case rel => exact ⟨_, (!t105), k69_, H', ⟨k72_⟩, ⟨k49_⟩⟩
  ·replace c6 := Bool.eq_false_iff.mpr c6
   subst c6
   rw [if_neg (show ¬ (false = true) by decide)] at H
   have H' := Aside0.mk H
   clear H
   go_wp2
   go_meet
   case rel => exact ⟨_, (true), k69_, H', ⟨k72_⟩, ⟨k49_⟩⟩
 case rest =>
  clear HC4
  obtain ⟨kq, x25_3, rfl, HA, HJ3, HB⟩ := hcut
  cases kq with
  | zero => exact absurd HA.out (by simp [spec_gpWindows.j0])
  | succ kj3 =>
   have H := HA.out
   clear HA
   simp only [spec_gpWindows.j0] at H
   by_cases c8 : x25_3 = true
   ·subst c8
    rw [if_pos rfl] at H
    simp only [Option.some.injEq, Prod.mk.injEq] at H
    obtain ⟨rfl, rfl, rfl⟩ := H
    go_wp2
    go_ret3
    exact ⟨k46_, k49_⟩
   ·replace c8 := Bool.eq_false_iff.mpr c8
    subst c8
    rw [if_neg (show ¬ (false = true) by decide)] at H
    have H' := Aside0.mk H
    clear H
    go_wp2
    go_loopg [9, 10] kj3 (fun kq v9 v10 w' => ∃ (x9_2 : Int) (x10_2 : Int), v9 = .int .i64 x9_2 ∧ v10 = .int .i64 x10_2 ∧ Aside0 (spec_gpWindows.l0 kq l0 a1 x9_2 x10_2 = some (r1, r2, r3)) ∧ Aside0 (kq ≤ kj3) ∧ Aside0 (Below w.heap.size w w'))
    case atStart => exact ⟨(0), (0), k69_, k69_, H', ⟨Nat.le_refl _⟩, ⟨k49_⟩⟩
    case round =>
     clear H'
     (try clear c8)
     obtain ⟨x9_2, x10_2, rfl, rfl, HA, HK2, HB⟩ := hrel
     cases gk with
     | zero => exact absurd HA.out (by simp [spec_gpWindows.l0])
     | succ k2 =>
      have H := HA.out
      clear HA
      simp only [spec_gpWindows.l0] at H
      by_cases c9 : x10_2 < a1
      ·rw [if_pos c9] at H
       have c9b0 : decide (x10_2 < a1) = true := decide_eq_true c9
       clear c9
       obtain ⟨t106, A10, H⟩ := obnd_ H
       (try dsimp only at H)
       by_cases c11 : t106 = true
       ·subst c11
        rw [if_pos rfl] at H
        have H' := Aside0.mk H
        clear H
        go_wp2_with (first | ((with_reducible refine gate_callee (f := 87) rfl ?_); refine goesL_ (some 33) rfl rfl Try.func87 (by kernel_rfl) rfl #[.slice A0 l0.length c0, .int .i64 x10_2] rfl k35_ ?_; (with_reducible refine (spec_siLeft.calls k2 _ _ l0 x10_2 true _ ?side1 ?side2 A10.out).mono ?_); (case side1 => exact k18_); (case side2 => exact k77_); rintro e w12 ⟨rfl, hb⟩; refine ⟨_, rfl, ?_⟩; replace HB := HB.mw hb; (try clear hb)))
        go_roundg k2
        case measure => have := HJ3.out; have := HK2.out; omega
        case rel => exact ⟨(wrap64 (x9_2 + 1)), (wrap64 (x10_2 + 1)), k69_, k69_, H', ⟨k71_⟩, ⟨k49_⟩⟩
       ·replace c11 := Bool.eq_false_iff.mpr c11
        subst c11
        rw [if_neg (show ¬ (false = true) by decide)] at H
        have H' := Aside0.mk H
        clear H
        go_wp2_with (first | ((with_reducible refine gate_callee (f := 87) rfl ?_); refine goesL_ (some 33) rfl rfl Try.func87 (by kernel_rfl) rfl #[.slice A0 l0.length c0, .int .i64 x10_2] rfl k35_ ?_; (with_reducible refine (spec_siLeft.calls k2 _ _ l0 x10_2 false _ ?side1 ?side2 A10.out).mono ?_); (case side1 => exact k18_); (case side2 => exact k77_); rintro e w13 ⟨rfl, hb⟩; refine ⟨_, rfl, ?_⟩; replace HB := HB.mw hb; (try clear hb)))
        go_roundg k2
        case measure => have := HJ3.out; have := HK2.out; omega
        case rel => exact ⟨(x9_2), (wrap64 (x10_2 + 1)), k69_, k69_, H', ⟨k71_⟩, ⟨k49_⟩⟩
      ·rw [if_neg c9] at H
       have c9b0 : decide (x10_2 < a1) = false := decide_eq_false c9
       clear c9
       have H' := Aside0.mk H
       clear H
       go_wp2
       go_loopg [9, 11, 12, 13] k2 (fun kq v9 v11 v12 v13 w' => ∃ (x9_3 : Int) (x11_3 : Int) (x12_3 : Int) (x13_3 : Int), v9 = .int .i64 x9_3 ∧ v11 = .int .i64 x11_3 ∧ v12 = .int .i64 x12_3 ∧ v13 = .int .i64 x13_3 ∧ Aside0 (spec_gpWindows.l1 kq l0 a1 x9_3 x11_3 x12_3 x13_3 = some (r1, r2, r3)) ∧ Aside0 (kq ≤ k2) ∧ Aside0 (Below w.heap.size w w'))
       case atStart => exact ⟨(x9_2), (x9_2), (x9_2), (0), k69_, k69_, k69_, k69_, H', ⟨Nat.le_refl _⟩, ⟨k49_⟩⟩
       case round =>
        clear H'
        skip
        obtain ⟨x9_3, x11_3, x12_3, x13_3, rfl, rfl, rfl, rfl, HA, HK3, HB⟩ := hrel
        cases gk with
        | zero => exact absurd HA.out (by simp [spec_gpWindows.l1])
        | succ k3 =>
         have H := HA.out
         clear HA
         simp only [spec_gpWindows.l1] at H
         obtain ⟨t107, A14, H⟩ := obnd_ H
         (try dsimp only at H)
         by_cases c15 : x13_3 < t107
         ·rw [if_pos c15] at H
          have c15b0 : decide (x13_3 < t107) = true := decide_eq_true c15
          clear c15
          obtain ⟨t108, A16, H⟩ := obnd_ H
          (try dsimp only at H)
          have HC17 := Aside0.mk H
          clear H
          go_upto_if 46 with (first | ((with_reducible refine gate_callee (f := 101) rfl ?_); refine goesL_ (some 40) rfl rfl Try.func101 (by kernel_rfl) rfl #[.slice A0 l0.length c0] rfl k35_ ?_; (with_reducible refine (spec_siPeriod.calls k3 _ _ l0 t107 _ ?side1 ?side2 A14.out).mono ?_); (case side1 => exact k18_); (case side2 => exact k77_); rintro e w18 ⟨rfl, hb⟩; refine ⟨_, rfl, ?_⟩; replace HB := HB.mw hb; (try clear hb)) | ((with_reducible refine gate_callee (f := 87) rfl ?_); refine goesL_ (some 46) rfl rfl Try.func87 (by kernel_rfl) rfl #[.slice A0 l0.length c0, .int .i64 x13_3] rfl k35_ ?_; (with_reducible refine (spec_siLeft.calls k3 _ _ l0 x13_3 t108 _ ?side1 ?side2 A16.out).mono ?_); (case side1 => exact k18_); (case side2 => exact k77_); rintro e w19 ⟨rfl, hb⟩; refine ⟨_, rfl, ?_⟩; replace HB := HB.mw hb; (try clear hb)))
          (try simp only [Act.put, List.setIfInBounds_toArray, List.set_cons_zero, List.set_cons_succ])
          go_cut [9] (fun v9 wc => ∃ (kq : Nat) (x9_16 : Int), v9 = .int .i64 x9_16 ∧ Aside0 (spec_gpWindows.j3 kq l0 a1 x9_16 x11_3 x12_3 x13_3 = some (r1, r2, r3)) ∧ Aside0 (kq ≤ k3) ∧ Aside0 (Below w.heap.size w wc))
          case first =>
           have H := HC17.out
           clear HC17
           by_cases c20 : t108 = true
           ·subst c20
            rw [if_pos rfl] at H
            have H' := Aside0.mk H
            clear H
            go_wp2
            go_meet
            case rel => exact ⟨_, (wrap64 (x9_3 - 1)), k69_, H', ⟨by have := HJ3.out; have := HK2.out; have := HK3.out; first | omega | exact Nat.le_refl _⟩, ⟨k49_⟩⟩
           ·replace c20 := Bool.eq_false_iff.mpr c20
            subst c20
            rw [if_neg (show ¬ (false = true) by decide)] at H
            have H' := Aside0.mk H
            clear H
            go_wp2
            go_meet
            case rel => exact ⟨_, (x9_3), k69_, H', ⟨by have := HJ3.out; have := HK2.out; have := HK3.out; first | omega | exact Nat.le_refl _⟩, ⟨k49_⟩⟩
          case rest =>
           clear HC17
           skip
           obtain ⟨kq, x9_16, rfl, HA, HJ16, HB⟩ := hcut
           cases kq with
           | zero => exact absurd HA.out (by simp [spec_gpWindows.j3])
           | succ kj16 =>
            have H := HA.out
            clear HA
            simp only [spec_gpWindows.j3] at H
            obtain ⟨t109, A21, H⟩ := obnd_ H
            (try dsimp only at H)
            by_cases c22 : t109 = true
            ·subst c22
             rw [if_pos rfl] at H
             obtain ⟨t110, A23, H⟩ := obnd_ H
             (try dsimp only at H)
             obtain ⟨t111, A24, H⟩ := obnd_ H
             (try dsimp only at H)
             have H' := Aside0.mk H
             clear H
             go_wp2_with (first | ((with_reducible refine gate_callee (f := 87) rfl ?_); refine goesL_ (some 53) rfl rfl Try.func87 (by kernel_rfl) rfl #[.slice A0 l0.length c0, .int .i64 (wrap64 (x13_3 + a1))] rfl k35_ ?_; (with_reducible refine (spec_siLeft.calls kj16 _ _ l0 (wrap64 (x13_3 + a1)) true _ ?side1 ?side2 A21.out).mono ?_); (case side1 => exact k18_); (case side2 => exact k77_); rintro e w25 ⟨rfl, hb⟩; refine ⟨_, rfl, ?_⟩; replace HB := HB.mw hb; (try clear hb)) | ((with_reducible refine gate_callee (f := 75) rfl ?_); refine goesL_ (some 58) rfl rfl Try.func75 (by kernel_rfl) rfl #[.int .i64 x11_3, .int .i64 (wrap64 (x9_16 + 1))] rfl k35_ ?_; (with_reducible refine (spec_l1Most.calls x11_3 (wrap64 (x9_16 + 1)) t110 _ A23.out).mono ?_); rintro e w' ⟨rfl, ⟨nd, rfl⟩⟩; refine ⟨_, rfl, ?_⟩) | ((with_reducible refine gate_callee (f := 104) rfl ?_); refine goesL_ (some 61) rfl rfl Try.func104 (by kernel_rfl) rfl #[.int .i64 x12_3, .int .i64 (wrap64 (x9_16 + 1))] rfl k35_ ?_; (with_reducible refine (spec_l1Least.calls x12_3 (wrap64 (x9_16 + 1)) t111 _ A24.out).mono ?_); rintro e w' ⟨rfl, ⟨nd, rfl⟩⟩; refine ⟨_, rfl, ?_⟩))
             go_roundg kj16
             case measure => have := HJ3.out; have := HK2.out; have := HK3.out; have := HJ16.out; omega
             case rel => exact ⟨(wrap64 (x9_16 + 1)), (t110), (t111), (wrap64 (x13_3 + 1)), k69_, k69_, k69_, k69_, H', ⟨by have := HJ3.out; have := HK2.out; have := HK3.out; have := HJ16.out; omega⟩, ⟨k49_⟩⟩
            ·replace c22 := Bool.eq_false_iff.mpr c22
             subst c22
             rw [if_neg (show ¬ (false = true) by decide)] at H
             obtain ⟨t112, A26, H⟩ := obnd_ H
             (try dsimp only at H)
             obtain ⟨t113, A27, H⟩ := obnd_ H
             (try dsimp only at H)
             have H' := Aside0.mk H
             clear H
             go_wp2_with (first | ((with_reducible refine gate_callee (f := 87) rfl ?_); refine goesL_ (some 53) rfl rfl Try.func87 (by kernel_rfl) rfl #[.slice A0 l0.length c0, .int .i64 (wrap64 (x13_3 + a1))] rfl k35_ ?_; (with_reducible refine (spec_siLeft.calls kj16 _ _ l0 (wrap64 (x13_3 + a1)) false _ ?side1 ?side2 A21.out).mono ?_); (case side1 => exact k18_); (case side2 => exact k77_); rintro e w28 ⟨rfl, hb⟩; refine ⟨_, rfl, ?_⟩; replace HB := HB.mw hb; (try clear hb)) | ((with_reducible refine gate_callee (f := 75) rfl ?_); refine goesL_ (some 58) rfl rfl Try.func75 (by kernel_rfl) rfl #[.int .i64 x11_3, .int .i64 x9_16] rfl k35_ ?_; (with_reducible refine (spec_l1Most.calls x11_3 x9_16 t112 _ A26.out).mono ?_); rintro e w' ⟨rfl, ⟨nd, rfl⟩⟩; refine ⟨_, rfl, ?_⟩) | ((with_reducible refine gate_callee (f := 104) rfl ?_); refine goesL_ (some 61) rfl rfl Try.func104 (by kernel_rfl) rfl #[.int .i64 x12_3, .int .i64 x9_16] rfl k35_ ?_; (with_reducible refine (spec_l1Least.calls x12_3 x9_16 t113 _ A27.out).mono ?_); rintro e w' ⟨rfl, ⟨nd, rfl⟩⟩; refine ⟨_, rfl, ?_⟩))
             go_roundg kj16
             case measure => have := HJ3.out; have := HK2.out; have := HK3.out; have := HJ16.out; omega
             case rel => exact ⟨(x9_16), (t112), (t113), (wrap64 (x13_3 + 1)), k69_, k69_, k69_, k69_, H', ⟨by have := HJ3.out; have := HK2.out; have := HK3.out; have := HJ16.out; omega⟩, ⟨k49_⟩⟩
         ·rw [if_neg c15] at H
          have c15b0 : decide (x13_3 < t107) = false := decide_eq_false c15
          clear c15
          simp only [Option.some.injEq, Prod.mk.injEq] at H
          obtain ⟨rfl, rfl, rfl⟩ := H
          go_wp2_with (first | ((with_reducible refine gate_callee (f := 101) rfl ?_); refine goesL_ (some 40) rfl rfl Try.func101 (by kernel_rfl) rfl #[.slice A0 l0.length c0] rfl k35_ ?_; (with_reducible refine (spec_siPeriod.calls k3 _ _ l0 t107 _ ?side1 ?side2 A14.out).mono ?_); (case side1 => exact k18_); (case side2 => exact k77_); rintro e w29 ⟨rfl, hb⟩; refine ⟨_, rfl, ?_⟩; replace HB := HB.mw hb; (try clear hb)))
          go_ret3
          exact ⟨k46_, k49_⟩
end Go.Proofs.Ytdcijdeiaefjpaa.P
namespace Go.Proofs.Ytdcijdeiaefjpaa.P
open Go.RowKit Go.Proofs.YtdcijdeiaefjpaaW.PrintWords Go.Proofs.YtdcijdeiaefjpaaW.PrintLast Go.Proofs.YtdcijdeiaefjpaaW.PrintMore
attribute [local go_sem] max2_int min2_int max_two min_two max_three min_three max_four min_four
set_option linter.unusedVariables false
set_option linter.unusedSimpArgs false
def spec_MostInWindow.f (k : Nat) (l0 : List (SRule)) (a1 : Int) : Option (Int × Bool) := (spec_gpWindows.f k l0 a1).bind fun bt101 => (some (bt101.1, bt101.2.2))
set_option maxHeartbeats 8000000 in
set_option maxRecDepth 100000 in
theorem spec_MostInWindow.calls (k : Nat) (A0 : Option Addr) (c0 : Nat) (l0 : List (SRule)) (a1 : Int) (r1 : Int) (r2 : Bool) (w : World) (hr0 : Kd.C kRule w A0 l0.length l0) (hc0 : l0.length ≤ c0) (h : spec_MostInWindow.f k l0 a1 = some (r1, r2)) :
  Calls Try.prog 48 #[.slice A0 l0.length c0, .int .i64 a1] w fun e w' => e = .returned (.tuple #[.int .i64 r1, .bool r2]) ∧ Below w.heap.size w w' := by
 have HR0 := Aside0.mk hr0
 have HC0 := Aside0.mk hc0
 clear hr0 hc0
 have HB := Aside0.mk (Below.refl w.heap.size w)
 have H : ((spec_gpWindows.f k l0 a1).bind fun bt101 => (some (bt101.1, bt101.2.2))) = some (r1, r2) := h
 clear h
 obtain ⟨⟨t101, t102, t103⟩, A3, H⟩ := obnd_ H
 (try dsimp only at H)
 simp only [Option.some.injEq, Prod.mk.injEq] at H
 obtain ⟨rfl, rfl⟩ := H
 go_enter Try.func48, Try.ntmps48
 go_wp2_with (first | ((with_reducible refine gate_callee (f := 85) rfl ?_); refine goesL_ (some 12) rfl rfl Try.func85 (by kernel_rfl) rfl #[.slice A0 l0.length c0, .int .i64 a1] rfl k35_ ?_; (with_reducible refine (spec_gpWindows.calls k _ _ l0 a1 t101 t102 t103 _ ?side1 ?side2 A3.out).mono ?_); (case side1 => exact k31_); (case side2 => exact k77_); rintro e w4 ⟨rfl, hb⟩; refine ⟨_, rfl, ?_⟩; replace HB := HB.mw hb; (try clear hb)))
 go_ret2
 exact ⟨k46_, k49_⟩
end Go.Proofs.Ytdcijdeiaefjpaa.P
namespace Go.Proofs.Ytdcijdeiaefjpaa.P
open Go.RowKit Go.Proofs.YtdcijdeiaefjpaaW.PrintWords Go.Proofs.YtdcijdeiaefjpaaW.PrintLast Go.Proofs.YtdcijdeiaefjpaaW.PrintMore
attribute [local go_sem] max2_int min2_int max_two min_two max_three min_three max_four min_four
set_option linter.unusedVariables false
set_option linter.unusedSimpArgs false
def spec_LeastInWindow.f (k : Nat) (l0 : List (SRule)) (a1 : Int) : Option (Int × Bool) := (spec_gpWindows.f k l0 a1).bind fun bt101 => (some (bt101.2.1, bt101.2.2))
set_option maxHeartbeats 8000000 in
set_option maxRecDepth 100000 in
theorem spec_LeastInWindow.calls (k : Nat) (A0 : Option Addr) (c0 : Nat) (l0 : List (SRule)) (a1 : Int) (r1 : Int) (r2 : Bool) (w : World) (hr0 : Kd.C kRule w A0 l0.length l0) (hc0 : l0.length ≤ c0) (h : spec_LeastInWindow.f k l0 a1 = some (r1, r2)) :
  Calls Try.prog 49 #[.slice A0 l0.length c0, .int .i64 a1] w fun e w' => e = .returned (.tuple #[.int .i64 r1, .bool r2]) ∧ Below w.heap.size w w' := by
 have HR0 := Aside0.mk hr0
 have HC0 := Aside0.mk hc0
 clear hr0 hc0
 have HB := Aside0.mk (Below.refl w.heap.size w)
 have H : ((spec_gpWindows.f k l0 a1).bind fun bt101 => (some (bt101.2.1, bt101.2.2))) = some (r1, r2) := h
 clear h
 obtain ⟨⟨t101, t102, t103⟩, A3, H⟩ := obnd_ H
 (try dsimp only at H)
 simp only [Option.some.injEq, Prod.mk.injEq] at H
 obtain ⟨rfl, rfl⟩ := H
 go_enter Try.func49, Try.ntmps49
 go_wp2_with (first | ((with_reducible refine gate_callee (f := 85) rfl ?_); refine goesL_ (some 12) rfl rfl Try.func85 (by kernel_rfl) rfl #[.slice A0 l0.length c0, .int .i64 a1] rfl k35_ ?_; (with_reducible refine (spec_gpWindows.calls k _ _ l0 a1 t101 t102 t103 _ ?side1 ?side2 A3.out).mono ?_); (case side1 => exact k31_); (case side2 => exact k77_); rintro e w4 ⟨rfl, hb⟩; refine ⟨_, rfl, ?_⟩; replace HB := HB.mw hb; (try clear hb)))
 go_ret2
 exact ⟨k46_, k49_⟩
end Go.Proofs.Ytdcijdeiaefjpaa.P
namespace Go.Proofs.Ytdcijdeiaefjpaa.P
open Go.RowKit Go.Proofs.YtdcijdeiaefjpaaW.PrintWords Go.Proofs.YtdcijdeiaefjpaaW.PrintLast Go.Proofs.YtdcijdeiaefjpaaW.PrintMore
attribute [local go_sem] max2_int min2_int max_two min_two max_three min_three max_four min_four
set_option linter.unusedVariables false
set_option linter.unusedSimpArgs false
def laws_big.f (l0 : List Int) (l1 : List Int) : Option (Bool) := if (l0.length : Int) > 1048576 then (some true) else (some (decide ((l1.length : Int) > (wrap64 (1048576 - (l0.length : Int))))))
set_option maxHeartbeats 8000000 in
set_option maxRecDepth 100000 in
theorem laws_big.calls (A0 : Option Addr) (c0 : Nat) (l0 : List Int) (A1 : Option Addr) (c1 : Nat) (l1 : List Int) (r : Bool) (w : World) (hr0 : Kd.C (Kd.int .u8) w A0 l0.length l0) (hc0 : l0.length ≤ c0) (hr1 : Kd.C (Kd.int .u8) w A1 l1.length l1) (hc1 : l1.length ≤ c1) (h : laws_big.f l0 l1 = some r) :
  Calls Try.prog 5 #[.slice A0 l0.length c0, .slice A1 l1.length c1] w fun e w' => e = .returned (.bool r) ∧ Drawn0 w w' := by
 have HR0 := Aside0.mk hr0
 have HC0 := Aside0.mk hc0
 clear hr0 hc0
 have HR1 := Aside0.mk hr1
 have HC1 := Aside0.mk hc1
 clear hr1 hc1
 have H : (if (l0.length : Int) > 1048576 then (some true) else (some (decide ((l1.length : Int) > (wrap64 (1048576 - (l0.length : Int))))))) = some r := h
 clear h
 by_cases c3 : (l0.length : Int) > 1048576
 ·rw [if_pos c3] at H
  have c3b0 : decide (1048576 < (l0.length : Int)) = true := decide_eq_true c3
  have c3b1 : decide (1048576 < l0.length) = true := decide_eq_true (by omega)
  clear c3
  obtain rfl := Option.some.inj H
  go_enter Try.func5, Try.ntmps5
  go_wp2
  go_ret
  exact ⟨k69_, k67_⟩
 ·rw [if_neg c3] at H
  have c3b0 : decide (1048576 < (l0.length : Int)) = false := decide_eq_false c3
  have c3b1 : decide (1048576 < l0.length) = false := decide_eq_false (by omega)
  clear c3
  obtain rfl := Option.some.inj H
  go_enter Try.func5, Try.ntmps5
  go_wp2
  go_ret
  exact ⟨k69_, k67_⟩
end Go.Proofs.Ytdcijdeiaefjpaa.P
namespace Go.Proofs.Ytdcijdeiaefjpaa.P
open Go.RowKit Go.Proofs.YtdcijdeiaefjpaaW.PrintWords Go.Proofs.YtdcijdeiaefjpaaW.PrintLast Go.Proofs.YtdcijdeiaefjpaaW.PrintMore
attribute [local go_sem] max2_int min2_int max_two min_two max_three min_three max_four min_four
set_option linter.unusedVariables false
set_option linter.unusedSimpArgs false
def spec_DrawPairsInPeriod.g (k : Nat) (s0_0 : List Int) (s0_1 : Int) (s0_2 : Int) : Option ((List (SRule)) × Int × Int × Int) := (spec_l1Cur_one.f s0_0 s0_1 s0_2 12).bind fun bt101 => (if bt101.1 = true then ((spec_l1Cur_someLeft.f k s0_0 bt101.2.1 bt101.2.2).bind fun bt104 => ((spec_l1Cur_among.f s0_0 bt104.2.1 bt104.2.2 (([(-1), 0, 1000, 1001] : List Int))).bind fun bt112 => (some (bt104.1, bt112.1, bt112.2.1, bt112.2.2)))) else ((spec_l1Cur_someLeft.f k s0_0 bt101.2.1 bt101.2.2).bind fun bt115 => ((spec_l1Cur_pick.f s0_0 bt115.2.1 bt115.2.2 20).bind fun bt120 => (some (bt115.1, bt120.1, bt120.2.1, bt120.2.2)))))
def spec_DrawPairsInPeriod.codeOf : Option Code → Code
 | some c => c
 | none => .skip
def spec_DrawPairsInPeriod.seqB : Code → Code
 | .seq _ b => b
 | c => c
set_option maxHeartbeats 8000000 in
set_option maxRecDepth 100000 in
theorem spec_DrawPairsInPeriod.rest (k : Nat) (g : Nat) (s0_0 : List Int) (s0_1 : Int) (s0_2 : Int) (r1 : List (SRule)) (r2 : Int) (r3 : Int) (r4 : Int) (w0 w wc : World) (hI : IsS60 w0 wc g s0_0 s0_1 s0_2) (hK : KeepBut w wc g none) (hL : w0.heap.size ≤ w.heap.size) (hB : Below w0.heap.size w0 wc) (h : spec_DrawPairsInPeriod.g k s0_0 s0_1 s0_2 = some (r1, r2, r3, r4)) (u0 u1 u2 u3 u5 u6 u7 u8 u9 u10 u11 u12 u13 u14 u15 u16 u17 u18 : Value) (P : Ending → World → Prop) (hP : ∀ e w', (∃ v0_ : Value, e = .returned (.tuple #[v0_, .int .i64 r2]) ∧ Kd.R kRule 38 w' w.heap.size (fun _ => True) v0_ r1 ∧ IsS60 w0 w' g s0_0 r3 r4 ∧ Below w0.heap.size w0 w' ∧ KeepBut w w' g none) → P e w') :
  Code.wp Try.prog (spec_DrawPairsInPeriod.seqB (spec_DrawPairsInPeriod.seqB (spec_DrawPairsInPeriod.codeOf Try.f50.body))) (bodyPost Try.prog Try.f50 P) ⟨#[u0, u1, u2, u3, .pointer (some ⟨g, 0, none⟩), u5, u6, u7, u8, u9, u10, u11, u12, u13, u14, u15, u16, u17, u18], []⟩ wc := by
 have HP := Aside0.mk hP
 clear hP
 have HI0 := Aside0.mk hI
 have HK := Aside0.mk hK
 clear hK
 have HL := Aside0.mk hL
 clear hI
 have HW0 := Aside0.mk hL
 clear hL
 have HB := Aside0.mk hB
 clear hB
 have H : ((spec_l1Cur_one.f s0_0 s0_1 s0_2 12).bind fun bt101 => (if bt101.1 = true then ((spec_l1Cur_someLeft.f k s0_0 bt101.2.1 bt101.2.2).bind fun bt104 => ((spec_l1Cur_among.f s0_0 bt104.2.1 bt104.2.2 (([(-1), 0, 1000, 1001] : List Int))).bind fun bt112 => (some (bt104.1, bt112.1, bt112.2.1, bt112.2.2)))) else ((spec_l1Cur_someLeft.f k s0_0 bt101.2.1 bt101.2.2).bind fun bt115 => ((spec_l1Cur_pick.f s0_0 bt115.2.1 bt115.2.2 20).bind fun bt120 => (some (bt115.1, bt120.1, bt120.2.1, bt120.2.2)))))) = some (r1, r2, r3, r4) := h
 clear h
 obtain ⟨⟨t101, t102, t103⟩, A2, H⟩ := obnd_ H
 (try dsimp only at H)
 by_cases c3 : t101 = true
 ·subst c3
  rw [if_pos rfl] at H
  obtain ⟨⟨t104, t107, t108⟩, A4, H⟩ := obnd_ H
  (try dsimp only at H)
  obtain ⟨y109, hy_⟩ : ∃ y_ : List Int, y_ = (([(-1), 0, 1000, 1001] : List Int)) := ⟨_, rfl⟩
  replace H : ((spec_l1Cur_among.f s0_0 t107 t108 y109).bind fun bt112 => (some (t104, bt112.1, bt112.2.1, bt112.2.2))) = some (r1, r2, r3, r4) := k1_
  have Ny109 := Aside0.mk hy_
  clear hy_
  obtain ⟨⟨t112, t113, t114⟩, A5, H⟩ := obnd_ H
  (try dsimp only at H)
  simp only [Option.some.injEq, Prod.mk.injEq] at H
  obtain ⟨rfl, rfl, rfl, rfl⟩ := H
  show (let Q'_ := bodyPost Try.prog Try.f50 P; Code.wp Try.prog _ Q'_ _ _)
  intro Q'_
  conv => arg 2; whnf
  go_wp2_with (first | ((with_reducible refine gate_callee (f := 55) rfl ?_); refine goesL_ (some 9) rfl rfl Try.func55 (by kernel_rfl) rfl #[.pointer (some ⟨g, 0, none⟩), .int .i64 12] rfl k35_ ?_; (with_reducible refine (spec_l1Cur_one.calls g s0_0 s0_1 s0_2 12 true t102 t103 w0 _ ?side1 ?side2 A2.out).mono ?_); (case side1 => exact k27_); (case side2 => exact k19_); rintro e w6 ⟨rfl, hi, hb, hk⟩; refine ⟨_, rfl, ?_⟩; replace HK := Aside0.mk (KeepBut.trans k33_ hk (.inl rfl)); replace HB := Aside0.mk (hb); replace HI0 := Aside0.mk (hi); (try clear hb hk hi)) | ((with_reducible refine gate_callee (f := 72) rfl ?_); refine goesL_ (some 11) rfl rfl Try.func72 (by kernel_rfl) rfl #[.pointer (some ⟨g, 0, none⟩)] rfl k35_ ?_; (with_reducible refine (spec_l1Cur_someLeft.calls k g s0_0 t102 t103 t104 t107 t108 w0 _ ?side1 ?side2 A4.out).mono ?_); (case side1 => exact k27_); (case side2 => exact k19_); rintro e w7 ⟨v105, rfl, ho0, hi, hb, hk⟩; refine ⟨_, rfl, ?_⟩; have HO106 := Aside0.mk (Kd.R_lower ho0 (keep_size (w := w) (g := g) (row := none) k33_)); replace HK := Aside0.mk (KeepBut.trans k33_ hk (.inl rfl)); replace HB := Aside0.mk (hb); replace HI0 := Aside0.mk (hi); (try clear hb hk hi ho0)) | ((with_reducible refine gate_dst (N := 13) rfl ?_); refine Kd.R_lit (Kd.int .i64) _ 3 ?hg (N := 13) ?hd (xs := ([(-1), 0, 1000, 1001] : List Int)) (inner := [.int .i64 (-1), .int .i64 0, .int .i64 1000, .int .i64 1001]) (ok := fun _ => True) (okp := fun _ => True) ?hr ?hp (fun _ hk => hk) trivial (Below.refl _ _) (Nat.le_refl _) (by simp) ?_; (case hd => rfl); (case hg => rfl); (case hr => exact k70_); (case hp => exact (Reps.one (show Kd.M (Kd.int .i64) _ _ _ (-1) [.int .i64 (-1)] from rfl) (Reps.one (show Kd.M (Kd.int .i64) _ _ _ 0 [.int .i64 0] from rfl) (Reps.one (show Kd.M (Kd.int .i64) _ _ _ 1000 [.int .i64 1000] from rfl) (Reps.one (show Kd.M (Kd.int .i64) _ _ _ 1001 [.int .i64 1001] from rfl) (Reps.none _ _)))))); intro v110 w8 ho9 hb hg_ hnew_; clear hg_ hnew_; (first | rw [← Ny109.out] at ho9 | (simp only [Int.reduceToNat] at ho9; rw [← Ny109.out] at ho9)); replace HO106 := HO106.mw hb; have HO111 := Aside0.mk (Kd.R_lower ho9 (keep_size (w := w) (g := g) (row := none) k33_)); replace HK := Aside0.mk (KeepBut.trans k33_ (KeepBut.of_below hb g none) (.inl rfl)); replace HB := Aside0.mk (below_step k19_ hb); replace HI0 := Aside0.mk (IsS60.below k27_ hb); clear hb ho9; obtain ⟨Ao10, co10, eo10⟩ := Kd.R_slice HO111.out; subst eo10) | ((with_reducible refine gate_callee (f := 64) rfl ?_); refine goesL_ (some 14) rfl rfl Try.func64 (by kernel_rfl) rfl #[.pointer (some ⟨g, 0, none⟩), .slice Ao10 y109.length co10] rfl k35_ ?_; (with_reducible refine (spec_l1Cur_among.calls g s0_0 t107 t108 _ _ y109 t112 t113 t114 w0 _ ?side1 ?side2 ?side3 ?side4 ?side5 A5.out).mono ?_); (case side1 => exact k27_); (case side2 => exact k19_); (case side3 => exact k25_); (case side4 => exact (Kd.R_reads' HO111.out).2.1); (case side5 => exact far_slice (IsS60.own_ne HI0.out HO111.out (by decide))); rintro e w11 ⟨rfl, hi, hb, hk⟩; refine ⟨_, rfl, ?_⟩; replace HO106 := Aside0.mk (Kd.R_mono (Kd.R_keep (IsS60.apart (show IsS60 w0 _ g s0_0 t107 t108 from k27_) k50_ (by decide)) hk (fun _ h => h.2)) (fun _ h => h.1)); replace HO111 := Aside0.mk (Kd.R_mono (Kd.R_keep (IsS60.apart (show IsS60 w0 _ g s0_0 t107 t108 from k27_) k51_ (by decide)) hk (fun _ h => h.2)) (fun _ h => h.1)); replace HK := Aside0.mk (KeepBut.trans k33_ hk (.inl rfl)); replace HB := Aside0.mk (hb); replace HI0 := Aside0.mk (hi); (try clear hb hk hi)))
  (try go_ret2)
  refine HP.out _ _ ?_
  exact ⟨_, k46_, by (with_reducible repeat (first | apply Kd.R_alloc | apply Kd.R_drewN | apply Kd.R_drew)); exact HO106.out, k27_, k19_, k33_⟩
 ·replace c3 := Bool.eq_false_iff.mpr c3
  subst c3
  rw [if_neg (show ¬ (false = true) by decide)] at H
  obtain ⟨⟨t115, t118, t119⟩, A12, H⟩ := obnd_ H
  (try dsimp only at H)
  obtain ⟨⟨t120, t121, t122⟩, A13, H⟩ := obnd_ H
  (try dsimp only at H)
  simp only [Option.some.injEq, Prod.mk.injEq] at H
  obtain ⟨rfl, rfl, rfl, rfl⟩ := H
  show (let Q'_ := bodyPost Try.prog Try.f50 P; Code.wp Try.prog _ Q'_ _ _)
  intro Q'_
  conv => arg 2; whnf
  go_wp2_with (first | ((with_reducible refine gate_callee (f := 55) rfl ?_); refine goesL_ (some 9) rfl rfl Try.func55 (by kernel_rfl) rfl #[.pointer (some ⟨g, 0, none⟩), .int .i64 12] rfl k35_ ?_; (with_reducible refine (spec_l1Cur_one.calls g s0_0 s0_1 s0_2 12 false t102 t103 w0 _ ?side1 ?side2 A2.out).mono ?_); (case side1 => exact k27_); (case side2 => exact k19_); rintro e w14 ⟨rfl, hi, hb, hk⟩; refine ⟨_, rfl, ?_⟩; replace HK := Aside0.mk (KeepBut.trans k33_ hk (.inl rfl)); replace HB := Aside0.mk (hb); replace HI0 := Aside0.mk (hi); (try clear hb hk hi)) | ((with_reducible refine gate_callee (f := 72) rfl ?_); refine goesL_ (some 16) rfl rfl Try.func72 (by kernel_rfl) rfl #[.pointer (some ⟨g, 0, none⟩)] rfl k35_ ?_; (with_reducible refine (spec_l1Cur_someLeft.calls k g s0_0 t102 t103 t115 t118 t119 w0 _ ?side1 ?side2 A12.out).mono ?_); (case side1 => exact k27_); (case side2 => exact k19_); rintro e w15 ⟨v116, rfl, ho0, hi, hb, hk⟩; refine ⟨_, rfl, ?_⟩; have HO117 := Aside0.mk (Kd.R_lower ho0 (keep_size (w := w) (g := g) (row := none) k33_)); replace HK := Aside0.mk (KeepBut.trans k33_ hk (.inl rfl)); replace HB := Aside0.mk (hb); replace HI0 := Aside0.mk (hi); (try clear hb hk hi ho0)) | ((with_reducible refine gate_callee (f := 65) rfl ?_); refine goesL_ (some 18) rfl rfl Try.func65 (by kernel_rfl) rfl #[.pointer (some ⟨g, 0, none⟩), .int .i64 20] rfl k35_ ?_; (with_reducible refine (spec_l1Cur_pick.calls g s0_0 t118 t119 20 t120 t121 t122 w0 _ ?side1 ?side2 A13.out).mono ?_); (case side1 => exact k27_); (case side2 => exact k19_); rintro e w16 ⟨rfl, hi, hb, hk⟩; refine ⟨_, rfl, ?_⟩; replace HO117 := Aside0.mk (Kd.R_mono (Kd.R_keep (IsS60.apart (show IsS60 w0 _ g s0_0 t118 t119 from k27_) (by apply_rules only [HO117.out, Kd.R_alloc, Kd.R_drewN, Kd.R_drew]) (by decide)) hk (fun _ h => h.2)) (fun _ h => h.1)); replace HK := Aside0.mk (KeepBut.trans k33_ hk (.inl rfl)); replace HB := Aside0.mk (hb); replace HI0 := Aside0.mk (hi); (try clear hb hk hi)))
  (try go_ret2)
  refine HP.out _ _ ?_
  exact ⟨_, k46_, by (with_reducible repeat (first | apply Kd.R_alloc | apply Kd.R_drewN | apply Kd.R_drew)); exact HO117.out, k27_, k19_, k33_⟩
def spec_DrawPairsInPeriod.f (k : Nat) (l0 : List Int) : Option ((List (SRule)) × Int) := (spec_DrawPairsInPeriod.g k l0 0 0).bind fun t => some (t.1, t.2.1)
set_option maxHeartbeats 8000000 in
set_option maxRecDepth 100000 in
theorem spec_DrawPairsInPeriod.calls (k : Nat) (A0 : Option Addr) (c0 : Nat) (l0 : List Int) (r1 : List (SRule)) (r2 : Int) (w : World) (hr0 : Kd.C (Kd.int .u8) w A0 l0.length l0) (hc0 : l0.length ≤ c0) (h : spec_DrawPairsInPeriod.f k l0 = some (r1, r2)) :
  Calls Try.prog 50 #[.slice A0 l0.length c0] w fun e w' => ∃ v0_ : Value, e = .returned (.tuple #[v0_, .int .i64 r2]) ∧ Kd.R kRule 38 w' w.heap.size (fun _ => True) v0_ r1 ∧ Below w.heap.size w w' := by
 obtain ⟨⟨r1_, r2_, r3, r4⟩, hg, he⟩ := Option.bind_eq_some_iff.mp h
 simp only [Option.some.injEq, Prod.mk.injEq] at he
 obtain ⟨rfl, rfl⟩ := he
 go_enter Try.func50, Try.ntmps50
 apply wp_seq_k
 intro K1 hK1
 have HK1 := Aside0.mk hK1
 clear hK1
 go_wp2
 refine HK1.out _ _ ?_
 apply wp_seq_k
 intro K2 hK2
 have HK2 := Aside0.mk hK2
 clear hK2
 go_wp2_with (first | ((with_reducible refine gate_dst (N := 7) rfl ?_); (try (refine gate_guard (by rfl) ?_; dsimp only)); refine box_event ?hg (N := 7) ?hd (cs := #[.slice A0 l0.length c0, .int .i64 0, .int .u64 0]) (t := 60) ?hr ?_; (case hd => rfl); (case hg => rfl); (case hr => exact k70_); intro gP hgp w1 hbox hb; have HGP := Aside0.mk hgp; have HBX := Aside0.mk hbox; have HBB := Aside0.mk hb; clear hgp hbox hb))
 refine HK2.out _ _ ?_
 have hBw : Below w.heap.size w w1 := HBB.out
 have hgP : w.heap.size ≤ gP := by rw [HGP.out]; exact Nat.le_refl _
 refine spec_DrawPairsInPeriod.rest k gP l0 0 0 r1_ r2_ r3 r4 w w w1 ⟨A0, c0, HBX.out, hgP, hr0⟩ (KeepBut.of_below hBw gP none) (Nat.le_refl _) hBw hg _ _ _ _ _ _ _ _ _ _ _ _ _ _ _ _ _ _ _ ?_
 rintro e w' ⟨v0_, rfl, ho_1, _hI2, hb_3, _hk4⟩
 exact ⟨_, rfl, ho_1, hb_3⟩
end Go.Proofs.Ytdcijdeiaefjpaa.P
namespace Go.Proofs.Ytdcijdeiaefjpaa.P
open Go.RowKit Go.Proofs.YtdcijdeiaefjpaaW.PrintWords Go.Proofs.YtdcijdeiaefjpaaW.PrintLast Go.Proofs.YtdcijdeiaefjpaaW.PrintMore
attribute [local go_sem] max2_int min2_int max_two min_two max_three min_three max_four min_four
set_option linter.unusedVariables false
set_option linter.unusedSimpArgs false
mutual
def spec_PairsInPeriod.j0 : Nat → List (SRule) → Int → List Int → Bool → Option (Int × Bool)
 | 0, _, _, _, _ => none
 | k + 1, x0, x1, x6, x22 => if x22 = true then (some (0, false)) else (spec_PairsInPeriod.l0 k x0 x1 0 x6 (x6.length : Int) 0)
def spec_PairsInPeriod.l0 : Nat → List (SRule) → Int → Int → List Int → Int → Int → Option (Int × Bool)
 | 0, _, _, _, _, _, _ => none
 | k + 1, x0, x1, x8, x23, x24, x25 => if x25 < x24 then (if 0 ≤ x25 then (if x25 < (x23.length : Int) then ((spec_siLeft.f k x0 (wrap64 ((rd x23 x25) + x1))).bind fun t107 => (if t107 = true then (spec_PairsInPeriod.l0 k x0 x1 (wrap64 (x8 + 1)) x23 x24 (wrap64 (x25 + 1))) else (spec_PairsInPeriod.l0 k x0 x1 x8 x23 x24 (wrap64 (x25 + 1))))) else (none)) else (none)) else (some (x8, true))
end
def spec_PairsInPeriod.f (k : Nat) (l0 : List (SRule)) (a1 : Int) : Option (Int × Bool) := (spec_gpLeft.f k l0).bind fun bt101 => (if bt101.2 = true then ((spec_l1In.f a1 0 1000).bind fun t105 => (spec_PairsInPeriod.j0 k l0 a1 bt101.1 (!t105))) else (spec_PairsInPeriod.j0 k l0 a1 bt101.1 true))
set_option maxHeartbeats 8000000 in
set_option maxRecDepth 100000 in
theorem spec_PairsInPeriod.calls (k : Nat) (A0 : Option Addr) (c0 : Nat) (l0 : List (SRule)) (a1 : Int) (r1 : Int) (r2 : Bool) (w : World) (hr0 : Kd.C kRule w A0 l0.length l0) (hc0 : l0.length ≤ c0) (h : spec_PairsInPeriod.f k l0 a1 = some (r1, r2)) :
  Calls Try.prog 51 #[.slice A0 l0.length c0, .int .i64 a1] w fun e w' => e = .returned (.tuple #[.int .i64 r1, .bool r2]) ∧ Below w.heap.size w w' := by
 have HR0 := Aside0.mk hr0
 have HC0 := Aside0.mk hc0
 clear hr0 hc0
 have HB := Aside0.mk (Below.refl w.heap.size w)
 have H : ((spec_gpLeft.f k l0).bind fun bt101 => (if bt101.2 = true then ((spec_l1In.f a1 0 1000).bind fun t105 => (spec_PairsInPeriod.j0 k l0 a1 bt101.1 (!t105))) else (spec_PairsInPeriod.j0 k l0 a1 bt101.1 true))) = some (r1, r2) := h
 clear h
 obtain ⟨⟨t101, t102⟩, A3, H⟩ := obnd_ H
 (try dsimp only at H)
 have HC4 := Aside0.mk H
 clear H
 go_enter Try.func51, Try.ntmps51
 go_upto_region 2 with (first | ((with_reducible refine gate_callee (f := 86) rfl ?_); refine goesL_ (some 13) rfl rfl Try.func86 (by kernel_rfl) rfl #[.slice A0 l0.length c0] rfl k35_ ?_; (with_reducible refine (spec_gpLeft.calls k _ _ l0 t101 t102 _ ?side1 ?side2 A3.out).mono ?_); (case side1 => exact k31_); (case side2 => exact k77_); rintro e w5 ⟨v103, rfl, ho0, hb⟩; refine ⟨_, rfl, ?_⟩; have HO104 := Aside0.mk (Kd.R_lower ho0 (below_size k49_)); replace HB := HB.mw hb; (try clear hb ho0)))
 (try simp only [Act.put, List.setIfInBounds_toArray, List.set_cons_zero, List.set_cons_succ])
 go_cut [22] (fun v22 wc => ∃ (kq : Nat) (x22_3 : Bool), v22 = .bool x22_3 ∧ Aside0 (spec_PairsInPeriod.j0 kq l0 a1 t101 x22_3 = some (r1, r2)) ∧ Aside0 (kq ≤ k) ∧ Aside0 (Kd.R (Kd.int .i64) 3 wc w.heap.size (fun _ => True) v103 t101) ∧ Aside0 (Below w.heap.size w wc))
 case first =>
  have H := HC4.out
  clear HC4
  by_cases c6 : t102 = true
  ·subst c6
   rw [if_pos rfl] at H
   obtain ⟨t105, A7, H⟩ := obnd_ H
   (try dsimp only at H)
   have H' := Aside0.mk H
   clear H
   go_wp2_with (first | (go_at_call 69; (with_reducible refine (spec_l1In.calls a1 0 1000 t105 _ A7.out).mono ?_); rintro e w' ⟨rfl, ⟨nd, rfl⟩⟩))
   go_meet
   case rel => exact ⟨_, (!t105), k69_, H', ⟨k72_⟩, ⟨k54_⟩, ⟨k49_⟩⟩
  ·replace c6 := Bool.eq_false_iff.mpr c6
   subst c6
   rw [if_neg (show ¬ (false = true) by decide)] at H
   have H' := Aside0.mk H
   clear H
   go_wp2
   go_meet
   case rel => exact ⟨_, (true), k69_, H', ⟨k72_⟩, ⟨k54_⟩, ⟨k49_⟩⟩
 case rest =>
  clear HC4
  obtain ⟨kq, x22_3, rfl, HA, HJ3, HO_6, HB⟩ := hcut
  cases kq with
  | zero => exact absurd HA.out (by simp [spec_PairsInPeriod.j0])
  | succ kj3 =>
   have H := HA.out
   clear HA
   simp only [spec_PairsInPeriod.j0] at H
   by_cases c8 : x22_3 = true
   ·subst c8
    rw [if_pos rfl] at H
    simp only [Option.some.injEq, Prod.mk.injEq] at H
    obtain ⟨rfl, rfl⟩ := H
    go_wp2
    go_ret2
    exact ⟨k46_, k49_⟩
   ·replace c8 := Bool.eq_false_iff.mpr c8
    subst c8
    rw [if_neg (show ¬ (false = true) by decide)] at H
    have H' := Aside0.mk H
    clear H
    obtain ⟨Ao9, co9, eo9⟩ := Kd.R_slice HO_6.out
    subst eo9
    go_wp2
    go_loopg [8, 25] kj3 (fun kq v8 v25 w' => ∃ (x8_2 : Int) (x25_2 : Int), v8 = .int .i64 x8_2 ∧ v25 = .int .i64 x25_2 ∧ Aside0 (spec_PairsInPeriod.l0 kq l0 a1 x8_2 t101 (t101.length : Int) x25_2 = some (r1, r2)) ∧ Aside0 (kq ≤ kj3) ∧ Aside0 (Kd.R (Kd.int .i64) 3 w' w.heap.size (fun _ => True) (.slice Ao9 t101.length co9) t101) ∧ Aside0 (Below w.heap.size w w'))
    case atStart => exact ⟨(0), (0), k69_, k69_, H', ⟨Nat.le_refl _⟩, ⟨k66_⟩, ⟨k49_⟩⟩
    case round =>
     clear H'
     (try clear c8)
     obtain ⟨x8_2, x25_2, rfl, rfl, HA, HK2, HO_23, HB⟩ := hrel
     cases gk with
     | zero => exact absurd HA.out (by simp [spec_PairsInPeriod.l0])
     | succ k2 =>
      have H := HA.out
      clear HA
      simp only [spec_PairsInPeriod.l0] at H
      by_cases c10 : x25_2 < (t101.length : Int)
      ·rw [if_pos c10] at H
       have c10b0 : decide (x25_2 < (t101.length : Int)) = true := decide_eq_true c10
       clear c10
       by_cases c11 : 0 ≤ x25_2
       ·rw [if_pos c11] at H
        have c11b0 : decide (0 ≤ x25_2) = true := decide_eq_true c11
        clear c11
        by_cases c12 : x25_2 < (t101.length : Int)
        ·rw [if_pos c12] at H
         have c12b0 : decide (x25_2 < (t101.length : Int)) = true := decide_eq_true c12
         clear c12
         obtain ⟨t107, A13, H⟩ := obnd_ H
         (try dsimp only at H)
         by_cases c14 : t107 = true
         ·subst c14
          rw [if_pos rfl] at H
          have H' := Aside0.mk H
          clear H
          have p106 : 0 ≤ (x25_2 : Int) := of_decide_eq_true k68_
          have q106 : x25_2 < (t101.length : Int) := of_decide_eq_true k68_
          obtain ⟨ad106, e106, hx106_0⟩ := Kd.at_int (Kd.R_reads' HO_23.out).2.2 x25_2 p106 q106
          cases e106
          replace p106 := eq_true p106
          replace q106 := eq_true q106
          go_wp2_with (first | ((with_reducible refine gate_callee (f := 87) rfl ?_); refine goesL_ (some 33) rfl rfl Try.func87 (by kernel_rfl) rfl #[.slice A0 l0.length c0, .int .i64 (wrap64 ((rd t101 x25_2) + a1))] rfl k35_ ?_; (with_reducible refine (spec_siLeft.calls k2 _ _ l0 (wrap64 ((rd t101 x25_2) + a1)) true _ ?side1 ?side2 A13.out).mono ?_); (case side1 => exact k18_); (case side2 => exact k77_); rintro e w15 ⟨rfl, hb⟩; refine ⟨_, rfl, ?_⟩; replace HO_23 := HO_23.mw hb; replace HB := HB.mw hb; (try clear hb)))
          go_roundg k2
          case measure => have := HJ3.out; have := HK2.out; omega
          case rel => exact ⟨(wrap64 (x8_2 + 1)), (wrap64 (x25_2 + 1)), k69_, k69_, H', ⟨k71_⟩, ⟨by apply_rules only [HO_23.out, Kd.R_alloc, Kd.R_drewN, Kd.R_drew]⟩, ⟨k49_⟩⟩
         ·replace c14 := Bool.eq_false_iff.mpr c14
          subst c14
          rw [if_neg (show ¬ (false = true) by decide)] at H
          have H' := Aside0.mk H
          clear H
          have p106 : 0 ≤ (x25_2 : Int) := of_decide_eq_true k68_
          have q106 : x25_2 < (t101.length : Int) := of_decide_eq_true k68_
          obtain ⟨ad106, e106, hx106_0⟩ := Kd.at_int (Kd.R_reads' HO_23.out).2.2 x25_2 p106 q106
          cases e106
          replace p106 := eq_true p106
          replace q106 := eq_true q106
          go_wp2_with (first | ((with_reducible refine gate_callee (f := 87) rfl ?_); refine goesL_ (some 33) rfl rfl Try.func87 (by kernel_rfl) rfl #[.slice A0 l0.length c0, .int .i64 (wrap64 ((rd t101 x25_2) + a1))] rfl k35_ ?_; (with_reducible refine (spec_siLeft.calls k2 _ _ l0 (wrap64 ((rd t101 x25_2) + a1)) false _ ?side1 ?side2 A13.out).mono ?_); (case side1 => exact k18_); (case side2 => exact k77_); rintro e w16 ⟨rfl, hb⟩; refine ⟨_, rfl, ?_⟩; replace HO_23 := HO_23.mw hb; replace HB := HB.mw hb; (try clear hb)))
          go_roundg k2
          case measure => have := HJ3.out; have := HK2.out; omega
          case rel => exact ⟨(x8_2), (wrap64 (x25_2 + 1)), k69_, k69_, H', ⟨k71_⟩, ⟨by apply_rules only [HO_23.out, Kd.R_alloc, Kd.R_drewN, Kd.R_drew]⟩, ⟨k49_⟩⟩
        ·rw [if_neg c12] at H
         exact absurd H (by simp)
       ·rw [if_neg c11] at H
        exact absurd H (by simp)
      ·rw [if_neg c10] at H
       have c10b0 : decide (x25_2 < (t101.length : Int)) = false := decide_eq_false c10
       clear c10
       simp only [Option.some.injEq, Prod.mk.injEq] at H
       obtain ⟨rfl, rfl⟩ := H
       go_wp2
       go_ret2
       exact ⟨k46_, k49_⟩
end Go.Proofs.Ytdcijdeiaefjpaa.P
namespace Go.Proofs.Ytdcijdeiaefjpaa.P
open Go.RowKit Go.Proofs.YtdcijdeiaefjpaaW.PrintWords Go.Proofs.YtdcijdeiaefjpaaW.PrintLast Go.Proofs.YtdcijdeiaefjpaaW.PrintMore
attribute [local go_sem] max2_int min2_int max_two min_two max_three min_three max_four min_four
set_option linter.unusedVariables false
set_option linter.unusedSimpArgs false
def spec_DrawCountGaps.g (k : Nat) (s0_0 : List Int) (s0_1 : Int) (s0_2 : Int) : Option ((List (SRule)) × Int × Int × Int) := (spec_l1Cur_someLeft.f k s0_0 s0_1 s0_2).bind fun bt101 => ((spec_l1Cur_pick.f s0_0 bt101.2.1 bt101.2.2 9).bind fun bt106 => (some (bt101.1, bt106.1, bt106.2.1, bt106.2.2)))
def spec_DrawCountGaps.codeOf : Option Code → Code
 | some c => c
 | none => .skip
def spec_DrawCountGaps.seqB : Code → Code
 | .seq _ b => b
 | c => c
set_option maxHeartbeats 8000000 in
set_option maxRecDepth 100000 in
theorem spec_DrawCountGaps.rest (k : Nat) (g : Nat) (s0_0 : List Int) (s0_1 : Int) (s0_2 : Int) (r1 : List (SRule)) (r2 : Int) (r3 : Int) (r4 : Int) (w0 w wc : World) (hI : IsS60 w0 wc g s0_0 s0_1 s0_2) (hK : KeepBut w wc g none) (hL : w0.heap.size ≤ w.heap.size) (hB : Below w0.heap.size w0 wc) (h : spec_DrawCountGaps.g k s0_0 s0_1 s0_2 = some (r1, r2, r3, r4)) (u0 u1 u2 u3 u5 u6 u7 u8 u9 u10 u11 : Value) (P : Ending → World → Prop) (hP : ∀ e w', (∃ v0_ : Value, e = .returned (.tuple #[v0_, .int .i64 r2]) ∧ Kd.R kRule 38 w' w.heap.size (fun _ => True) v0_ r1 ∧ IsS60 w0 w' g s0_0 r3 r4 ∧ Below w0.heap.size w0 w' ∧ KeepBut w w' g none) → P e w') :
  Code.wp Try.prog (spec_DrawCountGaps.seqB (spec_DrawCountGaps.seqB (spec_DrawCountGaps.codeOf Try.f52.body))) (bodyPost Try.prog Try.f52 P) ⟨#[u0, u1, u2, u3, .pointer (some ⟨g, 0, none⟩), u5, u6, u7, u8, u9, u10, u11], []⟩ wc := by
 have HP := Aside0.mk hP
 clear hP
 have HI0 := Aside0.mk hI
 have HK := Aside0.mk hK
 clear hK
 have HL := Aside0.mk hL
 clear hI
 have HW0 := Aside0.mk hL
 clear hL
 have HB := Aside0.mk hB
 clear hB
 have H : ((spec_l1Cur_someLeft.f k s0_0 s0_1 s0_2).bind fun bt101 => ((spec_l1Cur_pick.f s0_0 bt101.2.1 bt101.2.2 9).bind fun bt106 => (some (bt101.1, bt106.1, bt106.2.1, bt106.2.2)))) = some (r1, r2, r3, r4) := h
 clear h
 obtain ⟨⟨t101, t104, t105⟩, A2, H⟩ := obnd_ H
 (try dsimp only at H)
 obtain ⟨⟨t106, t107, t108⟩, A3, H⟩ := obnd_ H
 (try dsimp only at H)
 simp only [Option.some.injEq, Prod.mk.injEq] at H
 obtain ⟨rfl, rfl, rfl, rfl⟩ := H
 show (let Q'_ := bodyPost Try.prog Try.f52 P; Code.wp Try.prog _ Q'_ _ _)
 intro Q'_
 conv => arg 2; whnf
 go_wp2_with (first | ((with_reducible refine gate_callee (f := 72) rfl ?_); refine goesL_ (some 9) rfl rfl Try.func72 (by kernel_rfl) rfl #[.pointer (some ⟨g, 0, none⟩)] rfl k35_ ?_; (with_reducible refine (spec_l1Cur_someLeft.calls k g s0_0 s0_1 s0_2 t101 t104 t105 w0 _ ?side1 ?side2 A2.out).mono ?_); (case side1 => exact k27_); (case side2 => exact k19_); rintro e w4 ⟨v102, rfl, ho0, hi, hb, hk⟩; refine ⟨_, rfl, ?_⟩; have HO103 := Aside0.mk (Kd.R_lower ho0 (keep_size (w := w) (g := g) (row := none) k33_)); replace HK := Aside0.mk (KeepBut.trans k33_ hk (.inl rfl)); replace HB := Aside0.mk (hb); replace HI0 := Aside0.mk (hi); (try clear hb hk hi ho0)) | ((with_reducible refine gate_callee (f := 65) rfl ?_); refine goesL_ (some 11) rfl rfl Try.func65 (by kernel_rfl) rfl #[.pointer (some ⟨g, 0, none⟩), .int .i64 9] rfl k35_ ?_; (with_reducible refine (spec_l1Cur_pick.calls g s0_0 t104 t105 9 t106 t107 t108 w0 _ ?side1 ?side2 A3.out).mono ?_); (case side1 => exact k27_); (case side2 => exact k19_); rintro e w5 ⟨rfl, hi, hb, hk⟩; refine ⟨_, rfl, ?_⟩; replace HO103 := Aside0.mk (Kd.R_mono (Kd.R_keep (IsS60.apart (show IsS60 w0 _ g s0_0 t104 t105 from k27_) k58_ (by decide)) hk (fun _ h => h.2)) (fun _ h => h.1)); replace HK := Aside0.mk (KeepBut.trans k33_ hk (.inl rfl)); replace HB := Aside0.mk (hb); replace HI0 := Aside0.mk (hi); (try clear hb hk hi)))
 (try go_ret2)
 refine HP.out _ _ ?_
 exact ⟨_, k46_, k45_, k27_, k19_, k33_⟩
def spec_DrawCountGaps.f (k : Nat) (l0 : List Int) : Option ((List (SRule)) × Int) := (spec_DrawCountGaps.g k l0 0 0).bind fun t => some (t.1, t.2.1)
set_option maxHeartbeats 8000000 in
set_option maxRecDepth 100000 in
theorem spec_DrawCountGaps.calls (k : Nat) (A0 : Option Addr) (c0 : Nat) (l0 : List Int) (r1 : List (SRule)) (r2 : Int) (w : World) (hr0 : Kd.C (Kd.int .u8) w A0 l0.length l0) (hc0 : l0.length ≤ c0) (h : spec_DrawCountGaps.f k l0 = some (r1, r2)) :
  Calls Try.prog 52 #[.slice A0 l0.length c0] w fun e w' => ∃ v0_ : Value, e = .returned (.tuple #[v0_, .int .i64 r2]) ∧ Kd.R kRule 38 w' w.heap.size (fun _ => True) v0_ r1 ∧ Below w.heap.size w w' := by
 obtain ⟨⟨r1_, r2_, r3, r4⟩, hg, he⟩ := Option.bind_eq_some_iff.mp h
 simp only [Option.some.injEq, Prod.mk.injEq] at he
 obtain ⟨rfl, rfl⟩ := he
 go_enter Try.func52, Try.ntmps52
 apply wp_seq_k
 intro K1 hK1
 have HK1 := Aside0.mk hK1
 clear hK1
 go_wp2
 refine HK1.out _ _ ?_
 apply wp_seq_k
 intro K2 hK2
 have HK2 := Aside0.mk hK2
 clear hK2
 go_wp2_with (first | ((with_reducible refine gate_dst (N := 7) rfl ?_); (try (refine gate_guard (by rfl) ?_; dsimp only)); refine box_event ?hg (N := 7) ?hd (cs := #[.slice A0 l0.length c0, .int .i64 0, .int .u64 0]) (t := 60) ?hr ?_; (case hd => rfl); (case hg => rfl); (case hr => exact k70_); intro gP hgp w1 hbox hb; have HGP := Aside0.mk hgp; have HBX := Aside0.mk hbox; have HBB := Aside0.mk hb; clear hgp hbox hb))
 refine HK2.out _ _ ?_
 have hBw : Below w.heap.size w w1 := HBB.out
 have hgP : w.heap.size ≤ gP := by rw [HGP.out]; exact Nat.le_refl _
 refine spec_DrawCountGaps.rest k gP l0 0 0 r1_ r2_ r3 r4 w w w1 ⟨A0, c0, HBX.out, hgP, hr0⟩ (KeepBut.of_below hBw gP none) (Nat.le_refl _) hBw hg _ _ _ _ _ _ _ _ _ _ _ _ ?_
 rintro e w' ⟨v0_, rfl, ho_1, _hI2, hb_3, _hk4⟩
 exact ⟨_, rfl, ho_1, hb_3⟩
end Go.Proofs.Ytdcijdeiaefjpaa.P
namespace Go.Proofs.Ytdcijdeiaefjpaa.P
open Go.RowKit Go.Proofs.YtdcijdeiaefjpaaW.PrintWords Go.Proofs.YtdcijdeiaefjpaaW.PrintLast Go.Proofs.YtdcijdeiaefjpaaW.PrintMore
attribute [local go_sem] max2_int min2_int max_two min_two max_three min_three max_four min_four
set_option linter.unusedVariables false
set_option linter.unusedSimpArgs false
mutual
def spec_CountGaps.j0 : Nat → Int → List Int → Bool → Option (Int × Bool)
 | 0, _, _, _ => none
 | k + 1, x1, x6, x23 => if x23 = true then (some (0, false)) else (spec_CountGaps.l0 k x1 0 x6 (x6.length : Int) 0)
def spec_CountGaps.l0 : Nat → Int → Int → List Int → Int → Int → Option (Int × Bool)
 | 0, _, _, _, _, _ => none
 | k + 1, x1, x9, x24, x25, x26 => if x26 < x25 then (if 0 ≤ x26 then (if x26 < (x24.length : Int) then (if (rd x24 x26) = x1 then (spec_CountGaps.l0 k x1 (wrap64 (x9 + 1)) x24 x25 (wrap64 (x26 + 1))) else (spec_CountGaps.l0 k x1 x9 x24 x25 (wrap64 (x26 + 1)))) else (none)) else (none)) else (some (x9, true))
end
def spec_CountGaps.f (k : Nat) (l0 : List (SRule)) (a1 : Int) : Option (Int × Bool) := (spec_gpGaps.f k l0).bind fun bt101 => (if bt101.2.2 = true then (spec_CountGaps.j0 k a1 bt101.1 (decide (a1 < 1))) else (spec_CountGaps.j0 k a1 bt101.1 true))
set_option maxHeartbeats 8000000 in
set_option maxRecDepth 100000 in
theorem spec_CountGaps.calls (k : Nat) (A0 : Option Addr) (c0 : Nat) (l0 : List (SRule)) (a1 : Int) (r1 : Int) (r2 : Bool) (w : World) (hr0 : Kd.C kRule w A0 l0.length l0) (hc0 : l0.length ≤ c0) (h : spec_CountGaps.f k l0 a1 = some (r1, r2)) :
  Calls Try.prog 53 #[.slice A0 l0.length c0, .int .i64 a1] w fun e w' => e = .returned (.tuple #[.int .i64 r1, .bool r2]) ∧ Below w.heap.size w w' := by
 have HR0 := Aside0.mk hr0
 have HC0 := Aside0.mk hc0
 clear hr0 hc0
 have HB := Aside0.mk (Below.refl w.heap.size w)
 have H : ((spec_gpGaps.f k l0).bind fun bt101 => (if bt101.2.2 = true then (spec_CountGaps.j0 k a1 bt101.1 (decide (a1 < 1))) else (spec_CountGaps.j0 k a1 bt101.1 true))) = some (r1, r2) := h
 clear h
 obtain ⟨⟨t101, t102, t103⟩, A3, H⟩ := obnd_ H
 (try dsimp only at H)
 have HC4 := Aside0.mk H
 clear H
 go_enter Try.func53, Try.ntmps53
 go_upto_region 2 with (first | ((with_reducible refine gate_callee (f := 73) rfl ?_); refine goesL_ (some 14) rfl rfl Try.func73 (by kernel_rfl) rfl #[.slice A0 l0.length c0] rfl k35_ ?_; (with_reducible refine (spec_gpGaps.calls k _ _ l0 t101 t102 t103 _ ?side1 ?side2 A3.out).mono ?_); (case side1 => exact k31_); (case side2 => exact k77_); rintro e w5 ⟨v104, v106, rfl, ho0, ho1, hb⟩; refine ⟨_, rfl, ?_⟩; have HO105 := Aside0.mk (Kd.R_lower ho0 (below_size k49_)); have HO107 := Aside0.mk (Kd.R_lower ho1 (below_size k49_)); replace HB := HB.mw hb; (try clear hb ho0 ho1)))
 (try simp only [Act.put, List.setIfInBounds_toArray, List.set_cons_zero, List.set_cons_succ])
 go_cut [23] (fun v23 wc => ∃ (kq : Nat) (x23_3 : Bool), v23 = .bool x23_3 ∧ Aside0 (spec_CountGaps.j0 kq a1 t101 x23_3 = some (r1, r2)) ∧ Aside0 (kq ≤ k) ∧ Aside0 (Kd.R (Kd.int .i64) 3 wc w.heap.size (fun _ => True) v104 t101) ∧ Aside0 (Below w.heap.size w wc))
 case first =>
  have H := HC4.out
  clear HC4
  by_cases c6 : t103 = true
  ·subst c6
   rw [if_pos rfl] at H
   have H' := Aside0.mk H
   clear H
   go_wp2
   go_meet
   case rel => exact ⟨_, (decide (a1 < 1)), k69_, H', ⟨k72_⟩, ⟨k37_⟩, ⟨k49_⟩⟩
  ·replace c6 := Bool.eq_false_iff.mpr c6
   subst c6
   rw [if_neg (show ¬ (false = true) by decide)] at H
   have H' := Aside0.mk H
   clear H
   go_wp2
   go_meet
   case rel => exact ⟨_, (true), k69_, H', ⟨k72_⟩, ⟨k37_⟩, ⟨k49_⟩⟩
 case rest =>
  clear HC4
  obtain ⟨kq, x23_3, rfl, HA, HJ3, HO_6, HB⟩ := hcut
  cases kq with
  | zero => exact absurd HA.out (by simp [spec_CountGaps.j0])
  | succ kj3 =>
   have H := HA.out
   clear HA
   simp only [spec_CountGaps.j0] at H
   by_cases c7 : x23_3 = true
   ·subst c7
    rw [if_pos rfl] at H
    simp only [Option.some.injEq, Prod.mk.injEq] at H
    obtain ⟨rfl, rfl⟩ := H
    go_wp2
    go_ret2
    exact ⟨k46_, k49_⟩
   ·replace c7 := Bool.eq_false_iff.mpr c7
    subst c7
    rw [if_neg (show ¬ (false = true) by decide)] at H
    have H' := Aside0.mk H
    clear H
    obtain ⟨Ao8, co8, eo8⟩ := Kd.R_slice HO_6.out
    subst eo8
    go_wp2
    go_loopg [9, 26] kj3 (fun kq v9 v26 w' => ∃ (x9_2 : Int) (x26_2 : Int), v9 = .int .i64 x9_2 ∧ v26 = .int .i64 x26_2 ∧ Aside0 (spec_CountGaps.l0 kq a1 x9_2 t101 (t101.length : Int) x26_2 = some (r1, r2)) ∧ Aside0 (kq ≤ kj3) ∧ Aside0 (Kd.R (Kd.int .i64) 3 w' w.heap.size (fun _ => True) (.slice Ao8 t101.length co8) t101) ∧ Aside0 (Below w.heap.size w w'))
    case atStart => exact ⟨(0), (0), k69_, k69_, H', ⟨Nat.le_refl _⟩, ⟨k66_⟩, ⟨k49_⟩⟩
    case round =>
     clear H'
     (try clear c7)
     obtain ⟨x9_2, x26_2, rfl, rfl, HA, HK2, HO_24, HB⟩ := hrel
     cases gk with
     | zero => exact absurd HA.out (by simp [spec_CountGaps.l0])
     | succ k2 =>
      have H := HA.out
      clear HA
      simp only [spec_CountGaps.l0] at H
      by_cases c9 : x26_2 < (t101.length : Int)
      ·rw [if_pos c9] at H
       have c9b0 : decide (x26_2 < (t101.length : Int)) = true := decide_eq_true c9
       clear c9
       by_cases c10 : 0 ≤ x26_2
       ·rw [if_pos c10] at H
        have c10b0 : decide (0 ≤ x26_2) = true := decide_eq_true c10
        clear c10
        by_cases c11 : x26_2 < (t101.length : Int)
        ·rw [if_pos c11] at H
         have c11b0 : decide (x26_2 < (t101.length : Int)) = true := decide_eq_true c11
         clear c11
         by_cases c12 : (rd t101 x26_2) = a1
         ·rw [if_pos c12] at H
          have c12b0 : ((rd t101 x26_2) == a1) = true := beq_iff_eq.mpr c12
          have c12b1 : ((rd t101 x26_2) != a1) = false := bne_eq_false_iff_eq.mpr c12
          clear c12
          have H' := Aside0.mk H
          clear H
          have p108 : 0 ≤ (x26_2 : Int) := of_decide_eq_true k68_
          have q108 : x26_2 < (t101.length : Int) := of_decide_eq_true k68_
          obtain ⟨ad108, e108, hx108_0⟩ := Kd.at_int (Kd.R_reads' HO_24.out).2.2 x26_2 p108 q108
          cases e108
          replace p108 := eq_true p108
          replace q108 := eq_true q108
          go_wp2
          go_roundg k2
          case measure => have := HJ3.out; have := HK2.out; omega
          case rel => exact ⟨(wrap64 (x9_2 + 1)), (wrap64 (x26_2 + 1)), k69_, k69_, H', ⟨k71_⟩, ⟨by apply_rules only [HO_24.out, Kd.R_alloc, Kd.R_drewN, Kd.R_drew]⟩, ⟨k49_⟩⟩
         ·rw [if_neg c12] at H
          have c12b0 : ((rd t101 x26_2) == a1) = false := beq_eq_false_iff_ne.mpr c12
          have c12b1 : ((rd t101 x26_2) != a1) = true := bne_iff_ne.mpr c12
          have H' := Aside0.mk H
          clear H
          have p108 : 0 ≤ (x26_2 : Int) := of_decide_eq_true k68_
          have q108 : x26_2 < (t101.length : Int) := of_decide_eq_true k68_
          obtain ⟨ad108, e108, hx108_0⟩ := Kd.at_int (Kd.R_reads' HO_24.out).2.2 x26_2 p108 q108
          cases e108
          replace p108 := eq_true p108
          replace q108 := eq_true q108
          go_wp2
          go_roundg k2
          case measure => have := HJ3.out; have := HK2.out; omega
          case rel => exact ⟨(x9_2), (wrap64 (x26_2 + 1)), k69_, k69_, H', ⟨k71_⟩, ⟨by apply_rules only [HO_24.out, Kd.R_alloc, Kd.R_drewN, Kd.R_drew]⟩, ⟨k49_⟩⟩
        ·rw [if_neg c11] at H
         exact absurd H (by simp)
       ·rw [if_neg c10] at H
        exact absurd H (by simp)
      ·rw [if_neg c9] at H
       have c9b0 : decide (x26_2 < (t101.length : Int)) = false := decide_eq_false c9
       clear c9
       simp only [Option.some.injEq, Prod.mk.injEq] at H
       obtain ⟨rfl, rfl⟩ := H
       go_wp2
       go_ret2
       exact ⟨k46_, k49_⟩
end Go.Proofs.Ytdcijdeiaefjpaa.P
