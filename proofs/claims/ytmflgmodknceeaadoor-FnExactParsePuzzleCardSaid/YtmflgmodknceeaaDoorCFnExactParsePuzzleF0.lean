/- What functions of the program answer. Proved in this text: its theorems. Conditions: as each theorem states them. -/
import Derived.Test.YtmflgmodknceeaaDoorCFnExactParsePuzzleP
namespace Go.Proofs.YtmflgmodknceeaaDoor.P
open Go.RowKit Go.Proofs.YtmflgmodknceeaaDoorW.PrintWords Go.Proofs.YtmflgmodknceeaaDoorW.PrintLast Go.Proofs.YtmflgmodknceeaaDoorW.PrintMore
attribute [local go_sem] max2_int min2_int max_two min_two max_three min_three max_four min_four
set_option linter.unusedVariables false
set_option linter.unusedSimpArgs false
def lays160_ren : Go.Shelf.Ren := ⟨fun | 160 => 20 | 232 => 29 | 231 => 28 | 227 => 30 | 234 => 32 | 233 => 31 | 236 => 34 | 235 => 33 | 228 => 43 | 271 => 46 | 151 => 45 | 197 => 44 | 120 => 54 | 152 => 53 | 260 => 52 | 137 => 59 | 119 => 60 | 224 => 38 | 225 => 37 | 217 => 36 | 266 => 48 | n => n, fun | 9 => 9 | 4 => 4 | 3 => 3 | 5 => 5 | 117 => 54 | 116 => 53 | 0 => 0 | 124 => 57 | 21 => 21 | 105 => 69 | 46 => 60 | 119 => 87 | 139 => 90 | 138 => 89 | n => n, fun | 3 => 3 | 4 => 4 | n => n⟩
theorem lays160 : Go.Proofs.Lays.n160 Tryd.prog lays160_ren := {
  mixed := by kernel_rfl
  f119 := Tryd.func60.trans (congrArg some (by kernel_rfl))
  f120 := Tryd.func54.trans (congrArg some (by kernel_rfl))
  f137 := Tryd.func59.trans (congrArg some (by kernel_rfl))
  f151 := Tryd.func45.trans (congrArg some (by kernel_rfl))
  f152 := Tryd.func53.trans (congrArg some (by kernel_rfl))
  f160 := Tryd.func20.trans (congrArg some (by kernel_rfl))
  f197 := Tryd.func44.trans (congrArg some (by kernel_rfl))
  f217 := Tryd.func36.trans (congrArg some (by kernel_rfl))
  f224 := Tryd.func38.trans (congrArg some (by kernel_rfl))
  f225 := Tryd.func37.trans (congrArg some (by kernel_rfl))
  f227 := Tryd.func30.trans (congrArg some (by kernel_rfl))
  f228 := Tryd.func43.trans (congrArg some (by kernel_rfl))
  f231 := Tryd.func28.trans (congrArg some (by kernel_rfl))
  f232 := Tryd.func29.trans (congrArg some (by kernel_rfl))
  f233 := Tryd.func31.trans (congrArg some (by kernel_rfl))
  f234 := Tryd.func32.trans (congrArg some (by kernel_rfl))
  f235 := Tryd.func33.trans (congrArg some (by kernel_rfl))
  f236 := Tryd.func34.trans (congrArg some (by kernel_rfl))
  f260 := Tryd.func52.trans (congrArg some (by kernel_rfl))
  f266 := Tryd.func48.trans (congrArg some (by kernel_rfl))
  f271 := Tryd.func46.trans (congrArg some (by kernel_rfl))
  t0 := Tryd.underlying0
  a0 := Tryd.isAgg0
  z0 := Tryd.sizeOf0
  v0 := Tryd.zeroValue0
  t3 := Tryd.underlying3
  a3 := Tryd.isAgg3
  z3 := Tryd.sizeOf3
  v3 := Tryd.zeroValue3
  t4 := Tryd.underlying4
  a4 := Tryd.isAgg4
  z4 := Tryd.sizeOf4
  v4 := Tryd.zeroValue4
  t5 := Tryd.underlying5
  a5 := Tryd.isAgg5
  z5 := Tryd.sizeOf5
  v5 := Tryd.zeroValue5
  t9 := Tryd.underlying9
  a9 := Tryd.isAgg9
  z9 := Tryd.sizeOf9
  v9 := Tryd.zeroValue9
  t21 := Tryd.underlying21
  a21 := Tryd.isAgg21
  z21 := Tryd.sizeOf21
  v21 := Tryd.zeroValue21
  t46 := Tryd.underlying60
  a46 := Tryd.isAgg60
  z46 := Tryd.sizeOf60
  v46 := Tryd.zeroValue60
  t105 := Tryd.underlying69
  a105 := Tryd.isAgg69
  z105 := Tryd.sizeOf69
  v105 := Tryd.zeroValue69
  t116 := Tryd.underlying53
  a116 := Tryd.isAgg53
  z116 := Tryd.sizeOf53
  t117 := Tryd.underlying54
  a117 := Tryd.isAgg54
  z117 := Tryd.sizeOf54
  v117 := Tryd.zeroValue54
  t119 := Tryd.underlying87
  a119 := Tryd.isAgg87
  z119 := Tryd.sizeOf87
  t124 := Tryd.underlying57
  a124 := Tryd.isAgg57
  z124 := Tryd.sizeOf57
  v124 := Tryd.zeroValue57
  t138 := Tryd.underlying89
  a138 := Tryd.isAgg89
  z138 := Tryd.sizeOf89
  v138 := Tryd.zeroValue89
  t139 := Tryd.underlying90
  a139 := Tryd.isAgg90
  z139 := Tryd.sizeOf90
  v139 := Tryd.zeroValue90
  g3 := by kernel_rfl
  g4 := by kernel_rfl }
def strings_Trim.f (a0 a1 : ByteArray) : Option ByteArray := if a0.size ≤ 9223372036854775807 ∧ a1 = (⟨#[111, 120, 63]⟩ : ByteArray) then some ⟨(Lib.trimS a0.data.toList [111, 120, 63]).toArray⟩ else none
theorem strings_Trim.calls (a0 : ByteArray) (a1 : ByteArray) (r : ByteArray) (w : World) (h : strings_Trim.f a0 a1 = some r) :
    Calls Tryd.prog 20 #[.string a0, .string a1] w fun e w' => e = .returned (.string r) ∧ Below w.heap.size w w' := by
  unfold strings_Trim.f at h
  by_cases hc : a0.size ≤ 9223372036854775807 ∧ a1 = (⟨#[111, 120, 63]⟩ : ByteArray)
  · rw [if_pos hc] at h
    obtain rfl := Option.some.inj h
    obtain ⟨hs, rfl⟩ := hc
    exact Any.strings_Trim_laid lays160 (by kernel_rfl) a0 ⟨#[111, 120, 63]⟩ w hs (by decide) (ascii_of_all (by decide))
  · rw [if_neg hc] at h
    exact absurd h (by simp)
end Go.Proofs.YtmflgmodknceeaaDoor.P
namespace Go.Proofs.YtmflgmodknceeaaDoor.P
open Go.RowKit Go.Proofs.YtmflgmodknceeaaDoorW.PrintWords Go.Proofs.YtmflgmodknceeaaDoorW.PrintLast Go.Proofs.YtmflgmodknceeaaDoorW.PrintMore
attribute [local go_sem] max2_int min2_int max_two min_two max_three min_three max_four min_four
set_option linter.unusedVariables false
set_option linter.unusedSimpArgs false
def impl_isPuzzle.f (a0_0 : ByteArray) (a0_1 : Int) : Option (Bool) := if (a0_0.size : Int) ≥ 1 then (if (a0_0.size : Int) ≤ 48 then ((strings_Trim.f a0_0 (⟨#[111, 120, 63]⟩ : ByteArray)).bind fun t102 => (if t102.toList = ([] : List UInt8) then (if a0_1 ≥ 0 then (some (decide (a0_1 ≤ 3))) else (some false)) else (some false))) else (some false)) else (some false)
set_option maxHeartbeats 8000000 in
set_option maxRecDepth 100000 in
theorem impl_isPuzzle.calls (a0_0 : ByteArray) (a0_1 : Int) (r : Bool) (w : World) (h : impl_isPuzzle.f a0_0 a0_1 = some r) :
  Calls Tryd.prog 15 #[.agg #[.string a0_0, .int .i64 a0_1]] w fun e w' => e = .returned (.bool r) ∧ Below w.heap.size w w' := by
 have hu23 := Tryd.underlying23
 have HB := Aside0.mk (Below.refl w.heap.size w)
 have H : (if (a0_0.size : Int) ≥ 1 then (if (a0_0.size : Int) ≤ 48 then ((strings_Trim.f a0_0 (⟨#[111, 120, 63]⟩ : ByteArray)).bind fun t102 => (if t102.toList = ([] : List UInt8) then (if a0_1 ≥ 0 then (some (decide (a0_1 ≤ 3))) else (some false)) else (some false))) else (some false)) else (some false)) = some r := h
 clear h
 by_cases c2 : (a0_0.size : Int) ≥ 1
 ·rw [if_pos c2] at H
  have c2b0 : decide (1 ≤ (a0_0.size : Int)) = true := decide_eq_true c2
  have c2b1 : decide (1 ≤ a0_0.size) = true := decide_eq_true (by omega)
  clear c2
  by_cases c3 : (a0_0.size : Int) ≤ 48
  ·rw [if_pos c3] at H
   have c3b0 : decide ((a0_0.size : Int) ≤ 48) = true := decide_eq_true c3
   have c3b1 : decide (a0_0.size ≤ 48) = true := decide_eq_true (by omega)
   clear c3
   obtain ⟨t102, A4, H⟩ := obnd_ H
   (try dsimp only at H)
   by_cases c5 : t102.toList = ([] : List UInt8)
   ·rw [if_pos c5] at H
    have c5b0 : (t102.toList == ([] : List UInt8)) = true := beq_iff_eq.mpr c5
    have c5b1 : (t102.toList != ([] : List UInt8)) = false := bne_eq_false_iff_eq.mpr c5
    clear c5
    by_cases c6 : a0_1 ≥ 0
    ·rw [if_pos c6] at H
     have c6b0 : decide (0 ≤ a0_1) = true := decide_eq_true c6
     clear c6
     obtain rfl := Option.some.inj H
     go_enter Tryd.func15, Tryd.ntmps15
     go_wp2_with (first | ((with_reducible refine gate_dst (N := 1) rfl ?_); (try (refine gate_guard (by rfl) ?_; dsimp only)); refine box_event ?hg (N := 1) ?hd (cs := #[.string a0_0, .int .i64 a0_1]) (t := 23) ?hr ?_; (case hd => rfl); (case hg => rfl); (case hr => exact k16_); intro gb101 hg w7 hbox hb; have BK101 := Aside0.mk (hbox); have GW101 := Aside0.mk (HB.ge hg); have GE101 := Aside0.mk (HB.ge hg); replace HB := HB.mw hb; clear hb hbox hg; have hcz8_0 : w7.cell? ⟨gb101, 0, none⟩ = some (.string a0_0) := (blk_cell BK101.out 0).trans rfl; have hcz8_1 : w7.cell? ⟨gb101, 1, none⟩ = some (.int .i64 a0_1) := (blk_cell BK101.out 1).trans rfl; have hfz8_0 := blk_frozen BK101.out 0; have hfz8_1 := blk_frozen BK101.out 1) | (go_at_call 20; (with_reducible refine (strings_Trim.calls a0_0 (⟨#[111, 120, 63]⟩ : ByteArray) t102 _ A4.out).mono ?_); rintro e w9 ⟨rfl, hb⟩; replace BK101 := BK101.mw hb; replace HB := Aside0.mk (below_step k8_ hb); (try clear hb); have hcz10_0 : w9.cell? ⟨gb101, 0, none⟩ = some (.string a0_0) := (blk_cell BK101.out 0).trans rfl; have hcz10_1 : w9.cell? ⟨gb101, 1, none⟩ = some (.int .i64 a0_1) := (blk_cell BK101.out 1).trans rfl; have hfz10_0 := blk_frozen BK101.out 0; have hfz10_1 := blk_frozen BK101.out 1))
     go_ret
     exact ⟨k7_, k8_⟩
    ·rw [if_neg c6] at H
     have c6b0 : decide (0 ≤ a0_1) = false := decide_eq_false c6
     clear c6
     obtain rfl := Option.some.inj H
     go_enter Tryd.func15, Tryd.ntmps15
     go_wp2_with (first | ((with_reducible refine gate_dst (N := 1) rfl ?_); (try (refine gate_guard (by rfl) ?_; dsimp only)); refine box_event ?hg (N := 1) ?hd (cs := #[.string a0_0, .int .i64 a0_1]) (t := 23) ?hr ?_; (case hd => rfl); (case hg => rfl); (case hr => exact k16_); intro gb101 hg w11 hbox hb; have BK101 := Aside0.mk (hbox); have GW101 := Aside0.mk (HB.ge hg); have GE101 := Aside0.mk (HB.ge hg); replace HB := HB.mw hb; clear hb hbox hg; have hcz12_0 : w11.cell? ⟨gb101, 0, none⟩ = some (.string a0_0) := (blk_cell BK101.out 0).trans rfl; have hcz12_1 : w11.cell? ⟨gb101, 1, none⟩ = some (.int .i64 a0_1) := (blk_cell BK101.out 1).trans rfl; have hfz12_0 := blk_frozen BK101.out 0; have hfz12_1 := blk_frozen BK101.out 1) | (go_at_call 20; (with_reducible refine (strings_Trim.calls a0_0 (⟨#[111, 120, 63]⟩ : ByteArray) t102 _ A4.out).mono ?_); rintro e w13 ⟨rfl, hb⟩; replace BK101 := BK101.mw hb; replace HB := Aside0.mk (below_step k8_ hb); (try clear hb); have hcz14_0 : w13.cell? ⟨gb101, 0, none⟩ = some (.string a0_0) := (blk_cell BK101.out 0).trans rfl; have hcz14_1 : w13.cell? ⟨gb101, 1, none⟩ = some (.int .i64 a0_1) := (blk_cell BK101.out 1).trans rfl; have hfz14_0 := blk_frozen BK101.out 0; have hfz14_1 := blk_frozen BK101.out 1))
     go_ret
     exact ⟨k7_, k8_⟩
   ·rw [if_neg c5] at H
    have c5b0 : (t102.toList == ([] : List UInt8)) = false := beq_eq_false_iff_ne.mpr c5
    have c5b1 : (t102.toList != ([] : List UInt8)) = true := bne_iff_ne.mpr c5
    obtain rfl := Option.some.inj H
    go_enter Tryd.func15, Tryd.ntmps15
    go_wp2_with (first | ((with_reducible refine gate_dst (N := 1) rfl ?_); (try (refine gate_guard (by rfl) ?_; dsimp only)); refine box_event ?hg (N := 1) ?hd (cs := #[.string a0_0, .int .i64 a0_1]) (t := 23) ?hr ?_; (case hd => rfl); (case hg => rfl); (case hr => exact k16_); intro gb101 hg w15 hbox hb; have BK101 := Aside0.mk (hbox); have GW101 := Aside0.mk (HB.ge hg); have GE101 := Aside0.mk (HB.ge hg); replace HB := HB.mw hb; clear hb hbox hg; have hcz16_0 : w15.cell? ⟨gb101, 0, none⟩ = some (.string a0_0) := (blk_cell BK101.out 0).trans rfl; have hcz16_1 : w15.cell? ⟨gb101, 1, none⟩ = some (.int .i64 a0_1) := (blk_cell BK101.out 1).trans rfl; have hfz16_0 := blk_frozen BK101.out 0; have hfz16_1 := blk_frozen BK101.out 1) | (go_at_call 20; (with_reducible refine (strings_Trim.calls a0_0 (⟨#[111, 120, 63]⟩ : ByteArray) t102 _ A4.out).mono ?_); rintro e w17 ⟨rfl, hb⟩; replace BK101 := BK101.mw hb; replace HB := Aside0.mk (below_step k8_ hb); (try clear hb)))
    go_ret
    exact ⟨k7_, k8_⟩
  ·rw [if_neg c3] at H
   have c3b0 : decide ((a0_0.size : Int) ≤ 48) = false := decide_eq_false c3
   have c3b1 : decide (a0_0.size ≤ 48) = false := decide_eq_false (by omega)
   clear c3
   obtain rfl := Option.some.inj H
   go_enter Tryd.func15, Tryd.ntmps15
   go_wp2_with (first | ((with_reducible refine gate_dst (N := 1) rfl ?_); (try (refine gate_guard (by rfl) ?_; dsimp only)); refine box_event ?hg (N := 1) ?hd (cs := #[.string a0_0, .int .i64 a0_1]) (t := 23) ?hr ?_; (case hd => rfl); (case hg => rfl); (case hr => exact k16_); intro gb101 hg w18 hbox hb; have BK101 := Aside0.mk (hbox); have GW101 := Aside0.mk (HB.ge hg); have GE101 := Aside0.mk (HB.ge hg); replace HB := HB.mw hb; clear hb hbox hg; have hcz19_0 : w18.cell? ⟨gb101, 0, none⟩ = some (.string a0_0) := (blk_cell BK101.out 0).trans rfl; have hcz19_1 : w18.cell? ⟨gb101, 1, none⟩ = some (.int .i64 a0_1) := (blk_cell BK101.out 1).trans rfl; have hfz19_0 := blk_frozen BK101.out 0; have hfz19_1 := blk_frozen BK101.out 1))
   go_ret
   exact ⟨k7_, k8_⟩
 ·rw [if_neg c2] at H
  have c2b0 : decide (1 ≤ (a0_0.size : Int)) = false := decide_eq_false c2
  have c2b1 : decide (1 ≤ a0_0.size) = false := decide_eq_false (by omega)
  clear c2
  obtain rfl := Option.some.inj H
  go_enter Tryd.func15, Tryd.ntmps15
  go_wp2_with (first | ((with_reducible refine gate_dst (N := 1) rfl ?_); (try (refine gate_guard (by rfl) ?_; dsimp only)); refine box_event ?hg (N := 1) ?hd (cs := #[.string a0_0, .int .i64 a0_1]) (t := 23) ?hr ?_; (case hd => rfl); (case hg => rfl); (case hr => exact k16_); intro gb101 hg w20 hbox hb; have BK101 := Aside0.mk (hbox); have GW101 := Aside0.mk (HB.ge hg); have GE101 := Aside0.mk (HB.ge hg); replace HB := HB.mw hb; clear hb hbox hg; have hcz21_0 : w20.cell? ⟨gb101, 0, none⟩ = some (.string a0_0) := (blk_cell BK101.out 0).trans rfl; have hcz21_1 : w20.cell? ⟨gb101, 1, none⟩ = some (.int .i64 a0_1) := (blk_cell BK101.out 1).trans rfl; have hfz21_0 := blk_frozen BK101.out 0; have hfz21_1 := blk_frozen BK101.out 1))
  go_ret
  exact ⟨k7_, k8_⟩
end Go.Proofs.YtmflgmodknceeaaDoor.P
namespace Go.Proofs.YtmflgmodknceeaaDoor.P
open Go.RowKit Go.Proofs.YtmflgmodknceeaaDoorW.PrintWords Go.Proofs.YtmflgmodknceeaaDoorW.PrintLast Go.Proofs.YtmflgmodknceeaaDoorW.PrintMore
attribute [local go_sem] max2_int min2_int max_two min_two max_three min_three max_four min_four
set_option linter.unusedVariables false
set_option linter.unusedSimpArgs false
def lays171_ren : Go.Shelf.Ren := ⟨fun | 171 => 21 | 243 => 35 | 246 => 47 | 283 => 55 | 284 => 56 | 285 => 57 | 286 => 58 | 129 => 62 | 317 => 61 | 318 => 63 | 319 => 64 | 320 => 65 | 337 => 66 | 338 => 67 | n => n, fun | 3 => 3 | 9 => 9 | 2 => 2 | 4 => 4 | 171 => 82 | 0 => 0 | 53 => 61 | 37 => 45 | 5 => 5 | 173 => 85 | 212 => 93 | 51 => 73 | 20 => 20 | 213 => 94 | 46 => 60 | 232 => 98 | 233 => 99 | n => n, fun | 17 => 5 | 18 => 6 | 19 => 7 | n => n⟩
theorem lays171 : Go.Proofs.Lays.n171 Tryd.prog lays171_ren := {
  mixed := by kernel_rfl
  f129 := Tryd.func62.trans (congrArg some (by kernel_rfl))
  f171 := Tryd.func21.trans (congrArg some (by kernel_rfl))
  f243 := Tryd.func35.trans (congrArg some (by kernel_rfl))
  f246 := Tryd.func47.trans (congrArg some (by kernel_rfl))
  f283 := Tryd.func55.trans (congrArg some (by kernel_rfl))
  f284 := Tryd.func56.trans (congrArg some (by kernel_rfl))
  f285 := Tryd.func57.trans (congrArg some (by kernel_rfl))
  f286 := Tryd.func58.trans (congrArg some (by kernel_rfl))
  f317 := Tryd.func61.trans (congrArg some (by kernel_rfl))
  f318 := Tryd.func63.trans (congrArg some (by kernel_rfl))
  f319 := Tryd.func64.trans (congrArg some (by kernel_rfl))
  f320 := Tryd.func65.trans (congrArg some (by kernel_rfl))
  f337 := Tryd.func66.trans (congrArg some (by kernel_rfl))
  f338 := Tryd.func67.trans (congrArg some (by kernel_rfl))
  t0 := Tryd.underlying0
  a0 := Tryd.isAgg0
  z0 := Tryd.sizeOf0
  v0 := Tryd.zeroValue0
  t2 := Tryd.underlying2
  a2 := Tryd.isAgg2
  z2 := Tryd.sizeOf2
  v2 := Tryd.zeroValue2
  t3 := Tryd.underlying3
  a3 := Tryd.isAgg3
  z3 := Tryd.sizeOf3
  v3 := Tryd.zeroValue3
  t4 := Tryd.underlying4
  a4 := Tryd.isAgg4
  z4 := Tryd.sizeOf4
  v4 := Tryd.zeroValue4
  t5 := Tryd.underlying5
  a5 := Tryd.isAgg5
  z5 := Tryd.sizeOf5
  v5 := Tryd.zeroValue5
  t9 := Tryd.underlying9
  a9 := Tryd.isAgg9
  z9 := Tryd.sizeOf9
  v9 := Tryd.zeroValue9
  t20 := Tryd.underlying20
  a20 := Tryd.isAgg20
  z20 := Tryd.sizeOf20
  v20 := Tryd.zeroValue20
  t37 := Tryd.underlying45
  a37 := Tryd.isAgg45
  z37 := Tryd.sizeOf45
  v37 := Tryd.zeroValue45
  t46 := Tryd.underlying60
  a46 := Tryd.isAgg60
  z46 := Tryd.sizeOf60
  v46 := Tryd.zeroValue60
  t51 := Tryd.underlying73
  a51 := Tryd.isAgg73
  z51 := Tryd.sizeOf73
  v51 := Tryd.zeroValue73
  t53 := Tryd.underlying61
  a53 := Tryd.isAgg61
  z53 := Tryd.sizeOf61
  v53 := Tryd.zeroValue61
  t171 := Tryd.underlying82
  a171 := Tryd.isAgg82
  z171 := Tryd.sizeOf82
  v171 := Tryd.zeroValue82
  t173 := Tryd.underlying85
  a173 := Tryd.isAgg85
  z173 := Tryd.sizeOf85
  v173 := Tryd.zeroValue85
  t212 := Tryd.underlying93
  a212 := Tryd.isAgg93
  z212 := Tryd.sizeOf93
  v212 := Tryd.zeroValue93
  t213 := Tryd.underlying94
  a213 := Tryd.isAgg94
  z213 := Tryd.sizeOf94
  t232 := Tryd.underlying98
  a232 := Tryd.isAgg98
  z232 := Tryd.sizeOf98
  v232 := Tryd.zeroValue98
  t233 := Tryd.underlying99
  a233 := Tryd.isAgg99
  z233 := Tryd.sizeOf99
  v233 := Tryd.zeroValue99
  g17 := by kernel_rfl
  g18 := by kernel_rfl
  g19 := by kernel_rfl }
def strconv_Itoa.f (a0 : Int) : Option ByteArray := if 0 ≤ a0 ∧ a0 < 100 then some ⟨(Lib.decDigits a0.toNat).toArray⟩ else none
theorem strconv_Itoa.calls (a0 : Int) (r : ByteArray) (w : World) (h : strconv_Itoa.f a0 = some r) :
    Calls Tryd.prog 21 #[.int .i64 a0] w fun e w' => e = .returned (.string r) ∧ Below w.heap.size w w' := by
  unfold strconv_Itoa.f at h
  by_cases hc : 0 ≤ a0 ∧ a0 < 100
  · rw [if_pos hc] at h
    obtain rfl := Option.some.inj h
    obtain ⟨n, rfl⟩ : ∃ n : Nat, a0 = (n : Int) := ⟨a0.toNat, by omega⟩
    rw [Int.toNat_natCast]
    exact (Any.strconv_Itoa_small lays171 n (by omega) w).mono fun e w' ⟨he, hw⟩ => ⟨he, hw ▸ Below.refl _ _⟩
  · rw [if_neg hc] at h
    exact absurd h (by simp)
end Go.Proofs.YtmflgmodknceeaaDoor.P
namespace Go.Proofs.YtmflgmodknceeaaDoor.P
open Go.RowKit Go.Proofs.YtmflgmodknceeaaDoorW.PrintWords Go.Proofs.YtmflgmodknceeaaDoorW.PrintLast Go.Proofs.YtmflgmodknceeaaDoorW.PrintMore
attribute [local go_sem] max2_int min2_int max_two min_two max_three min_three max_four min_four
set_option linter.unusedVariables false
set_option linter.unusedSimpArgs false
def impl_puzzleText.f (a0_0 : ByteArray) (a0_1 : Int) : Option (ByteArray) := if a0_0.size + 1 ≤ 9223372036854775807 then ((strconv_Itoa.f a0_1).bind fun t102 => (if (a0_0 ++ (⟨#[58]⟩ : ByteArray)).size + t102.size ≤ 9223372036854775807 then (some ((a0_0 ++ (⟨#[58]⟩ : ByteArray)) ++ t102)) else (none))) else (none)
def impl_puzzleText.T1 : Bool × List (List Nat × List Nat) := (true, [([], []), ([0], [0]), ([1], [1]), ([], []), ([3], [3]), ([4], [4]), ([2, 5], [2, 5]), ([6, 5, 0, 1, 2, 3, 4, 5, 6], [6])])
def impl_puzzleText.B1 : List Nat := [0, 1, 3, 0, 8, 24, 63, 127]
theorem impl_puzzleText.tab1 : rtab .any (opsOf Tryd.f16 1) = impl_puzzleText.T1 := by kernel_rfl
theorem impl_puzzleText.bits1 : waitsOk impl_puzzleText.T1.2 impl_puzzleText.B1 = true := by kernel_rfl
set_option maxHeartbeats 8000000 in
set_option maxRecDepth 100000 in
theorem impl_puzzleText.calls (a0_0 : ByteArray) (a0_1 : Int) (r : ByteArray) (w : World) (h : impl_puzzleText.f a0_0 a0_1 = some r) :
  Calls Tryd.prog 16 #[.agg #[.string a0_0, .int .i64 a0_1]] w fun e w' => e = .returned (.string r) ∧ Below w.heap.size w w' := by
 have hu23 := Tryd.underlying23
 have HB := Aside0.mk (Below.refl w.heap.size w)
 have H : (if a0_0.size + 1 ≤ 9223372036854775807 then ((strconv_Itoa.f a0_1).bind fun t102 => (if (a0_0 ++ (⟨#[58]⟩ : ByteArray)).size + t102.size ≤ 9223372036854775807 then (some ((a0_0 ++ (⟨#[58]⟩ : ByteArray)) ++ t102)) else (none))) else (none)) = some r := h
 clear h
 by_cases c2 : a0_0.size + 1 ≤ 9223372036854775807
 ·rw [if_pos c2] at H
  have c2b0 := eq_true c2
  have c2b1 : decide (a0_0.size + 1 ≤ 9223372036854775807) = true := decide_eq_true c2
  try have c2b2 : (9223372036854775807 < a0_0.size + 1) = False := eq_false (Nat.not_lt.2 c2)
  obtain ⟨t102, A3, H⟩ := obnd_ H
  (try dsimp only at H)
  by_cases c4 : (a0_0 ++ (⟨#[58]⟩ : ByteArray)).size + t102.size ≤ 9223372036854775807
  ·rw [if_pos c4] at H
   have c4b0 := eq_true c4
   have c4b1 : decide ((a0_0 ++ (⟨#[58]⟩ : ByteArray)).size + t102.size ≤ 9223372036854775807) = true := decide_eq_true c4
   try have c4b2 : (9223372036854775807 < (a0_0 ++ (⟨#[58]⟩ : ByteArray)).size + t102.size) = False := eq_false (Nat.not_lt.2 c4)
   have c4b3 : (9223372036854775807 < a0_0.size + 1 + t102.size) = False := by have e_ : (a0_0 ++ (⟨#[58]⟩ : ByteArray)).size = a0_0.size + 1 := (ByteArray.size_append).trans rfl; rw [← e_]; exact c4b2
   obtain rfl := Option.some.inj H
   go_enter Tryd.func16, Tryd.ntmps16
   try go_wp2_with (first | ((with_reducible refine gate_dst (N := 1) rfl ?_); refine box_event ?hg (N := 1) ?hd (cs := #[.string a0_0, .int .i64 a0_1]) (t := 23) ?hr ?_; (case hd => rfl); (case hg => rfl); (case hr => exact k16_); intro gb101 hg w5 hbox hb; have BK101 := Aside0.mk (hbox); have GW101 := Aside0.mk (HB.ge hg); have GE101 := Aside0.mk (HB.ge hg); replace HB := HB.mw hb; clear hb hbox hg))
   replace BK101 := Aside0.mk (blk_drew BK101.out)
   replace HB := Aside0.mk (below_drew1 HB.out)
   refine start_ (n := 8) (S := fun w' => w'.cell? ⟨gb101, 0, none⟩ = some (.string a0_0) ∧ w'.cell? ⟨gb101, 1, none⟩ = some (.int .i64 a0_1)) (ds := []) (rA_ [0, 8]) (by kernel_rfl) rfl rfl ⟨(blk_cell BK101.out 0).trans rfl, (blk_cell BK101.out 1).trans rfl⟩ (fun hHeld => ?_); refine with_tabW impl_puzzleText.tab1 impl_puzzleText.bits1 (fun HT_ HW_ => ?_)
   generalize w5.drew = w6 at BK101 HB hHeld ⊢
   refine pu_ 0 3 [1, 7] ?_
   refine pu_ 3 6 [1, 2, 1, 4] ?_
   refine ta2_ 1 4 [2, 1, 1, 4] ?_
   refine pu_ 2 5 [4, 4] ?_
   refine ta2_ 4 7 [5, 3] ?_
   refine one_ (i := 5) (N := some 8) (rA_ [6, 2]) rfl rfl (one_of HT_.out (by kernel_rfl)) (by decide) (fun K hK => ?_)
   refine goes_ Tryd.func21 (by kernel_rfl) rfl #[.int .i64 a0_1] (by rfl) rfl rfl k5_ ?_
   with_reducible refine (strconv_Itoa.calls a0_1 t102 _ A3.out).mono ?_
   rintro e w7 ⟨rfl, hb⟩
   refine ⟨_, rfl, ?_⟩
   replace BK101 := BK101.mw hb
   replace HB := Aside0.mk (below_step k8_ hb)
   (try clear hb)
   (try clear hb2)
   (try clear hk)
   (try clear hi)
   refine hK.out _ _ ⟨(blk_cell BK101.out 0).trans rfl, (blk_cell BK101.out 1).trans rfl⟩ (fun hHeld => ?_)
   clear hK K
   refine nm_ 8 ?_
   refine pu_ 6 9 [7, 1] ?_
   refine pu_ 7 2 [8] ?_
   refine done_ (done_of HT_.out (by kernel_rfl)) ?_
   try go_wp2
   go_ret
   exact ⟨k7_, k8_⟩
  ·rw [if_neg c4] at H
   exact absurd H (by simp)
 ·rw [if_neg c2] at H
  exact absurd H (by simp)
end Go.Proofs.YtmflgmodknceeaaDoor.P
namespace Go.Proofs.YtmflgmodknceeaaDoor.P
open Go.RowKit Go.Proofs.YtmflgmodknceeaaDoorW.PrintWords Go.Proofs.YtmflgmodknceeaaDoorW.PrintLast Go.Proofs.YtmflgmodknceeaaDoorW.PrintMore
attribute [local go_sem] max2_int min2_int max_two min_two max_three min_three max_four min_four
set_option linter.unusedVariables false
set_option linter.unusedSimpArgs false
def lays145_ren : Go.Shelf.Ren := ⟨fun | 145 => 13 | 220 => 17 | 219 => 22 | 217 => 36 | 225 => 37 | 224 => 38 | 267 => 39 | 266 => 48 | 314 => 49 | n => n, fun | 9 => 9 | 4 => 4 | 59 => 33 | 3 => 3 | 5 => 5 | 46 => 60 | 146 => 74 | 51 => 73 | n => n, fun | 1 => 0 | n => n⟩
theorem lays145 : Go.Proofs.Lays.n145 Tryd.prog lays145_ren := {
  mixed := by kernel_rfl
  f145 := Tryd.func13.trans (congrArg some (by kernel_rfl))
  f217 := Tryd.func36.trans (congrArg some (by kernel_rfl))
  f219 := Tryd.func22.trans (congrArg some (by kernel_rfl))
  f220 := Tryd.func17.trans (congrArg some (by kernel_rfl))
  f224 := Tryd.func38.trans (congrArg some (by kernel_rfl))
  f225 := Tryd.func37.trans (congrArg some (by kernel_rfl))
  f266 := Tryd.func48.trans (congrArg some (by kernel_rfl))
  f267 := Tryd.func39.trans (congrArg some (by kernel_rfl))
  f314 := Tryd.func49.trans (congrArg some (by kernel_rfl))
  t3 := Tryd.underlying3
  a3 := Tryd.isAgg3
  z3 := Tryd.sizeOf3
  v3 := Tryd.zeroValue3
  t4 := Tryd.underlying4
  a4 := Tryd.isAgg4
  z4 := Tryd.sizeOf4
  v4 := Tryd.zeroValue4
  t5 := Tryd.underlying5
  a5 := Tryd.isAgg5
  z5 := Tryd.sizeOf5
  v5 := Tryd.zeroValue5
  t9 := Tryd.underlying9
  a9 := Tryd.isAgg9
  z9 := Tryd.sizeOf9
  v9 := Tryd.zeroValue9
  t46 := Tryd.underlying60
  a46 := Tryd.isAgg60
  z46 := Tryd.sizeOf60
  v46 := Tryd.zeroValue60
  t51 := Tryd.underlying73
  a51 := Tryd.isAgg73
  z51 := Tryd.sizeOf73
  v51 := Tryd.zeroValue73
  t59 := Tryd.underlying33
  a59 := Tryd.isAgg33
  z59 := Tryd.sizeOf33
  v59 := Tryd.zeroValue33
  t146 := Tryd.underlying74
  a146 := Tryd.isAgg74
  z146 := Tryd.sizeOf74
  v146 := Tryd.zeroValue74
  g1 := by kernel_rfl }
def lays172_ren : Go.Shelf.Ren := ⟨fun | 172 => 14 | 244 => 18 | 245 => 19 | 247 => 23 | 279 => 24 | 280 => 25 | 281 => 26 | 282 => 27 | 287 => 40 | 316 => 41 | 171 => 21 | 205 => 42 | 321 => 50 | 322 => 51 | 243 => 35 | 246 => 47 | 283 => 55 | 284 => 56 | 285 => 57 | 286 => 58 | 129 => 62 | 317 => 61 | 318 => 63 | 319 => 64 | 320 => 65 | 337 => 66 | 338 => 67 | n => n, fun | 9 => 9 | 3 => 3 | 75 => 36 | 76 => 37 | 4 => 4 | 5 => 5 | 167 => 44 | 37 => 45 | 0 => 0 | 85 => 46 | 2 => 2 | 168 => 48 | 53 => 61 | 175 => 62 | 46 => 60 | 210 => 66 | 127 => 77 | 145 => 80 | 143 => 78 | 21 => 21 | 171 => 82 | 173 => 85 | 212 => 93 | 51 => 73 | 20 => 20 | 213 => 94 | 232 => 98 | 233 => 99 | 80 => 100 | n => n, fun | 15 => 1 | 16 => 2 | 17 => 5 | 18 => 6 | 19 => 7 | n => n⟩
theorem lays172 : Go.Proofs.LaysC.n172 Tryd.prog lays172_ren := {
  mixed := by kernel_rfl
  f129 := Tryd.func62.trans (congrArg some (by kernel_rfl))
  f171 := Tryd.func21.trans (congrArg some (by kernel_rfl))
  f172 := Tryd.func14.trans (congrArg some (by kernel_rfl))
  f205 := Tryd.func42.trans (congrArg some (by kernel_rfl))
  f243 := Tryd.func35.trans (congrArg some (by kernel_rfl))
  f244 := Tryd.func18.trans (congrArg some (by kernel_rfl))
  f245 := Tryd.func19.trans (congrArg some (by kernel_rfl))
  f246 := Tryd.func47.trans (congrArg some (by kernel_rfl))
  f247 := Tryd.func23.trans (congrArg some (by kernel_rfl))
  f279 := Tryd.func24.trans (congrArg some (by kernel_rfl))
  f280 := Tryd.func25.trans (congrArg some (by kernel_rfl))
  f281 := Tryd.func26.trans (congrArg some (by kernel_rfl))
  f282 := Tryd.func27.trans (congrArg some (by kernel_rfl))
  f283 := Tryd.func55.trans (congrArg some (by kernel_rfl))
  f284 := Tryd.func56.trans (congrArg some (by kernel_rfl))
  f285 := Tryd.func57.trans (congrArg some (by kernel_rfl))
  f286 := Tryd.func58.trans (congrArg some (by kernel_rfl))
  f287 := Tryd.func40.trans (congrArg some (by kernel_rfl))
  f316 := Tryd.func41.trans (congrArg some (by kernel_rfl))
  f317 := Tryd.func61.trans (congrArg some (by kernel_rfl))
  f318 := Tryd.func63.trans (congrArg some (by kernel_rfl))
  f319 := Tryd.func64.trans (congrArg some (by kernel_rfl))
  f320 := Tryd.func65.trans (congrArg some (by kernel_rfl))
  f321 := Tryd.func50.trans (congrArg some (by kernel_rfl))
  f322 := Tryd.func51.trans (congrArg some (by kernel_rfl))
  f337 := Tryd.func66.trans (congrArg some (by kernel_rfl))
  f338 := Tryd.func67.trans (congrArg some (by kernel_rfl))
  t0 := Tryd.underlying0
  a0 := Tryd.isAgg0
  z0 := Tryd.sizeOf0
  v0 := Tryd.zeroValue0
  t2 := Tryd.underlying2
  a2 := Tryd.isAgg2
  z2 := Tryd.sizeOf2
  v2 := Tryd.zeroValue2
  t3 := Tryd.underlying3
  a3 := Tryd.isAgg3
  z3 := Tryd.sizeOf3
  v3 := Tryd.zeroValue3
  t4 := Tryd.underlying4
  a4 := Tryd.isAgg4
  z4 := Tryd.sizeOf4
  v4 := Tryd.zeroValue4
  t5 := Tryd.underlying5
  a5 := Tryd.isAgg5
  z5 := Tryd.sizeOf5
  v5 := Tryd.zeroValue5
  t9 := Tryd.underlying9
  a9 := Tryd.isAgg9
  z9 := Tryd.sizeOf9
  v9 := Tryd.zeroValue9
  t20 := Tryd.underlying20
  a20 := Tryd.isAgg20
  z20 := Tryd.sizeOf20
  v20 := Tryd.zeroValue20
  t21 := Tryd.underlying21
  a21 := Tryd.isAgg21
  z21 := Tryd.sizeOf21
  v21 := Tryd.zeroValue21
  t37 := Tryd.underlying45
  a37 := Tryd.isAgg45
  z37 := Tryd.sizeOf45
  v37 := Tryd.zeroValue45
  t46 := Tryd.underlying60
  a46 := Tryd.isAgg60
  z46 := Tryd.sizeOf60
  v46 := Tryd.zeroValue60
  t51 := Tryd.underlying73
  a51 := Tryd.isAgg73
  z51 := Tryd.sizeOf73
  v51 := Tryd.zeroValue73
  t53 := Tryd.underlying61
  a53 := Tryd.isAgg61
  z53 := Tryd.sizeOf61
  v53 := Tryd.zeroValue61
  t75 := Tryd.underlying36
  a75 := Tryd.isAgg36
  z75 := Tryd.sizeOf36
  v75 := Tryd.zeroValue36
  t76 := Tryd.underlying37
  a76 := Tryd.isAgg37
  z76 := Tryd.sizeOf37
  v76 := Tryd.zeroValue37
  t85 := Tryd.underlying46
  a85 := Tryd.isAgg46
  z85 := Tryd.sizeOf46
  v85 := Tryd.zeroValue46
  t127 := Tryd.underlying77
  a127 := Tryd.isAgg77
  z127 := Tryd.sizeOf77
  v127 := Tryd.zeroValue77
  t143 := Tryd.underlying78
  a143 := Tryd.isAgg78
  z143 := Tryd.sizeOf78
  v143 := Tryd.zeroValue78
  t145 := Tryd.underlying80
  a145 := Tryd.isAgg80
  z145 := Tryd.sizeOf80
  v145 := Tryd.zeroValue80
  t167 := Tryd.underlying44
  a167 := Tryd.isAgg44
  z167 := Tryd.sizeOf44
  v167 := Tryd.zeroValue44
  t168 := Tryd.underlying48
  a168 := Tryd.isAgg48
  z168 := Tryd.sizeOf48
  v168 := Tryd.zeroValue48
  t171 := Tryd.underlying82
  a171 := Tryd.isAgg82
  z171 := Tryd.sizeOf82
  v171 := Tryd.zeroValue82
  t173 := Tryd.underlying85
  a173 := Tryd.isAgg85
  z173 := Tryd.sizeOf85
  v173 := Tryd.zeroValue85
  t175 := Tryd.underlying62
  a175 := Tryd.isAgg62
  z175 := Tryd.sizeOf62
  v175 := Tryd.zeroValue62
  t210 := Tryd.underlying66
  a210 := Tryd.isAgg66
  z210 := Tryd.sizeOf66
  v210 := Tryd.zeroValue66
  t212 := Tryd.underlying93
  a212 := Tryd.isAgg93
  z212 := Tryd.sizeOf93
  v212 := Tryd.zeroValue93
  t213 := Tryd.underlying94
  a213 := Tryd.isAgg94
  z213 := Tryd.sizeOf94
  t232 := Tryd.underlying98
  a232 := Tryd.isAgg98
  z232 := Tryd.sizeOf98
  v232 := Tryd.zeroValue98
  t233 := Tryd.underlying99
  a233 := Tryd.isAgg99
  z233 := Tryd.sizeOf99
  v233 := Tryd.zeroValue99
  g15 := by kernel_rfl
  g16 := by kernel_rfl
  g17 := by kernel_rfl
  g18 := by kernel_rfl
  g19 := by kernel_rfl
  t80 := Tryd.underlying100
  a80 := Tryd.isAgg100
  z80 := Tryd.sizeOf100
  v80 := Tryd.zeroValue100
  i0 := by kernel_rfl
  i2 := by kernel_rfl
  i3 := by kernel_rfl
  i4 := by kernel_rfl
  i5 := by kernel_rfl
  i9 := by kernel_rfl
  i20 := by kernel_rfl
  i21 := by kernel_rfl
  i37 := by kernel_rfl
  i46 := by kernel_rfl
  i51 := by kernel_rfl
  i53 := by kernel_rfl
  i75 := by kernel_rfl
  i76 := by kernel_rfl
  i80 := by kernel_rfl
  i85 := by kernel_rfl
  i127 := by kernel_rfl
  i143 := by kernel_rfl
  i145 := by kernel_rfl
  i167 := by kernel_rfl
  i168 := by kernel_rfl
  i171 := by kernel_rfl
  i173 := by kernel_rfl
  i175 := by kernel_rfl
  i210 := by kernel_rfl
  i212 := by kernel_rfl
  i232 := by kernel_rfl
  i233 := by kernel_rfl
  m15 := by kernel_rfl
  m16 := by kernel_rfl
  m17 := by kernel_rfl
  m18 := by kernel_rfl
  m19 := by kernel_rfl
  c0 := by kernel_rfl
  c2 := by kernel_rfl
  c3 := by kernel_rfl
  c4 := by kernel_rfl
  c5 := by kernel_rfl
  c9 := by kernel_rfl
  c20 := by kernel_rfl
  c21 := by kernel_rfl
  c37 := by kernel_rfl
  c46 := by kernel_rfl
  c51 := by kernel_rfl
  c53 := by kernel_rfl
  c75 := by kernel_rfl
  c76 := by kernel_rfl
  c80 := by kernel_rfl
  c85 := by kernel_rfl
  c127 := by kernel_rfl
  c143 := by kernel_rfl
  c145 := by kernel_rfl
  c167 := by kernel_rfl
  c168 := by kernel_rfl
  c171 := by kernel_rfl
  c173 := by kernel_rfl
  c175 := by kernel_rfl
  c210 := by kernel_rfl
  c212 := by kernel_rfl
  c213 := by kernel_rfl
  c232 := by kernel_rfl
  c233 := by kernel_rfl }
def GlobOk (w : World) : Prop := (∃ m : Int, w.cell? ⟨lays145_ren.g 1, 0, none⟩ = some (.int .i64 m)) ∧ (∃ ev : Value, w.cell? ⟨lays172_ren.g 15, 0, none⟩ = some ev ∧ (ev = .nilIface ∨ ∃ te pe, ev = .iface te pe)) ∧ (∃ ev : Value, w.cell? ⟨lays172_ren.g 16, 0, none⟩ = some ev ∧ (ev = .nilIface ∨ ∃ te pe, ev = .iface te pe))
theorem GlobOk.below {w w' : World} (h : GlobOk w) (hb : Below w.heap.size w w') : GlobOk w' := by
  obtain ⟨⟨m, h1⟩, ⟨e1, h2, h3⟩, ⟨e2, h4, h5⟩⟩ := h
  exact ⟨⟨m, (hb.cell (World.block_lt_of_cell? w _ h1)).trans h1⟩, ⟨e1, (hb.cell (World.block_lt_of_cell? w _ h2)).trans h2, h3⟩, ⟨e2, (hb.cell (World.block_lt_of_cell? w _ h4)).trans h4, h5⟩⟩
def impl_parsePuzzle.f (a0 : ByteArray) : Option (ByteArray × Int × Bool) := if a0.size ≤ 1048576 then (match Lib.atoiAll (Lib.cut a0.data.toList [58]).2.1 with
  | .ok v => (impl_isPuzzle.f ⟨(Lib.cut a0.data.toList [58]).1.toArray⟩ v).bind fun t => if t = true then ((impl_puzzleText.f ⟨(Lib.cut a0.data.toList [58]).1.toArray⟩ v).bind fun txt => if txt.toList = a0.toList then some (⟨(Lib.cut a0.data.toList [58]).1.toArray⟩, v, true) else some ((⟨#[]⟩ : ByteArray), 0, false)) else some ((⟨#[]⟩ : ByteArray), 0, false)
  | _ => some ((⟨#[]⟩ : ByteArray), 0, false)) else none
theorem cut_len (s : List UInt8) (sep : List UInt8) : (Lib.cut s sep).2.1.length ≤ s.length := by
  unfold Lib.cut
  split
  · simp only [List.length_drop]; omega
  · simp
theorem atoi_calls (s : ByteArray) (w : World) (hs : s.size ≤ 281474976710656) (hG : GlobOk w) :
    Calls Tryd.prog 14 #[.string s] w fun e w' => ∃ (n : Int) (ev : Value), e = .returned (.tuple #[.int .i64 n, ev]) ∧ ((Lib.atoiAll s.data.toList = .ok n ∧ ev = .nilIface) ∨ ((∀ v, Lib.atoiAll s.data.toList ≠ .ok v) ∧ ∃ te pe, ev = .iface te pe)) ∧ Below w.heap.size w w' := by
  obtain ⟨-, ⟨e1, h2, h3⟩, ⟨e2, h4, h5⟩⟩ := hG
  cases h : Lib.atoiAll s.data.toList with
  | ok v =>
    refine (Any.strconv_Atoi_ok lays172 s (by omega) v h w).mono ?_
    rintro e w' ⟨rfl, hw⟩
    refine ⟨v, .nilIface, rfl, .inl ⟨rfl, rfl⟩, ?_⟩
    rcases hw with rfl | ⟨t, rfl⟩
    · exact Below.refl _ _
    · exact Lib.bytesWorld_below _ _ _
  | range =>
    refine (Any.strconv_Atoi_range lays172 s hs h e2 w h4 h5).mono ?_
    rintro e w' ⟨N, rfl, -, -, hb⟩
    exact ⟨_, _, rfl, .inr ⟨fun v hv => (by cases hv), _, _, rfl⟩, hb⟩
  | _ =>
    refine (Any.strconv_Atoi_syntax lays172 s hs h e1 w h2 h3).mono ?_
    rintro e w' ⟨N, rfl, -, -, hb⟩
    exact ⟨_, _, rfl, .inr ⟨fun v hv => (by cases hv), _, _, rfl⟩, hb⟩
set_option maxHeartbeats 8000000 in
set_option maxRecDepth 100000 in
theorem cut_any (s : ByteArray) (w : World) (hs : s.size < 4294967281) (hG : GlobOk w) :
    Calls Tryd.prog 13 #[.string s, .string ⟨#[58]⟩] w fun e w' => e = .returned (.tuple #[.string ⟨(Lib.cut s.data.toList [58]).1.toArray⟩, .string ⟨(Lib.cut s.data.toList [58]).2.1.toArray⟩, .bool (Lib.cut s.data.toList [58]).2.2]) ∧ Below w.heap.size w w' := by
  obtain ⟨⟨m, hm⟩, -⟩ := hG
  refine (Any.strings_Cut lays145 s ⟨#[58]⟩ m w hs hm).mono ?_
  rintro e w' ⟨rfl, n, rfl⟩
  exact ⟨rfl, pw_below_drewN (Below.refl _ _) _⟩
set_option maxHeartbeats 8000000 in
set_option maxRecDepth 100000 in
theorem impl_parsePuzzle.calls (a0 : ByteArray) (r1 : ByteArray) (r2 : Int) (r3 : Bool) (w : World) (h : impl_parsePuzzle.f a0 = some (r1, r2, r3)) (hG : GlobOk w) :
    Calls Tryd.prog 10 #[.string a0] w fun e w' => e = .returned (.tuple #[.agg #[.string r1, .int .i64 r2], .bool r3]) ∧ Below w.heap.size w w' := by
  have hu := Tryd.underlying23
  have HG := Aside0.mk hG
  clear hG
  unfold impl_parsePuzzle.f at h
  by_cases hs : a0.size ≤ 1048576
  · rw [if_pos hs] at h
    have HS := Aside0.mk hs
    have hnl := cut_len a0.data.toList [58]
    obtain ⟨bf, hbf⟩ : ∃ x : ByteArray, x = ⟨(Lib.cut a0.data.toList [58]).1.toArray⟩ := ⟨_, rfl⟩
    obtain ⟨nb, hnb⟩ : ∃ x : ByteArray, x = ⟨(Lib.cut a0.data.toList [58]).2.1.toArray⟩ := ⟨_, rfl⟩
    have hnd : nb.data.toList = (Lib.cut a0.data.toList [58]).2.1 := by rw [hnb]
    rw [← hnd, ← hbf] at h
    have HNL := Aside0.mk (show nb.size ≤ a0.size by rw [← hnd] at hnl; simpa using hnl)
    have HBF := Aside0.mk hbf
    have HNB := Aside0.mk hnb
    clear hbf hnb hnl hnd hs
    by_cases hv : ∃ v, Lib.atoiAll nb.data.toList = .ok v
    · obtain ⟨v, hv⟩ := hv
      rw [hv] at h
      replace h : ((impl_isPuzzle.f bf v).bind fun t => if t = true then ((impl_puzzleText.f bf v).bind fun txt => if txt.toList = a0.toList then some (bf, v, true) else some ((⟨#[]⟩ : ByteArray), 0, false)) else some ((⟨#[]⟩ : ByteArray), 0, false)) = some (r1, r2, r3) := h
      have HV := Aside0.mk hv
      clear hv
      replace h := Option.bind_eq_some_iff.mp h
      obtain ⟨t, A0_, h⟩ := h
      have A1 := Aside0.mk A0_
      clear A0_
      cases t with
      | false =>
        rw [if_neg (by decide)] at h
        simp only [Option.some.injEq, Prod.mk.injEq] at h
        obtain ⟨rfl, rfl, rfl⟩ := h
        go_enter Tryd.func10, Tryd.ntmps10
        go_wp2_with (first | ((with_reducible refine gate_dst (N := 2) rfl ?_); (try (refine gate_guard (by rfl) ?_; dsimp only)); refine box_event ?hg (N := 2) ?hd (cs := #[.string (⟨#[]⟩ : ByteArray), .int .i64 0]) (t := 23) ?hr ?_; (case hd => rfl); (case hg => rfl); (case hr => exact k16_); intro gQ hg w1 hbox hb; have BQ1 := Aside0.mk hbox; have HB1 := Aside0.mk hb; have GQ := Aside0.mk (show w.heap.size ≤ gQ by rw [hg]; exact Nat.le_refl _); have HG1 := Aside0.mk (GlobOk.below HG.out hb); clear hbox hb hg) | ((with_reducible refine gate_callee (f := 13) rfl ?_); (try (refine gate_guard (by rfl) ?_; dsimp only)); refine goesL_ (some 12) rfl rfl Tryd.func13 (by kernel_rfl) rfl #[.string a0, .string ⟨#[58]⟩] rfl k10_ ?_; (refine (cut_any a0 _ (by have := HS.out; omega) HG1.out).mono ?_); rintro e w2 ⟨rfl, hb⟩; refine ⟨_, rfl, ?_⟩; have BQ2 := Aside0.mk (blk_below BQ1.out hb); have HB2 := Aside0.mk (below_step HB1.out hb); have HG2 := Aside0.mk (GlobOk.below HG1.out hb); clear hb BQ1 HB1 HG1; rw [← HBF.out, ← HNB.out]) | ((with_reducible refine gate_callee (f := 14) rfl ?_); (try (refine gate_guard (by rfl) ?_; dsimp only)); refine goesL_ (some 18) rfl rfl Tryd.func14 (by kernel_rfl) rfl #[.string nb] rfl k10_ ?_; (refine (atoi_calls nb _ (by have := HS.out; have := HNL.out; omega) HG2.out).mono ?_); rintro e w4 ⟨n, ev, rfl, hc_, hb⟩; refine ⟨_, rfl, ?_⟩; have BQ4 := Aside0.mk (blk_below BQ2.out hb); have HB4 := Aside0.mk (below_step HB2.out hb); obtain ⟨rfl, rfl⟩ : n = v ∧ ev = .nilIface := (by rcases hc_ with ⟨h1_, h2_⟩ | ⟨h1_, -⟩; exact ⟨by rw [HV.out] at h1_; injection h1_ with h1_; exact h1_.symm, h2_⟩; exact absurd HV.out (h1_ v)); clear hc_; clear hb BQ2 HB2 HG2) | ((with_reducible refine gate_dst (N := 9) rfl ?_); (try (refine gate_guard (by rfl) ?_; dsimp only)); refine box_event ?hg (N := 9) ?hd (cs := #[.string (⟨#[]⟩ : ByteArray), .int .i64 0]) (t := 23) ?hr ?_; (case hd => rfl); (case hg => rfl); (case hr => exact k16_); intro g9 hg w9 hbox hb; have B9_ := Aside0.mk (show ((w9.setCell ⟨g9, 0, none⟩ (.string bf)).setCell ⟨g9, 1, none⟩ (.int .i64 n)).heap[g9]? = _ from blk_put (cs' := #[.string bf, .int .i64 n]) (blk_put (cs' := #[.string bf, .int .i64 0]) hbox 0 (.string bf) rfl) 1 (.int .i64 n) rfl); have HB9 := Aside0.mk (show Below w4.heap.size w4 ((w9.setCell ⟨g9, 0, none⟩ (.string bf)).setCell ⟨g9, 1, none⟩ (.int .i64 n)) from below_set (below_set hb (Nat.le_of_eq hg.symm)) (Nat.le_of_eq hg.symm)); have BQ9 := Aside0.mk (blk_below BQ4.out HB9.out); have hz0 : w9.cell? ⟨g9, 0, none⟩ = some (.string (⟨#[]⟩ : ByteArray)) := (blk_cell hbox 0).trans rfl; have hz1 : w9.cell? ⟨g9, 1, none⟩ = some (.int .i64 0) := (blk_cell hbox 1).trans rfl; have hf0 := blk_frozen hbox 0; have hf1 := blk_frozen hbox 1; have hne : gQ ≠ g9 := (by rw [hg]; exact Nat.ne_of_lt (blk_lt BQ4.out)); have hne' : ¬ g9 = gQ := fun e_ => hne e_.symm; have hqz0 : w9.cell? ⟨gQ, 0, none⟩ = some (.string (⟨#[]⟩ : ByteArray)) := (blk_cell (blk_below BQ4.out hb) 0).trans rfl; have hqz1 : w9.cell? ⟨gQ, 1, none⟩ = some (.int .i64 0) := (blk_cell (blk_below BQ4.out hb) 1).trans rfl; have hqf0 := blk_frozen (blk_below BQ4.out hb) 0; have hqf1 := blk_frozen (blk_below BQ4.out hb) 1; clear hbox hb hg) | ((with_reducible refine gate_callee (f := 15) rfl ?_); (try (refine gate_guard (by rfl) ?_; dsimp only)); refine goesL_ (some 28) rfl rfl Tryd.func15 (by kernel_rfl) rfl #[.agg #[.string bf, .int .i64 n]] rfl k10_ ?_; (refine (impl_isPuzzle.calls bf n false _ A1.out).mono ?_); rintro e w10 ⟨rfl, hb⟩; refine ⟨_, rfl, ?_⟩; have B10 := Aside0.mk (blk_below B9_.out hb); have BQ10 := Aside0.mk (blk_below BQ9.out hb); have HB10 := Aside0.mk (below_step (below_step HB4.out HB9.out) hb); clear hz0 hz1 hf0 hf1 hqz0 hqz1 hqf0 hqf1 B9_ BQ9 HB9 hb; have hz0 : w10.cell? ⟨g9, 0, none⟩ = some (.string bf) := (blk_cell B10.out 0).trans rfl; have hz1 : w10.cell? ⟨g9, 1, none⟩ = some (.int .i64 n) := (blk_cell B10.out 1).trans rfl; have hqz0 : w10.cell? ⟨gQ, 0, none⟩ = some (.string (⟨#[]⟩ : ByteArray)) := (blk_cell BQ10.out 0).trans rfl; have hqz1 : w10.cell? ⟨gQ, 1, none⟩ = some (.int .i64 0) := (blk_cell BQ10.out 1).trans rfl; have hqf0 := blk_frozen BQ10.out 0; have hqf1 := blk_frozen BQ10.out 1))
        refine bodyPost_ret (results_list (rs := [.cell 2 23, .tmp 3]) rfl (by simp) (.cell gQ 23 #[.string (⟨#[]⟩ : ByteArray), .int .i64 0] (0, 0) _ rfl (blk_put (cs' := #[.string (⟨#[]⟩ : ByteArray), .int .i64 0]) (blk_put (cs' := #[.string (⟨#[]⟩ : ByteArray), .int .i64 0]) BQ10.out 0 _ rfl) 1 _ rfl) Tryd.underlying23 rfl (by kernel_rfl) (.tmp .nil))) rfl ?_
        exact ⟨rfl, below_set (below_set HB10.out (by have h_ := GQ.out; omega)) (by have h_ := GQ.out; omega)⟩
      | true =>
        rw [if_pos rfl] at h
        replace h := Option.bind_eq_some_iff.mp h
        obtain ⟨txt, A0_, h⟩ := h
        have A2 := Aside0.mk A0_
        clear A0_
        by_cases hx : txt.toList = a0.toList
        · rw [if_pos hx] at h
          simp only [Option.some.injEq, Prod.mk.injEq] at h
          obtain ⟨rfl, rfl, rfl⟩ := h
          have hxb : (txt.toList != a0.toList) = false := bne_eq_false_iff_eq.2 hx
          have hxc : (txt.toList == a0.toList) = true := beq_iff_eq.2 hx
          clear hx
          go_enter Tryd.func10, Tryd.ntmps10
          go_wp2_with (first | ((with_reducible refine gate_dst (N := 2) rfl ?_); (try (refine gate_guard (by rfl) ?_; dsimp only)); refine box_event ?hg (N := 2) ?hd (cs := #[.string (⟨#[]⟩ : ByteArray), .int .i64 0]) (t := 23) ?hr ?_; (case hd => rfl); (case hg => rfl); (case hr => exact k16_); intro gQ hg w1 hbox hb; have BQ1 := Aside0.mk hbox; have HB1 := Aside0.mk hb; have GQ := Aside0.mk (show w.heap.size ≤ gQ by rw [hg]; exact Nat.le_refl _); have HG1 := Aside0.mk (GlobOk.below HG.out hb); clear hbox hb hg) | ((with_reducible refine gate_callee (f := 13) rfl ?_); (try (refine gate_guard (by rfl) ?_; dsimp only)); refine goesL_ (some 12) rfl rfl Tryd.func13 (by kernel_rfl) rfl #[.string a0, .string ⟨#[58]⟩] rfl k10_ ?_; (refine (cut_any a0 _ (by have := HS.out; omega) HG1.out).mono ?_); rintro e w2 ⟨rfl, hb⟩; refine ⟨_, rfl, ?_⟩; have BQ2 := Aside0.mk (blk_below BQ1.out hb); have HB2 := Aside0.mk (below_step HB1.out hb); have HG2 := Aside0.mk (GlobOk.below HG1.out hb); clear hb BQ1 HB1 HG1; rw [← HBF.out, ← HNB.out]) | ((with_reducible refine gate_callee (f := 14) rfl ?_); (try (refine gate_guard (by rfl) ?_; dsimp only)); refine goesL_ (some 18) rfl rfl Tryd.func14 (by kernel_rfl) rfl #[.string nb] rfl k10_ ?_; (refine (atoi_calls nb _ (by have := HS.out; have := HNL.out; omega) HG2.out).mono ?_); rintro e w4 ⟨n, ev, rfl, hc_, hb⟩; refine ⟨_, rfl, ?_⟩; have BQ4 := Aside0.mk (blk_below BQ2.out hb); have HB4 := Aside0.mk (below_step HB2.out hb); obtain ⟨rfl, rfl⟩ : n = v ∧ ev = .nilIface := (by rcases hc_ with ⟨h1_, h2_⟩ | ⟨h1_, -⟩; exact ⟨by rw [HV.out] at h1_; injection h1_ with h1_; exact h1_.symm, h2_⟩; exact absurd HV.out (h1_ v)); clear hc_; clear hb BQ2 HB2 HG2) | ((with_reducible refine gate_dst (N := 9) rfl ?_); (try (refine gate_guard (by rfl) ?_; dsimp only)); refine box_event ?hg (N := 9) ?hd (cs := #[.string (⟨#[]⟩ : ByteArray), .int .i64 0]) (t := 23) ?hr ?_; (case hd => rfl); (case hg => rfl); (case hr => exact k16_); intro g9 hg w9 hbox hb; have B9_ := Aside0.mk (show ((w9.setCell ⟨g9, 0, none⟩ (.string bf)).setCell ⟨g9, 1, none⟩ (.int .i64 n)).heap[g9]? = _ from blk_put (cs' := #[.string bf, .int .i64 n]) (blk_put (cs' := #[.string bf, .int .i64 0]) hbox 0 (.string bf) rfl) 1 (.int .i64 n) rfl); have HB9 := Aside0.mk (show Below w4.heap.size w4 ((w9.setCell ⟨g9, 0, none⟩ (.string bf)).setCell ⟨g9, 1, none⟩ (.int .i64 n)) from below_set (below_set hb (Nat.le_of_eq hg.symm)) (Nat.le_of_eq hg.symm)); have BQ9 := Aside0.mk (blk_below BQ4.out HB9.out); have hz0 : w9.cell? ⟨g9, 0, none⟩ = some (.string (⟨#[]⟩ : ByteArray)) := (blk_cell hbox 0).trans rfl; have hz1 : w9.cell? ⟨g9, 1, none⟩ = some (.int .i64 0) := (blk_cell hbox 1).trans rfl; have hf0 := blk_frozen hbox 0; have hf1 := blk_frozen hbox 1; have hne : gQ ≠ g9 := (by rw [hg]; exact Nat.ne_of_lt (blk_lt BQ4.out)); have hne' : ¬ g9 = gQ := fun e_ => hne e_.symm; have hqz0 : w9.cell? ⟨gQ, 0, none⟩ = some (.string (⟨#[]⟩ : ByteArray)) := (blk_cell (blk_below BQ4.out hb) 0).trans rfl; have hqz1 : w9.cell? ⟨gQ, 1, none⟩ = some (.int .i64 0) := (blk_cell (blk_below BQ4.out hb) 1).trans rfl; have hqf0 := blk_frozen (blk_below BQ4.out hb) 0; have hqf1 := blk_frozen (blk_below BQ4.out hb) 1; clear hbox hb hg) | ((with_reducible refine gate_callee (f := 15) rfl ?_); (try (refine gate_guard (by rfl) ?_; dsimp only)); refine goesL_ (some 28) rfl rfl Tryd.func15 (by kernel_rfl) rfl #[.agg #[.string bf, .int .i64 n]] rfl k10_ ?_; (refine (impl_isPuzzle.calls bf n true _ A1.out).mono ?_); rintro e w10 ⟨rfl, hb⟩; refine ⟨_, rfl, ?_⟩; have B10 := Aside0.mk (blk_below B9_.out hb); have BQ10 := Aside0.mk (blk_below BQ9.out hb); have HB10 := Aside0.mk (below_step (below_step HB4.out HB9.out) hb); clear hz0 hz1 hf0 hf1 hqz0 hqz1 hqf0 hqf1 B9_ BQ9 HB9 hb; have hz0 : w10.cell? ⟨g9, 0, none⟩ = some (.string bf) := (blk_cell B10.out 0).trans rfl; have hz1 : w10.cell? ⟨g9, 1, none⟩ = some (.int .i64 n) := (blk_cell B10.out 1).trans rfl; have hqz0 : w10.cell? ⟨gQ, 0, none⟩ = some (.string (⟨#[]⟩ : ByteArray)) := (blk_cell BQ10.out 0).trans rfl; have hqz1 : w10.cell? ⟨gQ, 1, none⟩ = some (.int .i64 0) := (blk_cell BQ10.out 1).trans rfl; have hqf0 := blk_frozen BQ10.out 0; have hqf1 := blk_frozen BQ10.out 1) | ((with_reducible refine gate_callee (f := 16) rfl ?_); (try (refine gate_guard (by rfl) ?_; dsimp only)); refine goesL_ (some 33) rfl rfl Tryd.func16 (by kernel_rfl) rfl #[.agg #[.string bf, .int .i64 n]] rfl k10_ ?_; (refine (impl_puzzleText.calls bf n txt _ A2.out).mono ?_); rintro e w11 ⟨rfl, hb⟩; refine ⟨_, rfl, ?_⟩; have B11 := Aside0.mk (blk_below B10.out hb); have BQ11 := Aside0.mk (blk_below BQ10.out hb); have HB11 := Aside0.mk (below_step HB10.out hb); clear hz0 hz1 hqz0 hqz1 hqf0 hqf1 hb; have hz0 : w11.cell? ⟨g9, 0, none⟩ = some (.string bf) := (blk_cell B11.out 0).trans rfl; have hz1 : w11.cell? ⟨g9, 1, none⟩ = some (.int .i64 n) := (blk_cell B11.out 1).trans rfl; have hqz0 : w11.cell? ⟨gQ, 0, none⟩ = some (.string (⟨#[]⟩ : ByteArray)) := (blk_cell BQ11.out 0).trans rfl; have hqz1 : w11.cell? ⟨gQ, 1, none⟩ = some (.int .i64 0) := (blk_cell BQ11.out 1).trans rfl; have hqf0 := blk_frozen BQ11.out 0; have hqf1 := blk_frozen BQ11.out 1))
          refine bodyPost_ret (results_list (rs := [.cell 2 23, .tmp 3]) rfl (by simp) (.cell gQ 23 #[.string bf, .int .i64 n] (0, 0) _ rfl (blk_put (cs' := #[.string bf, .int .i64 n]) (blk_put (cs' := #[.string bf, .int .i64 0]) BQ11.out 0 _ rfl) 1 _ rfl) Tryd.underlying23 rfl (by kernel_rfl) (.tmp .nil))) rfl ?_
          exact ⟨rfl, below_set (below_set HB11.out (by have h_ := GQ.out; omega)) (by have h_ := GQ.out; omega)⟩
        · rw [if_neg hx] at h
          simp only [Option.some.injEq, Prod.mk.injEq] at h
          obtain ⟨rfl, rfl, rfl⟩ := h
          have hxb : (txt.toList != a0.toList) = true := bne_iff_ne.2 hx
          have hxc : (txt.toList == a0.toList) = false := beq_eq_false_iff_ne.2 hx
          clear hx
          go_enter Tryd.func10, Tryd.ntmps10
          go_wp2_with (first | ((with_reducible refine gate_dst (N := 2) rfl ?_); (try (refine gate_guard (by rfl) ?_; dsimp only)); refine box_event ?hg (N := 2) ?hd (cs := #[.string (⟨#[]⟩ : ByteArray), .int .i64 0]) (t := 23) ?hr ?_; (case hd => rfl); (case hg => rfl); (case hr => exact k16_); intro gQ hg w1 hbox hb; have BQ1 := Aside0.mk hbox; have HB1 := Aside0.mk hb; have GQ := Aside0.mk (show w.heap.size ≤ gQ by rw [hg]; exact Nat.le_refl _); have HG1 := Aside0.mk (GlobOk.below HG.out hb); clear hbox hb hg) | ((with_reducible refine gate_callee (f := 13) rfl ?_); (try (refine gate_guard (by rfl) ?_; dsimp only)); refine goesL_ (some 12) rfl rfl Tryd.func13 (by kernel_rfl) rfl #[.string a0, .string ⟨#[58]⟩] rfl k10_ ?_; (refine (cut_any a0 _ (by have := HS.out; omega) HG1.out).mono ?_); rintro e w2 ⟨rfl, hb⟩; refine ⟨_, rfl, ?_⟩; have BQ2 := Aside0.mk (blk_below BQ1.out hb); have HB2 := Aside0.mk (below_step HB1.out hb); have HG2 := Aside0.mk (GlobOk.below HG1.out hb); clear hb BQ1 HB1 HG1; rw [← HBF.out, ← HNB.out]) | ((with_reducible refine gate_callee (f := 14) rfl ?_); (try (refine gate_guard (by rfl) ?_; dsimp only)); refine goesL_ (some 18) rfl rfl Tryd.func14 (by kernel_rfl) rfl #[.string nb] rfl k10_ ?_; (refine (atoi_calls nb _ (by have := HS.out; have := HNL.out; omega) HG2.out).mono ?_); rintro e w4 ⟨n, ev, rfl, hc_, hb⟩; refine ⟨_, rfl, ?_⟩; have BQ4 := Aside0.mk (blk_below BQ2.out hb); have HB4 := Aside0.mk (below_step HB2.out hb); obtain ⟨rfl, rfl⟩ : n = v ∧ ev = .nilIface := (by rcases hc_ with ⟨h1_, h2_⟩ | ⟨h1_, -⟩; exact ⟨by rw [HV.out] at h1_; injection h1_ with h1_; exact h1_.symm, h2_⟩; exact absurd HV.out (h1_ v)); clear hc_; clear hb BQ2 HB2 HG2) | ((with_reducible refine gate_dst (N := 9) rfl ?_); (try (refine gate_guard (by rfl) ?_; dsimp only)); refine box_event ?hg (N := 9) ?hd (cs := #[.string (⟨#[]⟩ : ByteArray), .int .i64 0]) (t := 23) ?hr ?_; (case hd => rfl); (case hg => rfl); (case hr => exact k16_); intro g9 hg w9 hbox hb; have B9_ := Aside0.mk (show ((w9.setCell ⟨g9, 0, none⟩ (.string bf)).setCell ⟨g9, 1, none⟩ (.int .i64 n)).heap[g9]? = _ from blk_put (cs' := #[.string bf, .int .i64 n]) (blk_put (cs' := #[.string bf, .int .i64 0]) hbox 0 (.string bf) rfl) 1 (.int .i64 n) rfl); have HB9 := Aside0.mk (show Below w4.heap.size w4 ((w9.setCell ⟨g9, 0, none⟩ (.string bf)).setCell ⟨g9, 1, none⟩ (.int .i64 n)) from below_set (below_set hb (Nat.le_of_eq hg.symm)) (Nat.le_of_eq hg.symm)); have BQ9 := Aside0.mk (blk_below BQ4.out HB9.out); have hz0 : w9.cell? ⟨g9, 0, none⟩ = some (.string (⟨#[]⟩ : ByteArray)) := (blk_cell hbox 0).trans rfl; have hz1 : w9.cell? ⟨g9, 1, none⟩ = some (.int .i64 0) := (blk_cell hbox 1).trans rfl; have hf0 := blk_frozen hbox 0; have hf1 := blk_frozen hbox 1; have hne : gQ ≠ g9 := (by rw [hg]; exact Nat.ne_of_lt (blk_lt BQ4.out)); have hne' : ¬ g9 = gQ := fun e_ => hne e_.symm; have hqz0 : w9.cell? ⟨gQ, 0, none⟩ = some (.string (⟨#[]⟩ : ByteArray)) := (blk_cell (blk_below BQ4.out hb) 0).trans rfl; have hqz1 : w9.cell? ⟨gQ, 1, none⟩ = some (.int .i64 0) := (blk_cell (blk_below BQ4.out hb) 1).trans rfl; have hqf0 := blk_frozen (blk_below BQ4.out hb) 0; have hqf1 := blk_frozen (blk_below BQ4.out hb) 1; clear hbox hb hg) | ((with_reducible refine gate_callee (f := 15) rfl ?_); (try (refine gate_guard (by rfl) ?_; dsimp only)); refine goesL_ (some 28) rfl rfl Tryd.func15 (by kernel_rfl) rfl #[.agg #[.string bf, .int .i64 n]] rfl k10_ ?_; (refine (impl_isPuzzle.calls bf n true _ A1.out).mono ?_); rintro e w10 ⟨rfl, hb⟩; refine ⟨_, rfl, ?_⟩; have B10 := Aside0.mk (blk_below B9_.out hb); have BQ10 := Aside0.mk (blk_below BQ9.out hb); have HB10 := Aside0.mk (below_step (below_step HB4.out HB9.out) hb); clear hz0 hz1 hf0 hf1 hqz0 hqz1 hqf0 hqf1 B9_ BQ9 HB9 hb; have hz0 : w10.cell? ⟨g9, 0, none⟩ = some (.string bf) := (blk_cell B10.out 0).trans rfl; have hz1 : w10.cell? ⟨g9, 1, none⟩ = some (.int .i64 n) := (blk_cell B10.out 1).trans rfl; have hqz0 : w10.cell? ⟨gQ, 0, none⟩ = some (.string (⟨#[]⟩ : ByteArray)) := (blk_cell BQ10.out 0).trans rfl; have hqz1 : w10.cell? ⟨gQ, 1, none⟩ = some (.int .i64 0) := (blk_cell BQ10.out 1).trans rfl; have hqf0 := blk_frozen BQ10.out 0; have hqf1 := blk_frozen BQ10.out 1) | ((with_reducible refine gate_callee (f := 16) rfl ?_); (try (refine gate_guard (by rfl) ?_; dsimp only)); refine goesL_ (some 33) rfl rfl Tryd.func16 (by kernel_rfl) rfl #[.agg #[.string bf, .int .i64 n]] rfl k10_ ?_; (refine (impl_puzzleText.calls bf n txt _ A2.out).mono ?_); rintro e w11 ⟨rfl, hb⟩; refine ⟨_, rfl, ?_⟩; have B11 := Aside0.mk (blk_below B10.out hb); have BQ11 := Aside0.mk (blk_below BQ10.out hb); have HB11 := Aside0.mk (below_step HB10.out hb); clear hz0 hz1 hqz0 hqz1 hqf0 hqf1 hb; have hz0 : w11.cell? ⟨g9, 0, none⟩ = some (.string bf) := (blk_cell B11.out 0).trans rfl; have hz1 : w11.cell? ⟨g9, 1, none⟩ = some (.int .i64 n) := (blk_cell B11.out 1).trans rfl; have hqz0 : w11.cell? ⟨gQ, 0, none⟩ = some (.string (⟨#[]⟩ : ByteArray)) := (blk_cell BQ11.out 0).trans rfl; have hqz1 : w11.cell? ⟨gQ, 1, none⟩ = some (.int .i64 0) := (blk_cell BQ11.out 1).trans rfl; have hqf0 := blk_frozen BQ11.out 0; have hqf1 := blk_frozen BQ11.out 1))
          refine bodyPost_ret (results_list (rs := [.cell 2 23, .tmp 3]) rfl (by simp) (.cell gQ 23 #[.string (⟨#[]⟩ : ByteArray), .int .i64 0] (0, 0) _ rfl (blk_put (cs' := #[.string (⟨#[]⟩ : ByteArray), .int .i64 0]) (blk_put (cs' := #[.string (⟨#[]⟩ : ByteArray), .int .i64 0]) BQ11.out 0 _ rfl) 1 _ rfl) Tryd.underlying23 rfl (by kernel_rfl) (.tmp .nil))) rfl ?_
          exact ⟨rfl, below_set (below_set HB11.out (by have h_ := GQ.out; omega)) (by have h_ := GQ.out; omega)⟩
    · have he : ∀ v, Lib.atoiAll nb.data.toList ≠ .ok v := fun v h_ => hv ⟨v, h_⟩
      have h2 : some ((⟨#[]⟩ : ByteArray), (0 : Int), false) = some (r1, r2, r3) := by
        cases hc : Lib.atoiAll nb.data.toList with
        | ok v => exact absurd hc (he v)
        | _ => rw [hc] at h; exact h
      have HE := Aside0.mk he
      clear he hv h
      simp only [Option.some.injEq, Prod.mk.injEq] at h2
      obtain ⟨rfl, rfl, rfl⟩ := h2
      go_enter Tryd.func10, Tryd.ntmps10
      go_wp2_with (first | ((with_reducible refine gate_dst (N := 2) rfl ?_); (try (refine gate_guard (by rfl) ?_; dsimp only)); refine box_event ?hg (N := 2) ?hd (cs := #[.string (⟨#[]⟩ : ByteArray), .int .i64 0]) (t := 23) ?hr ?_; (case hd => rfl); (case hg => rfl); (case hr => exact k16_); intro gQ hg w1 hbox hb; have BQ1 := Aside0.mk hbox; have HB1 := Aside0.mk hb; have GQ := Aside0.mk (show w.heap.size ≤ gQ by rw [hg]; exact Nat.le_refl _); have HG1 := Aside0.mk (GlobOk.below HG.out hb); clear hbox hb hg) | ((with_reducible refine gate_callee (f := 13) rfl ?_); (try (refine gate_guard (by rfl) ?_; dsimp only)); refine goesL_ (some 12) rfl rfl Tryd.func13 (by kernel_rfl) rfl #[.string a0, .string ⟨#[58]⟩] rfl k10_ ?_; (refine (cut_any a0 _ (by have := HS.out; omega) HG1.out).mono ?_); rintro e w2 ⟨rfl, hb⟩; refine ⟨_, rfl, ?_⟩; have BQ2 := Aside0.mk (blk_below BQ1.out hb); have HB2 := Aside0.mk (below_step HB1.out hb); have HG2 := Aside0.mk (GlobOk.below HG1.out hb); clear hb BQ1 HB1 HG1; rw [← HBF.out, ← HNB.out]) | ((with_reducible refine gate_callee (f := 14) rfl ?_); (try (refine gate_guard (by rfl) ?_; dsimp only)); refine goesL_ (some 18) rfl rfl Tryd.func14 (by kernel_rfl) rfl #[.string nb] rfl k10_ ?_; (refine (atoi_calls nb _ (by have := HS.out; have := HNL.out; omega) HG2.out).mono ?_); rintro e w4 ⟨n, ev, rfl, hc_, hb⟩; refine ⟨_, rfl, ?_⟩; have BQ4 := Aside0.mk (blk_below BQ2.out hb); have HB4 := Aside0.mk (below_step HB2.out hb); obtain ⟨te, pe, rfl⟩ : ∃ te pe, ev = .iface te pe := (by rcases hc_ with ⟨h1_, -⟩ | ⟨-, h2_⟩; exact absurd h1_ (HE.out n); exact h2_); clear hc_; clear hb BQ2 HB2 HG2) | ((with_reducible refine gate_dst (N := 9) rfl ?_); (try (refine gate_guard (by rfl) ?_; dsimp only)); refine box_event ?hg (N := 9) ?hd (cs := #[.string (⟨#[]⟩ : ByteArray), .int .i64 0]) (t := 23) ?hr ?_; (case hd => rfl); (case hg => rfl); (case hr => exact k16_); intro g9 hg w9 hbox hb; have B9_ := Aside0.mk (show ((w9.setCell ⟨g9, 0, none⟩ (.string bf)).setCell ⟨g9, 1, none⟩ (.int .i64 n)).heap[g9]? = _ from blk_put (cs' := #[.string bf, .int .i64 n]) (blk_put (cs' := #[.string bf, .int .i64 0]) hbox 0 (.string bf) rfl) 1 (.int .i64 n) rfl); have HB9 := Aside0.mk (show Below w4.heap.size w4 ((w9.setCell ⟨g9, 0, none⟩ (.string bf)).setCell ⟨g9, 1, none⟩ (.int .i64 n)) from below_set (below_set hb (Nat.le_of_eq hg.symm)) (Nat.le_of_eq hg.symm)); have BQ9 := Aside0.mk (blk_below BQ4.out HB9.out); have hz0 : w9.cell? ⟨g9, 0, none⟩ = some (.string (⟨#[]⟩ : ByteArray)) := (blk_cell hbox 0).trans rfl; have hz1 : w9.cell? ⟨g9, 1, none⟩ = some (.int .i64 0) := (blk_cell hbox 1).trans rfl; have hf0 := blk_frozen hbox 0; have hf1 := blk_frozen hbox 1; have hne : gQ ≠ g9 := (by rw [hg]; exact Nat.ne_of_lt (blk_lt BQ4.out)); have hne' : ¬ g9 = gQ := fun e_ => hne e_.symm; have hqz0 : w9.cell? ⟨gQ, 0, none⟩ = some (.string (⟨#[]⟩ : ByteArray)) := (blk_cell (blk_below BQ4.out hb) 0).trans rfl; have hqz1 : w9.cell? ⟨gQ, 1, none⟩ = some (.int .i64 0) := (blk_cell (blk_below BQ4.out hb) 1).trans rfl; have hqf0 := blk_frozen (blk_below BQ4.out hb) 0; have hqf1 := blk_frozen (blk_below BQ4.out hb) 1; clear hbox hb hg))
      refine bodyPost_ret (results_list (rs := [.cell 2 23, .tmp 3]) rfl (by simp) (.cell gQ 23 #[.string (⟨#[]⟩ : ByteArray), .int .i64 0] (0, 0) _ rfl (blk_put (cs' := #[.string (⟨#[]⟩ : ByteArray), .int .i64 0]) (blk_put (cs' := #[.string (⟨#[]⟩ : ByteArray), .int .i64 0]) BQ9.out 0 _ rfl) 1 _ rfl) Tryd.underlying23 rfl (by kernel_rfl) (.tmp .nil))) rfl ?_
      exact ⟨rfl, below_set (below_set (below_step HB4.out HB9.out) (by have h_ := GQ.out; omega)) (by have h_ := GQ.out; omega)⟩
  · rw [if_neg hs] at h
    exact absurd h (by simp)
end Go.Proofs.YtmflgmodknceeaaDoor.P
namespace Go.Proofs.YtmflgmodknceeaaDoor.P
open Go.RowKit Go.Proofs.YtmflgmodknceeaaDoorW.PrintWords Go.Proofs.YtmflgmodknceeaaDoorW.PrintLast Go.Proofs.YtmflgmodknceeaaDoorW.PrintMore
attribute [local go_sem] max2_int min2_int max_two min_two max_three min_three max_four min_four
set_option linter.unusedVariables false
set_option linter.unusedSimpArgs false
def spec_l1Split.l0 : Nat → ByteArray → Int → List ByteArray → Int → Int → Option (List ByteArray)
 | 0, _, _, _, _, _ => none
 | k + 1, x0, x1, x5, x6, x7 => if x7 < (x0.size : Int) then (if 0 ≤ x7 then (if (bt x0 x7) = x1 then (if 0 ≤ x6 then (if x6 ≤ x7 then (if x7 ≤ (x0.size : Int) then (if x5.length < 8796093022208 then (spec_l1Split.l0 k x0 x1 (x5 ++ [x0.extract (x6 : Int).toNat (x7 : Int).toNat]) (wrap64 (x7 + 1)) (wrap64 (x7 + 1))) else (none)) else (none)) else (none)) else (none)) else (spec_l1Split.l0 k x0 x1 x5 x6 (wrap64 (x7 + 1)))) else (none)) else (if 0 ≤ x6 then (if x6 ≤ (x0.size : Int) then (if x5.length < 8796093022208 then (some (x5 ++ [x0.extract (x6 : Int).toNat x0.size])) else (none)) else (none)) else (none))
def spec_l1Split.f (k : Nat) (a0 : ByteArray) (a1 : Int) : Option (List ByteArray) := spec_l1Split.l0 k a0 a1 ([] : List ByteArray) 0 0
set_option maxHeartbeats 8000000 in
set_option maxRecDepth 100000 in
theorem spec_l1Split.calls (k : Nat) (a0 : ByteArray) (a1 : Int) (r : List ByteArray) (w : World) (h : spec_l1Split.f k a0 a1 = some r) :
  Calls Tryd.prog 7 #[.string a0, .int .u8 a1] w fun e w' => ∃ v0_ : Value, e = .returned (v0_) ∧ Kd.R Kd.string 9 w' w.heap.size (fun _ => True) v0_ r ∧ Below w.heap.size w w' := by
 have HB := Aside0.mk (Below.refl w.heap.size w)
 have H : (spec_l1Split.l0 k a0 a1 ([] : List ByteArray) 0 0) = some r := h
 clear h
 have H' := Aside0.mk H
 clear H
 go_enter Tryd.func7, Tryd.ntmps7
 go_wp2
 go_loopg [5, 6, 7] k (fun kq v5 v6 v7 w' => ∃ (x5_1 : List ByteArray) (x6_1 : Int) (x7_1 : Int), v6 = .int .i64 x6_1 ∧ v7 = .int .i64 x7_1 ∧ Aside0 (spec_l1Split.l0 kq a0 a1 x5_1 x6_1 x7_1 = some r) ∧ Aside0 (kq ≤ k) ∧ Aside0 (Kd.R Kd.string 9 w' w.heap.size (fun _ => True) v5 x5_1) ∧ Aside0 (Below w.heap.size w w'))
 case atStart => exact ⟨(([] : List ByteArray)), (0), (0), k15_, k15_, H', ⟨Nat.le_refl _⟩, ⟨by first | exact Kd.R_nil _ _ _ _ _ | exact Kd.N_nil _ _ _ _ _ | exact Kd.V_nil _ _ _ _ _ | exact Kd.Q_nil _ _ _ _ _ | exact Kd.S_nil _ _ _ _ _⟩, ⟨k11_⟩⟩
 case round =>
  clear H'
  obtain ⟨x5_1, x6_1, x7_1, rfl, rfl, HA, HK1, HO_5, HB⟩ := hrel
  cases gk with
  | zero => exact absurd HA.out (by simp [spec_l1Split.l0])
  | succ k1 =>
   have H := HA.out
   clear HA
   simp only [spec_l1Split.l0] at H
   by_cases c3 : x7_1 < (a0.size : Int)
   ·rw [if_pos c3] at H
    have c3b0 : decide (x7_1 < (a0.size : Int)) = true := decide_eq_true c3
    clear c3
    by_cases c4 : 0 ≤ x7_1
    ·rw [if_pos c4] at H
     have c4b0 : decide (0 ≤ x7_1) = true := decide_eq_true c4
     clear c4
     by_cases c6 : (bt a0 x7_1) = a1
     ·rw [if_pos c6] at H
      have c6b0 : ((bt a0 x7_1) == a1) = true := beq_iff_eq.mpr c6
      have c6b1 : ((bt a0 x7_1) != a1) = false := bne_eq_false_iff_eq.mpr c6
      clear c6
      by_cases c7 : 0 ≤ x6_1
      ·rw [if_pos c7] at H
       have c7b0 := eq_true c7
       have c7b1 : decide (0 ≤ x6_1) = true := decide_eq_true c7
       clear c7
       by_cases c8 : x6_1 ≤ x7_1
       ·rw [if_pos c8] at H
        have c8b0 := eq_true c8
        have c8b1 : decide (x6_1 ≤ x7_1) = true := decide_eq_true c8
        clear c8
        by_cases c9 : x7_1 ≤ (a0.size : Int)
        ·rw [if_pos c9] at H
         have c9b0 := eq_true c9
         have c9b1 : decide (x7_1 ≤ (a0.size : Int)) = true := decide_eq_true c9
         clear c9
         by_cases c10 : x5_1.length < 8796093022208
         ·rw [if_pos c10] at H
          have LMc10 := Aside0.mk c10
          clear c10
          obtain ⟨y101, hy_⟩ : ∃ y_ : List ByteArray, y_ = (x5_1 ++ [a0.extract (x6_1 : Int).toNat (x7_1 : Int).toNat]) := ⟨_, rfl⟩
          replace H : (spec_l1Split.l0 k1 a0 a1 y101 (wrap64 (x7_1 + 1)) (wrap64 (x7_1 + 1))) = some r := by first | (rw [hy_]; with_reducible exact H) | (have H2_ := (Option.bind_some _ _).symm.trans H; rw [hy_]; with_reducible exact H2_) | (have H2_ := (Option.bind_some _ _).symm.trans H; with_reducible exact H2_) | with_reducible exact H | (rw [hy_]; exact H) | exact H
          have Ny101 := Aside0.mk hy_
          clear hy_
          have H' := Aside0.mk H
          clear H
          have p5 : 0 ≤ (x7_1 : Int) := of_decide_eq_true k14_
          have q5 : x7_1 < (a0.size : Int) := of_decide_eq_true k14_
          have hx5 := bt_at a0 x7_1
          replace p5 := eq_true p5
          replace q5 := eq_true q5
          go_wp2_with (first | ((with_reducible refine gate_builtin (b := .append) (xs := #[.tmp 19, .tmp 24]) rfl ?_); at_builtin; refine Kd.R_append Kd.string (w0 := w) w.heap.size rfl (.tmp 19) (.tmp 24) 28 9 (.string ⟨#[]⟩) 16 rfl Tryd.underlying28 info9 rfl (by decide) (by omega) u5 x5_1 (a0.extract (x6_1 : Int).toNat (x7_1 : Int).toNat) [.string (a0.extract (x6_1 : Int).toNat (x7_1 : Int).toNat)] (fun _ => True) (fun _ => False) rfl rfl ?aP (fun _ hk => hk.elim) ?aF ?aO ?aB ?aS ?aL ?_; (case aP => exact rfl); (case aB => exact k11_); (case aF => exact (fun _ _ => trivial)); (case aO => exact (by apply_rules only [HO_5.out, Kd.R_alloc, Kd.R_drewN, Kd.R_drew])); (case aS => exact (below_size k11_)); (case aL => have := LMc10.out; omega); intro v102 w11 ho hb hg hat; rw [← Ny101.out] at ho; replace HB := Aside0.mk (hb); have HO103 := Aside0.mk (ho); clear HO_5; clear ho hb hg hat))
          go_roundg k1
          case measure => have := HK1.out; omega
          case rel => exact ⟨(y101), (wrap64 (x7_1 + 1)), (wrap64 (x7_1 + 1)), k15_, k15_, H', ⟨by have := HK1.out; omega⟩, ⟨by apply_rules only [HO103.out, Kd.R_alloc, Kd.R_drewN, Kd.R_drew]⟩, ⟨k11_⟩⟩
         ·rw [if_neg c10] at H
          exact absurd H (by simp)
        ·rw [if_neg c9] at H
         exact absurd H (by simp)
       ·rw [if_neg c8] at H
        exact absurd H (by simp)
      ·rw [if_neg c7] at H
       exact absurd H (by simp)
     ·rw [if_neg c6] at H
      have c6b0 : ((bt a0 x7_1) == a1) = false := beq_eq_false_iff_ne.mpr c6
      have c6b1 : ((bt a0 x7_1) != a1) = true := bne_iff_ne.mpr c6
      have H' := Aside0.mk H
      clear H
      have p5 : 0 ≤ (x7_1 : Int) := of_decide_eq_true k14_
      have q5 : x7_1 < (a0.size : Int) := of_decide_eq_true k14_
      have hx5 := bt_at a0 x7_1
      replace p5 := eq_true p5
      replace q5 := eq_true q5
      go_wp2
      go_roundg k1
      case measure => have := HK1.out; omega
      case rel => exact ⟨(x5_1), (x6_1), (wrap64 (x7_1 + 1)), k15_, k15_, H', ⟨by have := HK1.out; omega⟩, ⟨by apply_rules only [HO_5.out, Kd.R_alloc, Kd.R_drewN, Kd.R_drew]⟩, ⟨k11_⟩⟩
    ·rw [if_neg c4] at H
     exact absurd H (by simp)
   ·rw [if_neg c3] at H
    have c3b0 : decide (x7_1 < (a0.size : Int)) = false := decide_eq_false c3
    clear c3
    by_cases c12 : 0 ≤ x6_1
    ·rw [if_pos c12] at H
     have c12b0 := eq_true c12
     have c12b1 : decide (0 ≤ x6_1) = true := decide_eq_true c12
     clear c12
     by_cases c13 : x6_1 ≤ (a0.size : Int)
     ·rw [if_pos c13] at H
      have c13b0 := eq_true c13
      have c13b1 : decide (x6_1 ≤ (a0.size : Int)) = true := decide_eq_true c13
      clear c13
      by_cases c14 : x5_1.length < 8796093022208
      ·rw [if_pos c14] at H
       have LMc14 := Aside0.mk c14
       clear c14
       obtain ⟨y104, hy_⟩ : ∃ y_ : List ByteArray, y_ = (x5_1 ++ [a0.extract (x6_1 : Int).toNat a0.size]) := ⟨_, rfl⟩
       replace H : (some y104) = some r := by first | (rw [hy_]; with_reducible exact H) | (have H2_ := (Option.bind_some _ _).symm.trans H; rw [hy_]; with_reducible exact H2_) | (have H2_ := (Option.bind_some _ _).symm.trans H; with_reducible exact H2_) | with_reducible exact H | (rw [hy_]; exact H) | exact H
       have Ny104 := Aside0.mk hy_
       clear hy_
       obtain rfl := Option.some.inj H
       go_wp2_with (first | ((with_reducible refine gate_builtin (b := .append) (xs := #[.tmp 28, .tmp 32]) rfl ?_); at_builtin; refine Kd.R_append Kd.string (w0 := w) w.heap.size rfl (.tmp 28) (.tmp 32) 28 9 (.string ⟨#[]⟩) 16 rfl Tryd.underlying28 info9 rfl (by decide) (by omega) u5 x5_1 (a0.extract (x6_1 : Int).toNat a0.size) [.string (a0.extract (x6_1 : Int).toNat a0.size)] (fun _ => True) (fun _ => False) rfl rfl ?aP (fun _ hk => hk.elim) ?aF ?aO ?aB ?aS ?aL ?_; (case aP => exact rfl); (case aB => exact k11_); (case aF => exact (fun _ _ => trivial)); (case aO => exact (by apply_rules only [HO_5.out, Kd.R_alloc, Kd.R_drewN, Kd.R_drew])); (case aS => exact (below_size k11_)); (case aL => have := LMc14.out; omega); intro v105 w15 ho hb hg hat; rw [← Ny104.out] at ho; replace HB := Aside0.mk (hb); have HO106 := Aside0.mk (ho); clear HO_5; clear ho hb hg hat))
       go_ret
       exact ⟨_, k7_, by (with_reducible repeat (first | apply Kd.R_alloc | apply Kd.R_drewN | apply Kd.R_drew)); exact HO106.out, k11_⟩
      ·rw [if_neg c14] at H
       exact absurd H (by simp)
     ·rw [if_neg c13] at H
      exact absurd H (by simp)
    ·rw [if_neg c12] at H
     exact absurd H (by simp)
end Go.Proofs.YtmflgmodknceeaaDoor.P
namespace Go.Proofs.YtmflgmodknceeaaDoor.P
open Go.RowKit Go.Proofs.YtmflgmodknceeaaDoorW.PrintWords Go.Proofs.YtmflgmodknceeaaDoorW.PrintLast Go.Proofs.YtmflgmodknceeaaDoorW.PrintMore
attribute [local go_sem] max2_int min2_int max_two min_two max_three min_three max_four min_four
set_option linter.unusedVariables false
set_option linter.unusedSimpArgs false
def spec_l1In.f (a0 : Int) (a1 : Int) (a2 : Int) : Option (Bool) := if a0 ≥ a1 then (some (decide (a0 ≤ a2))) else (some false)
set_option maxHeartbeats 8000000 in
set_option maxRecDepth 100000 in
theorem spec_l1In.calls (a0 : Int) (a1 : Int) (a2 : Int) (r : Bool) (w : World) (h : spec_l1In.f a0 a1 a2 = some r) :
  Calls Tryd.prog 11 #[.int .i64 a0, .int .i64 a1, .int .i64 a2] w fun e w' => e = .returned (.bool r) ∧ Drawn0 w w' := by
 have H : (if a0 ≥ a1 then (some (decide (a0 ≤ a2))) else (some false)) = some r := h
 clear h
 by_cases c4 : a0 ≥ a1
 ·rw [if_pos c4] at H
  have c4b0 : decide (a1 ≤ a0) = true := decide_eq_true c4
  clear c4
  obtain rfl := Option.some.inj H
  go_enter Tryd.func11, Tryd.ntmps11
  go_wp2
  go_ret
  exact ⟨k15_, k13_⟩
 ·rw [if_neg c4] at H
  have c4b0 : decide (a1 ≤ a0) = false := decide_eq_false c4
  clear c4
  obtain rfl := Option.some.inj H
  go_enter Tryd.func11, Tryd.ntmps11
  go_wp2
  go_ret
  exact ⟨k15_, k13_⟩
end Go.Proofs.YtmflgmodknceeaaDoor.P
namespace Go.Proofs.YtmflgmodknceeaaDoor.P
open Go.RowKit Go.Proofs.YtmflgmodknceeaaDoorW.PrintWords Go.Proofs.YtmflgmodknceeaaDoorW.PrintLast Go.Proofs.YtmflgmodknceeaaDoorW.PrintMore
attribute [local go_sem] max2_int min2_int max_two min_two max_three min_three max_four min_four
set_option linter.unusedVariables false
set_option linter.unusedSimpArgs false
mutual
def spec_l1Read.j0 : Nat → ByteArray → Bool → Option (Int)
 | 0, _, _ => none
 | k + 1, x0, x18 => if x18 = true then (some (-1)) else (spec_l1Read.l0 k x0 0 0)
def spec_l1Read.l0 : Nat → ByteArray → Int → Int → Option (Int)
 | 0, _, _, _ => none
 | k + 1, x0, x3, x4 => if x4 < (x0.size : Int) then (if 0 ≤ x4 then (if (bt x0 x4) < 48 then (some (-1)) else (if (bt x0 x4) > 57 then (some (-1)) else (spec_l1Read.l0 k x0 (wrap64 ((wrap64 (10 * x3)) + (((bt x0 x4) - 48) % 256))) (wrap64 (x4 + 1))))) else (none)) else (some x3)
end
def spec_l1Read.f (k : Nat) (a0 : ByteArray) : Option (Int) := (spec_l1In.f (a0.size : Int) 1 6).bind fun t101 => (if t101 = true then (if 0 < (a0.size : Int) then (if (bt a0 0) = 48 then (spec_l1Read.j0 k a0 (decide ((a0.size : Int) > 1))) else (spec_l1Read.j0 k a0 false)) else (none)) else (spec_l1Read.j0 k a0 true))
set_option maxHeartbeats 8000000 in
set_option maxRecDepth 100000 in
theorem spec_l1Read.calls (k : Nat) (a0 : ByteArray) (r : Int) (w : World) (h : spec_l1Read.f k a0 = some r) :
  Calls Tryd.prog 8 #[.string a0] w fun e w' => e = .returned (.int .i64 r) ∧ Drawn0 w w' := by
 have H : ((spec_l1In.f (a0.size : Int) 1 6).bind fun t101 => (if t101 = true then (if 0 < (a0.size : Int) then (if (bt a0 0) = 48 then (spec_l1Read.j0 k a0 (decide ((a0.size : Int) > 1))) else (spec_l1Read.j0 k a0 false)) else (none)) else (spec_l1Read.j0 k a0 true))) = some r := h
 clear h
 have HC2 := Aside0.mk H
 clear H
 go_enter Tryd.func8, Tryd.ntmps8
 go_upto_region 1 with (fail)
 go_cut [18] (fun v18 wc => ∃ (kq : Nat) (x18_1 : Bool), v18 = .bool x18_1 ∧ Aside0 (spec_l1Read.j0 kq a0 x18_1 = some r) ∧ Aside0 (kq ≤ k) ∧ Drawn0 w wc)
 case first =>
  have H := HC2.out
  clear HC2
  obtain ⟨t101, A3, H⟩ := obnd_ H
  (try dsimp only at H)
  by_cases c4 : t101 = true
  ·subst c4
   rw [if_pos rfl] at H
   by_cases c5 : 0 < (a0.size : Int)
   ·rw [if_pos c5] at H
    have c5b0 : decide (0 < (a0.size : Int)) = true := decide_eq_true c5
    have c5b1 : decide (0 < a0.size) = true := decide_eq_true (by omega)
    clear c5
    (first | rw [c5b0] | rw [c5b1] | (simp only [i64_w, i32_w]; rw [c5b0]) | skip)
    by_cases c7 : (bt a0 0) = 48
    ·rw [if_pos c7] at H
     have c7b0 : ((bt a0 0) == 48) = true := beq_iff_eq.mpr c7
     have c7b1 : ((bt a0 0) != 48) = false := bne_eq_false_iff_eq.mpr c7
     clear c7
     have H' := Aside0.mk H
     clear H
     go_wp2_with (first | ((with_reducible refine gate_callee (f := 11) rfl ?_); refine goesL_ (some 7) rfl rfl Tryd.func11 (by kernel_rfl) rfl #[.int .i64 (a0.size : Int), .int .i64 1, .int .i64 6] rfl k5_ ?_; (with_reducible refine (spec_l1In.calls (a0.size : Int) 1 6 true _ A3.out).mono ?_); rintro e w' ⟨rfl, ⟨nd, rfl⟩⟩; refine ⟨_, rfl, ?_⟩; have p6 : 0 ≤ (0 : Int) := (by omega); have q6 : 0 < a0.size := (by have : (0 : Int) < (a0.size : Int) := of_decide_eq_true k14_; omega); have hx6 : ∀ h : 0 < a0.size, ((a0[0]'h).toNat : Int) = bt a0 0 := bt_at a0 0; clear p6; have qi6 : (0 < (a0.size : Int)) = True := eq_true (of_decide_eq_true k14_); replace q6 := eq_true q6))
     go_meet
     case rel => exact ⟨_, (decide ((a0.size : Int) > 1)), k15_, H', ⟨by first | omega | exact Nat.le_refl _⟩, k13_⟩
    ·rw [if_neg c7] at H
     have c7b0 : ((bt a0 0) == 48) = false := beq_eq_false_iff_ne.mpr c7
     have c7b1 : ((bt a0 0) != 48) = true := bne_iff_ne.mpr c7
     have H' := Aside0.mk H
     clear H
     go_wp2_with (first | ((with_reducible refine gate_callee (f := 11) rfl ?_); refine goesL_ (some 7) rfl rfl Tryd.func11 (by kernel_rfl) rfl #[.int .i64 (a0.size : Int), .int .i64 1, .int .i64 6] rfl k5_ ?_; (with_reducible refine (spec_l1In.calls (a0.size : Int) 1 6 true _ A3.out).mono ?_); rintro e w' ⟨rfl, ⟨nd, rfl⟩⟩; refine ⟨_, rfl, ?_⟩; have p6 : 0 ≤ (0 : Int) := (by omega); have q6 : 0 < a0.size := (by have : (0 : Int) < (a0.size : Int) := of_decide_eq_true k14_; omega); have hx6 : ∀ h : 0 < a0.size, ((a0[0]'h).toNat : Int) = bt a0 0 := bt_at a0 0; clear p6; have qi6 : (0 < (a0.size : Int)) = True := eq_true (of_decide_eq_true k14_); replace q6 := eq_true q6))
     go_meet
     case rel => exact ⟨_, (false), k15_, H', ⟨by first | omega | exact Nat.le_refl _⟩, k13_⟩
   ·rw [if_neg c5] at H
    exact absurd H (by simp)
  ·replace c4 := Bool.eq_false_iff.mpr c4
   subst c4
   rw [if_neg (show ¬ (false = true) by decide)] at H
   have H' := Aside0.mk H
   clear H
   go_wp2_with (first | ((with_reducible refine gate_callee (f := 11) rfl ?_); refine goesL_ (some 7) rfl rfl Tryd.func11 (by kernel_rfl) rfl #[.int .i64 (a0.size : Int), .int .i64 1, .int .i64 6] rfl k5_ ?_; (with_reducible refine (spec_l1In.calls (a0.size : Int) 1 6 false _ A3.out).mono ?_); rintro e w' ⟨rfl, ⟨nd, rfl⟩⟩; refine ⟨_, rfl, ?_⟩))
   go_meet
   case rel => exact ⟨_, (true), k15_, H', ⟨by first | omega | exact Nat.le_refl _⟩, k13_⟩
 case rest =>
  clear HC2
  obtain ⟨kq, x18_1, rfl, HA, HJ1, ⟨mc1, rfl⟩⟩ := hcut
  cases kq with
  | zero => exact absurd HA.out (by simp [spec_l1Read.j0])
  | succ kj1 =>
   have H := HA.out
   clear HA
   simp only [spec_l1Read.j0] at H
   by_cases c8 : x18_1 = true
   ·subst c8
    rw [if_pos rfl] at H
    obtain rfl := Option.some.inj H
    go_wp2
    go_ret
    exact ⟨k15_, k13_⟩
   ·replace c8 := Bool.eq_false_iff.mpr c8
    subst c8
    rw [if_neg (show ¬ (false = true) by decide)] at H
    have H' := Aside0.mk H
    clear H
    go_wp2
    go_loopg [3, 4] kj1 (fun kq v3 v4 w' => ∃ (x3_2 : Int) (x4_2 : Int), v3 = .int .i64 x3_2 ∧ v4 = .int .i64 x4_2 ∧ Aside0 (spec_l1Read.l0 kq a0 x3_2 x4_2 = some r) ∧ Aside0 (kq ≤ kj1) ∧ Drawn0 w w')
    case atStart => exact ⟨(0), (0), k15_, k15_, H', ⟨Nat.le_refl _⟩, k13_⟩
    case round =>
     clear H'
     (try clear c8)
     obtain ⟨x3_2, x4_2, rfl, rfl, HA, HK2, ⟨m2, rfl⟩⟩ := hrel
     cases gk with
     | zero => exact absurd HA.out (by simp [spec_l1Read.l0])
     | succ k2 =>
      have H := HA.out
      clear HA
      simp only [spec_l1Read.l0] at H
      by_cases c9 : x4_2 < (a0.size : Int)
      ·rw [if_pos c9] at H
       have c9b0 : decide (x4_2 < (a0.size : Int)) = true := decide_eq_true c9
       clear c9
       by_cases c10 : 0 ≤ x4_2
       ·rw [if_pos c10] at H
        have c10b0 : decide (0 ≤ x4_2) = true := decide_eq_true c10
        clear c10
        by_cases c12 : (bt a0 x4_2) < 48
        ·rw [if_pos c12] at H
         have c12b0 : decide ((bt a0 x4_2) < 48) = true := decide_eq_true c12
         clear c12
         obtain rfl := Option.some.inj H
         have p11 : 0 ≤ (x4_2 : Int) := of_decide_eq_true k14_
         have q11 : x4_2 < (a0.size : Int) := of_decide_eq_true k14_
         have hx11 := bt_at a0 x4_2
         replace p11 := eq_true p11
         replace q11 := eq_true q11
         go_wp2
         go_ret
         exact ⟨k15_, k13_⟩
        ·rw [if_neg c12] at H
         have c12b0 : decide ((bt a0 x4_2) < 48) = false := decide_eq_false c12
         clear c12
         by_cases c14 : (bt a0 x4_2) > 57
         ·rw [if_pos c14] at H
          have c14b0 : decide (57 < (bt a0 x4_2)) = true := decide_eq_true c14
          clear c14
          obtain rfl := Option.some.inj H
          have p11 : 0 ≤ (x4_2 : Int) := of_decide_eq_true k14_
          have q11 : x4_2 < (a0.size : Int) := of_decide_eq_true k14_
          have hx11 := bt_at a0 x4_2
          replace p11 := eq_true p11
          replace q11 := eq_true q11
          have p13 : 0 ≤ (x4_2 : Int) := of_decide_eq_true k14_
          have q13 : x4_2 < (a0.size : Int) := of_decide_eq_true k14_
          have hx13 := bt_at a0 x4_2
          replace p13 := eq_true p13
          replace q13 := eq_true q13
          go_wp2
          go_ret
          exact ⟨k15_, k13_⟩
         ·rw [if_neg c14] at H
          have c14b0 : decide (57 < (bt a0 x4_2)) = false := decide_eq_false c14
          clear c14
          have H' := Aside0.mk H
          clear H
          have p11 : 0 ≤ (x4_2 : Int) := of_decide_eq_true k14_
          have q11 : x4_2 < (a0.size : Int) := of_decide_eq_true k14_
          have hx11 := bt_at a0 x4_2
          replace p11 := eq_true p11
          replace q11 := eq_true q11
          have p13 : 0 ≤ (x4_2 : Int) := of_decide_eq_true k14_
          have q13 : x4_2 < (a0.size : Int) := of_decide_eq_true k14_
          have hx13 := bt_at a0 x4_2
          replace p13 := eq_true p13
          replace q13 := eq_true q13
          have p15 : 0 ≤ (x4_2 : Int) := of_decide_eq_true k14_
          have q15 : x4_2 < (a0.size : Int) := of_decide_eq_true k14_
          have hx15 := bt_at a0 x4_2
          replace p15 := eq_true p15
          replace q15 := eq_true q15
          go_wp2
          go_roundg k2
          case measure => have := HJ1.out; have := HK2.out; omega
          case rel => exact ⟨(wrap64 ((wrap64 (10 * x3_2)) + (((bt a0 x4_2) - 48) % 256))), (wrap64 (x4_2 + 1)), k15_, k15_, H', ⟨by have := HJ1.out; have := HK2.out; omega⟩, k13_⟩
       ·rw [if_neg c10] at H
        exact absurd H (by simp)
      ·rw [if_neg c9] at H
       have c9b0 : decide (x4_2 < (a0.size : Int)) = false := decide_eq_false c9
       clear c9
       obtain rfl := Option.some.inj H
       go_wp2
       go_ret
       exact ⟨k15_, k13_⟩
end Go.Proofs.YtmflgmodknceeaaDoor.P
namespace Go.Proofs.YtmflgmodknceeaaDoor.P
open Go.RowKit Go.Proofs.YtmflgmodknceeaaDoorW.PrintWords Go.Proofs.YtmflgmodknceeaaDoorW.PrintLast Go.Proofs.YtmflgmodknceeaaDoorW.PrintMore
attribute [local go_sem] max2_int min2_int max_two min_two max_three min_three max_four min_four
set_option linter.unusedVariables false
set_option linter.unusedSimpArgs false
def spec_pzPattern.l0 : Nat → ByteArray → Int → Option (Bool)
 | 0, _, _ => none
 | k + 1, x0, x3 => if x3 < (x0.size : Int) then (if 0 ≤ x3 then (if (bt x0 x3) = 111 then (spec_pzPattern.l0 k x0 (wrap64 (x3 + 1))) else (if (bt x0 x3) = 120 then (spec_pzPattern.l0 k x0 (wrap64 (x3 + 1))) else (if (bt x0 x3) = 63 then (spec_pzPattern.l0 k x0 (wrap64 (x3 + 1))) else (some false)))) else (none)) else (some true)
def spec_pzPattern.f (k : Nat) (a0 : ByteArray) : Option (Bool) := (spec_l1In.f (a0.size : Int) 1 48).bind fun t101 => (if t101 = true then (spec_pzPattern.l0 k a0 0) else (some false))
set_option maxHeartbeats 8000000 in
set_option maxRecDepth 100000 in
theorem spec_pzPattern.calls (k : Nat) (a0 : ByteArray) (r : Bool) (w : World) (h : spec_pzPattern.f k a0 = some r) :
  Calls Tryd.prog 12 #[.string a0] w fun e w' => e = .returned (.bool r) ∧ Drawn0 w w' := by
 have H : ((spec_l1In.f (a0.size : Int) 1 48).bind fun t101 => (if t101 = true then (spec_pzPattern.l0 k a0 0) else (some false))) = some r := h
 clear h
 obtain ⟨t101, A2, H⟩ := obnd_ H
 (try dsimp only at H)
 by_cases c3 : t101 = true
 ·subst c3
  rw [if_pos rfl] at H
  have H' := Aside0.mk H
  clear H
  go_enter Tryd.func12, Tryd.ntmps12
  go_wp2_with (first | ((with_reducible refine gate_callee (f := 11) rfl ?_); refine goesL_ (some 6) rfl rfl Tryd.func11 (by kernel_rfl) rfl #[.int .i64 (a0.size : Int), .int .i64 1, .int .i64 48] rfl k5_ ?_; (with_reducible refine (spec_l1In.calls (a0.size : Int) 1 48 true _ A2.out).mono ?_); rintro e w' ⟨rfl, ⟨nd, rfl⟩⟩; refine ⟨_, rfl, ?_⟩))
  go_loopg [3] k (fun kq v3 w' => ∃ (x3_1 : Int), v3 = .int .i64 x3_1 ∧ Aside0 (spec_pzPattern.l0 kq a0 x3_1 = some r) ∧ Aside0 (kq ≤ k) ∧ Drawn0 w w')
  case atStart => exact ⟨(0), k15_, H', ⟨Nat.le_refl _⟩, k13_⟩
  case round =>
   clear H'
   (try clear c3)
   obtain ⟨x3_1, rfl, HA, HK1, ⟨m1, rfl⟩⟩ := hrel
   cases gk with
   | zero => exact absurd HA.out (by simp [spec_pzPattern.l0])
   | succ k1 =>
    have H := HA.out
    clear HA
    simp only [spec_pzPattern.l0] at H
    by_cases c4 : x3_1 < (a0.size : Int)
    ·rw [if_pos c4] at H
     have c4b0 : decide (x3_1 < (a0.size : Int)) = true := decide_eq_true c4
     clear c4
     by_cases c5 : 0 ≤ x3_1
     ·rw [if_pos c5] at H
      have c5b0 : decide (0 ≤ x3_1) = true := decide_eq_true c5
      clear c5
      by_cases c7 : (bt a0 x3_1) = 111
      ·rw [if_pos c7] at H
       have c7b0 : ((bt a0 x3_1) == 111) = true := beq_iff_eq.mpr c7
       have c7b1 : ((bt a0 x3_1) != 111) = false := bne_eq_false_iff_eq.mpr c7
       clear c7
       have H' := Aside0.mk H
       clear H
       have p6 : 0 ≤ (x3_1 : Int) := of_decide_eq_true k14_
       have q6 : x3_1 < (a0.size : Int) := of_decide_eq_true k14_
       have hx6 := bt_at a0 x3_1
       replace p6 := eq_true p6
       replace q6 := eq_true q6
       go_wp2
       go_roundg k1
       case measure => have := HK1.out; omega
       case rel => exact ⟨(wrap64 (x3_1 + 1)), k15_, H', ⟨by have := HK1.out; omega⟩, k13_⟩
      ·rw [if_neg c7] at H
       have c7b0 : ((bt a0 x3_1) == 111) = false := beq_eq_false_iff_ne.mpr c7
       have c7b1 : ((bt a0 x3_1) != 111) = true := bne_iff_ne.mpr c7
       by_cases c9 : (bt a0 x3_1) = 120
       ·rw [if_pos c9] at H
        have c9b0 : ((bt a0 x3_1) == 120) = true := beq_iff_eq.mpr c9
        have c9b1 : ((bt a0 x3_1) != 120) = false := bne_eq_false_iff_eq.mpr c9
        clear c9
        have H' := Aside0.mk H
        clear H
        have p6 : 0 ≤ (x3_1 : Int) := of_decide_eq_true k14_
        have q6 : x3_1 < (a0.size : Int) := of_decide_eq_true k14_
        have hx6 := bt_at a0 x3_1
        replace p6 := eq_true p6
        replace q6 := eq_true q6
        have p8 : 0 ≤ (x3_1 : Int) := of_decide_eq_true k14_
        have q8 : x3_1 < (a0.size : Int) := of_decide_eq_true k14_
        have hx8 := bt_at a0 x3_1
        replace p8 := eq_true p8
        replace q8 := eq_true q8
        go_wp2
        go_roundg k1
        case measure => have := HK1.out; omega
        case rel => exact ⟨(wrap64 (x3_1 + 1)), k15_, H', ⟨by have := HK1.out; omega⟩, k13_⟩
       ·rw [if_neg c9] at H
        have c9b0 : ((bt a0 x3_1) == 120) = false := beq_eq_false_iff_ne.mpr c9
        have c9b1 : ((bt a0 x3_1) != 120) = true := bne_iff_ne.mpr c9
        by_cases c11 : (bt a0 x3_1) = 63
        ·rw [if_pos c11] at H
         have c11b0 : ((bt a0 x3_1) == 63) = true := beq_iff_eq.mpr c11
         have c11b1 : ((bt a0 x3_1) != 63) = false := bne_eq_false_iff_eq.mpr c11
         clear c11
         have H' := Aside0.mk H
         clear H
         have p6 : 0 ≤ (x3_1 : Int) := of_decide_eq_true k14_
         have q6 : x3_1 < (a0.size : Int) := of_decide_eq_true k14_
         have hx6 := bt_at a0 x3_1
         replace p6 := eq_true p6
         replace q6 := eq_true q6
         have p8 : 0 ≤ (x3_1 : Int) := of_decide_eq_true k14_
         have q8 : x3_1 < (a0.size : Int) := of_decide_eq_true k14_
         have hx8 := bt_at a0 x3_1
         replace p8 := eq_true p8
         replace q8 := eq_true q8
         have p10 : 0 ≤ (x3_1 : Int) := of_decide_eq_true k14_
         have q10 : x3_1 < (a0.size : Int) := of_decide_eq_true k14_
         have hx10 := bt_at a0 x3_1
         replace p10 := eq_true p10
         replace q10 := eq_true q10
         go_wp2
         go_roundg k1
         case measure => have := HK1.out; omega
         case rel => exact ⟨(wrap64 (x3_1 + 1)), k15_, H', ⟨by have := HK1.out; omega⟩, k13_⟩
        ·rw [if_neg c11] at H
         have c11b0 : ((bt a0 x3_1) == 63) = false := beq_eq_false_iff_ne.mpr c11
         have c11b1 : ((bt a0 x3_1) != 63) = true := bne_iff_ne.mpr c11
         obtain rfl := Option.some.inj H
         have p6 : 0 ≤ (x3_1 : Int) := of_decide_eq_true k14_
         have q6 : x3_1 < (a0.size : Int) := of_decide_eq_true k14_
         have hx6 := bt_at a0 x3_1
         replace p6 := eq_true p6
         replace q6 := eq_true q6
         have p8 : 0 ≤ (x3_1 : Int) := of_decide_eq_true k14_
         have q8 : x3_1 < (a0.size : Int) := of_decide_eq_true k14_
         have hx8 := bt_at a0 x3_1
         replace p8 := eq_true p8
         replace q8 := eq_true q8
         have p10 : 0 ≤ (x3_1 : Int) := of_decide_eq_true k14_
         have q10 : x3_1 < (a0.size : Int) := of_decide_eq_true k14_
         have hx10 := bt_at a0 x3_1
         replace p10 := eq_true p10
         replace q10 := eq_true q10
         go_wp2
         go_ret
         exact ⟨k15_, k13_⟩
     ·rw [if_neg c5] at H
      exact absurd H (by simp)
    ·rw [if_neg c4] at H
     have c4b0 : decide (x3_1 < (a0.size : Int)) = false := decide_eq_false c4
     clear c4
     obtain rfl := Option.some.inj H
     go_wp2
     go_ret
     exact ⟨k15_, k13_⟩
 ·replace c3 := Bool.eq_false_iff.mpr c3
  subst c3
  rw [if_neg (show ¬ (false = true) by decide)] at H
  obtain rfl := Option.some.inj H
  go_enter Tryd.func12, Tryd.ntmps12
  go_wp2_with (first | ((with_reducible refine gate_callee (f := 11) rfl ?_); refine goesL_ (some 6) rfl rfl Tryd.func11 (by kernel_rfl) rfl #[.int .i64 (a0.size : Int), .int .i64 1, .int .i64 48] rfl k5_ ?_; (with_reducible refine (spec_l1In.calls (a0.size : Int) 1 48 false _ A2.out).mono ?_); rintro e w' ⟨rfl, ⟨nd, rfl⟩⟩; refine ⟨_, rfl, ?_⟩))
  go_ret
  exact ⟨k15_, k13_⟩
end Go.Proofs.YtmflgmodknceeaaDoor.P
namespace Go.Proofs.YtmflgmodknceeaaDoor.P
open Go.RowKit Go.Proofs.YtmflgmodknceeaaDoorW.PrintWords Go.Proofs.YtmflgmodknceeaaDoorW.PrintLast Go.Proofs.YtmflgmodknceeaaDoorW.PrintMore
attribute [local go_sem] max2_int min2_int max_two min_two max_three min_three max_four min_four
set_option linter.unusedVariables false
set_option linter.unusedSimpArgs false
def spec_pzGood.f (k : Nat) (a0_0 : ByteArray) (a0_1 : Int) : Option (Bool) := (spec_pzPattern.f k a0_0).bind fun t102 => (if t102 = true then ((spec_l1In.f a0_1 0 3).bind fun t103 => (some t103)) else (some false))
set_option maxHeartbeats 8000000 in
set_option maxRecDepth 100000 in
theorem spec_pzGood.calls (k : Nat) (a0_0 : ByteArray) (a0_1 : Int) (r : Bool) (w : World) (h : spec_pzGood.f k a0_0 a0_1 = some r) :
  Calls Tryd.prog 9 #[.agg #[.string a0_0, .int .i64 a0_1]] w fun e w' => e = .returned (.bool r) ∧ Below w.heap.size w w' := by
 have hu23 := Tryd.underlying23
 have HB := Aside0.mk (Below.refl w.heap.size w)
 have H : ((spec_pzPattern.f k a0_0).bind fun t102 => (if t102 = true then ((spec_l1In.f a0_1 0 3).bind fun t103 => (some t103)) else (some false))) = some r := h
 clear h
 obtain ⟨t102, A2, H⟩ := obnd_ H
 (try dsimp only at H)
 by_cases c3 : t102 = true
 ·subst c3
  rw [if_pos rfl] at H
  obtain ⟨t103, A4, H⟩ := obnd_ H
  (try dsimp only at H)
  obtain rfl := Option.some.inj H
  go_enter Tryd.func9, Tryd.ntmps9
  go_wp2_with (first | ((with_reducible refine gate_dst (N := 1) rfl ?_); refine box_event ?hg (N := 1) ?hd (cs := #[.string a0_0, .int .i64 a0_1]) (t := 23) ?hr ?_; (case hd => rfl); (case hg => rfl); (case hr => exact k16_); intro gb101 hg w5 hbox hb; have BK101 := Aside0.mk (hbox); have GW101 := Aside0.mk (HB.ge hg); have GE101 := Aside0.mk (HB.ge hg); replace HB := HB.mw hb; clear hb hbox hg; have hcz6_0 : w5.cell? ⟨gb101, 0, none⟩ = some (.string a0_0) := (blk_cell BK101.out 0).trans rfl; have hcz6_1 : w5.cell? ⟨gb101, 1, none⟩ = some (.int .i64 a0_1) := (blk_cell BK101.out 1).trans rfl; have hfz6_0 := blk_frozen BK101.out 0; have hfz6_1 := blk_frozen BK101.out 1) | ((with_reducible refine gate_callee (f := 12) rfl ?_); refine goesL_ (some 5) rfl rfl Tryd.func12 (by kernel_rfl) rfl #[.string a0_0] rfl k5_ ?_; (with_reducible refine (spec_pzPattern.calls k a0_0 true _ A2.out).mono ?_); rintro e w' ⟨rfl, ⟨nd, rfl⟩⟩; refine ⟨_, rfl, ?_⟩) | (go_at_call 11; (with_reducible refine (spec_l1In.calls a0_1 0 3 t103 _ A4.out).mono ?_); rintro e w' ⟨rfl, ⟨nd, rfl⟩⟩))
  go_ret
  exact ⟨k7_, k8_⟩
 ·replace c3 := Bool.eq_false_iff.mpr c3
  subst c3
  rw [if_neg (show ¬ (false = true) by decide)] at H
  obtain rfl := Option.some.inj H
  go_enter Tryd.func9, Tryd.ntmps9
  go_wp2_with (first | ((with_reducible refine gate_dst (N := 1) rfl ?_); refine box_event ?hg (N := 1) ?hd (cs := #[.string a0_0, .int .i64 a0_1]) (t := 23) ?hr ?_; (case hd => rfl); (case hg => rfl); (case hr => exact k16_); intro gb101 hg w7 hbox hb; have BK101 := Aside0.mk (hbox); have GW101 := Aside0.mk (HB.ge hg); have GE101 := Aside0.mk (HB.ge hg); replace HB := HB.mw hb; clear hb hbox hg; have hcz8_0 : w7.cell? ⟨gb101, 0, none⟩ = some (.string a0_0) := (blk_cell BK101.out 0).trans rfl; have hcz8_1 : w7.cell? ⟨gb101, 1, none⟩ = some (.int .i64 a0_1) := (blk_cell BK101.out 1).trans rfl; have hfz8_0 := blk_frozen BK101.out 0; have hfz8_1 := blk_frozen BK101.out 1) | ((with_reducible refine gate_callee (f := 12) rfl ?_); refine goesL_ (some 5) rfl rfl Tryd.func12 (by kernel_rfl) rfl #[.string a0_0] rfl k5_ ?_; (with_reducible refine (spec_pzPattern.calls k a0_0 false _ A2.out).mono ?_); rintro e w' ⟨rfl, ⟨nd, rfl⟩⟩; refine ⟨_, rfl, ?_⟩))
  go_ret
  exact ⟨k7_, k8_⟩
end Go.Proofs.YtmflgmodknceeaaDoor.P
namespace Go.Proofs.YtmflgmodknceeaaDoor.P
open Go.RowKit Go.Proofs.YtmflgmodknceeaaDoorW.PrintWords Go.Proofs.YtmflgmodknceeaaDoorW.PrintLast Go.Proofs.YtmflgmodknceeaaDoorW.PrintMore
attribute [local go_sem] max2_int min2_int max_two min_two max_three min_three max_four min_four
set_option linter.unusedVariables false
set_option linter.unusedSimpArgs false
def spec_ParsePuzzle.j0 : Nat → List ByteArray → Bool → Option (ByteArray × Int × Bool)
 | 0, _, _ => none
 | k + 1, x4, x15 => if x15 = true then (some ((⟨#[]⟩ : ByteArray), 0, false)) else (if 0 < (x4.length : Int) then (if 1 < (x4.length : Int) then ((spec_l1Read.f k (rdOf ByteArray.empty x4 1)).bind fun t107 => ((spec_pzGood.f k (rdOf ByteArray.empty x4 0) t107).bind fun t109 => (if t109 = true then (some (rdOf ByteArray.empty x4 0, t107, true)) else (some ((⟨#[]⟩ : ByteArray), 0, false))))) else (none)) else (none))
def spec_ParsePuzzle.f (k : Nat) (a0 : ByteArray) : Option (ByteArray × Int × Bool) := (spec_l1Split.f k a0 58).bind fun t102 => (if (a0.size : Int) > 50 then (spec_ParsePuzzle.j0 k t102 true) else (spec_ParsePuzzle.j0 k t102 ((t102.length : Int) != 2)))
def spec_ParsePuzzle.T4 : Bool × List (List Nat × List Nat) := (true, [([], []), ([0], [0]), ([1], [1]), ([], []), ([3], [3]), ([4], [4]), ([5], [5]), ([2, 6], [2, 6]), ([], []), ([8, 7, 6, 0, 1, 2, 3, 4, 5, 6, 7, 8], [7, 8])])
def spec_ParsePuzzle.B4 : List Nat := [0, 1, 3, 0, 8, 24, 56, 127, 0, 511]
theorem spec_ParsePuzzle.tab4 : rtab .any (opsOf Tryd.f4 4) = spec_ParsePuzzle.T4 := by kernel_rfl
theorem spec_ParsePuzzle.bits4 : waitsOk spec_ParsePuzzle.T4.2 spec_ParsePuzzle.B4 = true := by kernel_rfl
set_option maxHeartbeats 8000000 in
set_option maxRecDepth 100000 in
theorem spec_ParsePuzzle.calls (k : Nat) (a0 : ByteArray) (r1 : ByteArray) (r2 : Int) (r3 : Bool) (w : World) (h : spec_ParsePuzzle.f k a0 = some (r1, r2, r3)) :
  Calls Tryd.prog 4 #[.string a0] w fun e w' => e = .returned (.tuple #[.agg #[.string r1, .int .i64 r2], .bool r3]) ∧ Below w.heap.size w w' := by
 have hu23 := Tryd.underlying23
 have HB := Aside0.mk (Below.refl w.heap.size w)
 have H : ((spec_l1Split.f k a0 58).bind fun t102 => (if (a0.size : Int) > 50 then (spec_ParsePuzzle.j0 k t102 true) else (spec_ParsePuzzle.j0 k t102 ((t102.length : Int) != 2)))) = some (r1, r2, r3) := h
 clear h
 obtain ⟨t102, A2, H⟩ := obnd_ H
 (try dsimp only at H)
 have HC3 := Aside0.mk H
 clear H
 go_enter Tryd.func4, Tryd.ntmps4
 go_upto_region 2 with (first | ((with_reducible refine gate_dst (N := 2) rfl ?_); (try (refine gate_guard (by rfl) ?_; dsimp only)); refine box_event ?hg (N := 2) ?hd (cs := #[.string (⟨#[]⟩ : ByteArray), .int .i64 0]) (t := 23) ?hr ?_; (case hd => rfl); (case hg => rfl); (case hr => exact k16_); intro gb101 hg w4 hbox hb; have BK101 := Aside0.mk (hbox); have GW101 := Aside0.mk (HB.ge hg); have GE101 := Aside0.mk (HB.ge hg); replace HB := HB.mw hb; clear hb hbox hg) | ((with_reducible refine gate_callee (f := 7) rfl ?_); refine goesL_ (some 7) rfl rfl Tryd.func7 (by kernel_rfl) rfl #[.string a0, .int .u8 58] rfl k5_ ?_; (with_reducible refine (spec_l1Split.calls k a0 58 t102 _ A2.out).mono ?_); rintro e w5 ⟨v103, rfl, ho0, hb⟩; refine ⟨_, rfl, ?_⟩; have HO104 := Aside0.mk (Kd.R_lower ho0 (below_size k8_)); replace BK101 := Aside0.mk (blk_below k12_ hb); replace HB := Aside0.mk (below_step k8_ hb); (try clear hb ho0)))
 (try simp only [Act.put, List.setIfInBounds_toArray, List.set_cons_zero, List.set_cons_succ])
 go_cut [15] (fun v15 wc => ∃ (kq : Nat) (x15_2 : Bool), v15 = .bool x15_2 ∧ Aside0 (spec_ParsePuzzle.j0 kq t102 x15_2 = some (r1, r2, r3)) ∧ Aside0 (kq ≤ k) ∧ Aside0 (Kd.R Kd.string 9 wc w.heap.size (fun _ => True) v103 t102) ∧ Aside0 (wc.heap[gb101]? = some (.cells #[.string (⟨#[]⟩ : ByteArray), .int .i64 0] 23 (0, 0))) ∧ Aside0 (Below w.heap.size w wc))
 case first =>
  have H := HC3.out
  clear HC3
  by_cases c6 : (a0.size : Int) > 50
  ·rw [if_pos c6] at H
   have c6b0 : decide (50 < (a0.size : Int)) = true := decide_eq_true c6
   have c6b1 : decide (50 < a0.size) = true := decide_eq_true (by omega)
   clear c6
   (first | rw [c6b0] | rw [c6b1] | (simp only [i64_w, i32_w]; rw [c6b0]) | skip)
   have H' := Aside0.mk H
   clear H
   go_wp2
   go_meet
   case rel => exact ⟨_, (true), k15_, H', ⟨by first | omega | exact Nat.le_refl _⟩, ⟨by apply_rules only [HO104.out, Kd.R_alloc, Kd.R_drewN, Kd.R_drew]⟩, ⟨k12_⟩, ⟨k8_⟩⟩
  ·rw [if_neg c6] at H
   have c6b0 : decide (50 < (a0.size : Int)) = false := decide_eq_false c6
   have c6b1 : decide (50 < a0.size) = false := decide_eq_false (by omega)
   clear c6
   (first | rw [c6b0] | rw [c6b1] | (simp only [i64_w, i32_w]; rw [c6b0]) | skip)
   have H' := Aside0.mk H
   clear H
   obtain ⟨Ao7, co7, eo7⟩ := Kd.R_slice HO104.out
   subst eo7
   go_wp2
   go_meet
   case rel => exact ⟨_, (((t102.length : Int) != 2)), k15_, H', ⟨by first | omega | exact Nat.le_refl _⟩, ⟨by apply_rules only [HO104.out, Kd.R_alloc, Kd.R_drewN, Kd.R_drew]⟩, ⟨k12_⟩, ⟨k8_⟩⟩
 case rest =>
  clear HC3
  obtain ⟨kq, x15_2, rfl, HA, HJ2, HO_4, BK101, HB⟩ := hcut
  cases kq with
  | zero => exact absurd HA.out (by simp [spec_ParsePuzzle.j0])
  | succ kj2 =>
   have H := HA.out
   clear HA
   simp only [spec_ParsePuzzle.j0] at H
   by_cases c8 : x15_2 = true
   ·subst c8
    rw [if_pos rfl] at H
    simp only [Option.some.injEq, Prod.mk.injEq] at H
    obtain ⟨rfl, rfl, rfl⟩ := H
    have hcz9_0 : wc.cell? ⟨gb101, 0, none⟩ = some (.string (⟨#[]⟩ : ByteArray)) := (blk_cell BK101.out 0).trans rfl
    have hcz9_1 : wc.cell? ⟨gb101, 1, none⟩ = some (.int .i64 0) := (blk_cell BK101.out 1).trans rfl
    have hfz9_0 := blk_frozen BK101.out 0
    have hfz9_1 := blk_frozen BK101.out 1
    go_wp2
    refine bodyPost_ret (results_ct rfl _ _ gb101 23 #[.string (⟨#[]⟩ : ByteArray), .int .i64 0] (0, 0) _ rfl k1_ Tryd.underlying23 rfl (by kernel_rfl)) rfl ?_
    exact ⟨k7_, k8_⟩
   ·replace c8 := Bool.eq_false_iff.mpr c8
    subst c8
    rw [if_neg (show ¬ (false = true) by decide)] at H
    by_cases c10 : 0 < (t102.length : Int)
    ·rw [if_pos c10] at H
     have c10b0 : decide (0 < (t102.length : Int)) = true := decide_eq_true c10
     have c10b1 : decide (0 < t102.length) = true := decide_eq_true (by omega)
     clear c10
     by_cases c11 : 1 < (t102.length : Int)
     ·rw [if_pos c11] at H
      have c11b0 : decide (1 < (t102.length : Int)) = true := decide_eq_true c11
      have c11b1 : decide (1 < t102.length) = true := decide_eq_true (by omega)
      clear c11
      obtain ⟨t107, A12, H⟩ := obnd_ H
      (try dsimp only at H)
      obtain ⟨t109, A13, H⟩ := obnd_ H
      (try dsimp only at H)
      by_cases c14 : t109 = true
      ·subst c14
       rw [if_pos rfl] at H
       simp only [Option.some.injEq, Prod.mk.injEq] at H
       obtain ⟨rfl, rfl, rfl⟩ := H
       try go_wp2
       replace HO_4 := Aside0.mk (Kd.R_drew HO_4.out)
       replace BK101 := Aside0.mk (blk_drew BK101.out)
       replace HB := Aside0.mk (below_drew1 HB.out)
       obtain ⟨Ao16, co16, eo16⟩ := Kd.R_slice HO_4.out
       (first | subst eo16 | (injection eo16 with f1_ f2_ f3_; have f4_ := f1_.symm; have f5_ := f3_.symm; clear f1_ f2_ f3_; subst f4_; subst f5_))
       have p105 : 0 ≤ (0 : Int) := (by omega)
       have q105 : 0 < (t102.length : Int) := of_decide_eq_true k14_
       obtain ⟨ad105, e105, hx105_0⟩ := Kd.at_string (Kd.R_reads' HO_4.out).2.2 0 p105 q105
       cases e105
       have qi105 : (0 < t102.length) = True := eq_true (by omega)
       (try rw [show ((0 : Int)).toNat = 0 from rfl] at hx105_0)
       (try rw [Addr.add_zero'] at hx105_0)
       replace p105 := eq_true p105
       replace q105 := eq_true q105
       have p106 : 0 ≤ (1 : Int) := (by omega)
       have q106 : 1 < (t102.length : Int) := of_decide_eq_true k14_
       obtain ⟨ad106, e106, hx106_0⟩ := Kd.at_string (Kd.R_reads' HO_4.out).2.2 1 p106 q106
       obtain rfl : ad105 = ad106 := (by injection e106)
       (try simp only [show (1 : Int).toNat = 1 from rfl, Nat.reduceMul, Nat.reduceEqDiff, Go.Addr.add, ↓reduceIte] at hx106_0)
       have qi106 : (1 < t102.length) = True := eq_true (by omega)
       (try rw [show ((1 : Int)).toNat = 1 from rfl] at hx106_0)
       replace p106 := eq_true p106
       replace q106 := eq_true q106
       refine start_ (n := 10) (S := fun w' => w'.cell? ad105 = some (.string (rdOf ByteArray.empty t102 0)) ∧ w'.cell? ⟨ad105.block, ad105.off + 1, none⟩ = some (.string (rdOf ByteArray.empty t102 1))) (ds := []) (rA_ [0, 10]) (by kernel_rfl) rfl rfl ⟨hx105_0, hx106_0⟩ (fun hHeld => ?_); refine with_tabW spec_ParsePuzzle.tab4 spec_ParsePuzzle.bits4 (fun HT_ HW_ => ?_)
       generalize wc.drew = w15 at HO_4 BK101 HB hx105_0 hx106_0 hHeld ⊢
       refine pu_ 0 17 [1, 9] ?_
       refine pu_ 1 18 [2, 8] ?_
       refine pu_ 3 20 [2, 1, 1, 6] ?_
       refine pu_ 4 21 [2, 1, 2, 5] ?_
       refine ta2_ 2 19 [5, 5] ?_
       refine ta2_ 5 22 [6, 4] ?_
       refine join_ (σ := Nat) 1 (rA_ [9, 1]) (fun s_ => [(23, .int .i64 t107), (5, .pointer (some ⟨s_, 0, none⟩)), (24, .agg #[.string (rdOf ByteArray.empty t102 0), .int .i64 t107])]) (fun s_ w' => (w'.cell? ad105 = some (.string (rdOf ByteArray.empty t102 0)) ∧ w'.cell? ⟨ad105.block, ad105.off + 1, none⟩ = some (.string (rdOf ByteArray.empty t102 1))) ∧ (Kd.R Kd.string 9 w' w.heap.size (fun _ => True) (.slice (some ad105) t102.length co16) t102) ∧ (w'.heap[gb101]? = some (.cells #[.string (⟨#[]⟩ : ByteArray), .int .i64 0] 23 (0, 0))) ∧ (w'.heap[s_]? = some (.cells #[.string (⟨#[]⟩ : ByteArray), .int .i64 0] 23 (0, 0))) ∧ (w.heap.size ≤ s_) ∧ (w.heap.size ≤ s_) ∧ (gb101 ≠ s_) ∧ (s_ ≠ gb101) ∧ (Below w.heap.size w w')) ?_ ?_
       rotate_left
       ·intro hCont
        refine two_ (i := 6) (j := 8) (Ni := some 23) (Nj := some 5) (rA_ [7, 3]) (rA_ [6, 2, 1, 1]) rfl rfl rfl rfl (two_of HT_.out (by kernel_rfl)) (by decide) (by decide) (fun K hK => ?_) (fun K hK => ?_)
        ·skip
         refine goes_ Tryd.func8 (by kernel_rfl) rfl #[.string (rdOf ByteArray.empty t102 1)] (by rfl) rfl rfl k5_ ?_
         with_reducible refine (spec_l1Read.calls kj2 (rdOf ByteArray.empty t102 1) t107 _ A12.out).mono ?_
         rintro e w' ⟨rfl, ⟨nd, rfl⟩⟩
         refine ⟨_, rfl, ?_⟩
         refine hK.out _ _ ⟨hHeld.1, hHeld.2⟩ (fun hHeld => ?_)
         clear hK K
         refine nm_ 23 ?_
         refine pu_ 7 24 [8, 2] ?_
         refine one_ (i := 8) (N := some 5) (rA_ [9, 1]) rfl rfl (one_of HT_.out (by kernel_rfl)) (by decide) (fun K hK => ?_)
         refine box_step ?hg (N := 5) ?hd (cs := #[.string (⟨#[]⟩ : ByteArray), .int .i64 0]) (t := 23) ?hr ?_; (case hd => rfl); (case hg => rfl); (case hr => exact k16_)
         intro gb108 hg w17 hbox hb
         have HS0_ := (hb.cell (World.block_lt_of_cell? _ _ (hHeld.1))).trans (hHeld.1)
         have HS1_ := (hb.cell (World.block_lt_of_cell? _ _ (hHeld.2))).trans (hHeld.2)
         replace HO_4 := HO_4.mw hb
         have BK108 := Aside0.mk (hbox)
         have GW108 := Aside0.mk ((by rw [hg]; exact (below_size k8_) : w.heap.size ≤ gb108))
         have GE108 := Aside0.mk ((by rw [hg]; exact (below_size k8_) : w.heap.size ≤ gb108))
         replace HB := Aside0.mk (below_step k8_ hb)
         have NB101_108 := Aside0.mk (BK101.ne hg)
         have NB108_101 := Aside0.mk (BK101.ne hg).symm
         replace BK101 := Aside0.mk (blk_below k12_ hb)
         clear hb hbox hg
         refine hK.out _ _ ⟨HS0_, HS1_⟩ (fun hHeld => ?_)
         clear hK K
         refine nm_ 5 ?_
         exact norm_ (by simp only [putAll, Act.put, List.setIfInBounds_toArray, List.set_cons_zero, List.set_cons_succ]) (hCont (gb108) _ ⟨hHeld, (by apply_rules only [HO_4.out, Kd.R_alloc, Kd.R_drewN, Kd.R_drew]), k12_, (by apply_rules only [BK108.out, blk_drewN, blk_drew, blk_alloc]), GW108.out, GE108.out, NB101_108.out, NB108_101.out, k6_⟩)
        ·skip
         refine box_step ?hg (N := 5) ?hd (cs := #[.string (⟨#[]⟩ : ByteArray), .int .i64 0]) (t := 23) ?hr ?_; (case hd => rfl); (case hg => rfl); (case hr => exact k16_)
         intro gb108 hg w17 hbox hb
         have HS0_ := (hb.cell (World.block_lt_of_cell? _ _ (hHeld.1))).trans (hHeld.1)
         have HS1_ := (hb.cell (World.block_lt_of_cell? _ _ (hHeld.2))).trans (hHeld.2)
         replace HO_4 := HO_4.mw hb
         have BK108 := Aside0.mk (hbox)
         have GW108 := Aside0.mk ((by rw [hg]; exact (below_size k8_) : w.heap.size ≤ gb108))
         have GE108 := Aside0.mk ((by rw [hg]; exact (below_size k8_) : w.heap.size ≤ gb108))
         replace HB := Aside0.mk (below_step k8_ hb)
         have NB101_108 := Aside0.mk (BK101.ne hg)
         have NB108_101 := Aside0.mk (BK101.ne hg).symm
         replace BK101 := Aside0.mk (blk_below k12_ hb)
         clear hb hbox hg
         refine hK.out _ _ ⟨HS0_, HS1_⟩ (fun hHeld => ?_)
         clear hK K
         refine nm_ 5 ?_
         refine one_ (i := 6) (N := some 23) (rA_ [7, 1, 1, 1]) rfl rfl (one_of HT_.out (by kernel_rfl)) (by decide) (fun K hK => ?_)
         refine goes_ Tryd.func8 (by kernel_rfl) rfl #[.string (rdOf ByteArray.empty t102 1)] (by rfl) rfl rfl k5_ ?_
         with_reducible refine (spec_l1Read.calls kj2 (rdOf ByteArray.empty t102 1) t107 _ A12.out).mono ?_
         rintro e w' ⟨rfl, ⟨nd, rfl⟩⟩
         refine ⟨_, rfl, ?_⟩
         refine hK.out _ _ ⟨hHeld.1, hHeld.2⟩ (fun hHeld => ?_)
         clear hK K
         refine nm_ 23 ?_
         refine pu_ 7 24 [9, 1] ?_
         exact norm_ (by simp only [putAll, Act.put, List.setIfInBounds_toArray, List.set_cons_zero, List.set_cons_succ]) (hCont (gb108) _ ⟨hHeld, (by apply_rules only [HO_4.out, Kd.R_alloc, Kd.R_drewN, Kd.R_drew]), k12_, (by apply_rules only [BK108.out, blk_drewN, blk_drew, blk_alloc]), GW108.out, GE108.out, NB101_108.out, NB108_101.out, k6_⟩)
       rintro gb108 w18 ⟨hS_, h0_, h1_, h2_, h3_, h4_, h5_, h6_, h7_⟩
       have n0_ : Aside0 (Kd.R Kd.string 9 w18 w.heap.size (fun _ => True) (.slice (some ad105) t102.length co16) t102) := ⟨h0_⟩
       have n1_ : Aside0 (w18.heap[gb101]? = some (.cells #[.string (⟨#[]⟩ : ByteArray), .int .i64 0] 23 (0, 0))) := ⟨h1_⟩
       have n2_ : Aside0 (w18.heap[gb108]? = some (.cells #[.string (⟨#[]⟩ : ByteArray), .int .i64 0] 23 (0, 0))) := ⟨h2_⟩
       have n3_ : Aside0 (w.heap.size ≤ gb108) := ⟨h3_⟩
       have n4_ : Aside0 (w.heap.size ≤ gb108) := ⟨h4_⟩
       have n5_ : Aside0 (gb101 ≠ gb108) := ⟨h5_⟩
       have n6_ : Aside0 (gb108 ≠ gb101) := ⟨h6_⟩
       have n7_ : Aside0 (Below w.heap.size w w18) := ⟨h7_⟩
       clear HO_4
       clear BK101
       clear HB
       clear h0_ h1_ h2_ h3_ h4_ h5_ h6_ h7_
       have HO_4 := n0_
       have BK101 := n1_
       have BK108 := n2_
       have GW108 := n3_
       have GE108 := n4_
       have NB101_108 := n5_
       have NB108_101 := n6_
       have HB := n7_
       clear n0_ n1_ n2_ n3_ n4_ n5_ n6_ n7_
       have hHeld : w18.cell? ad105 = some (.string (rdOf ByteArray.empty t102 0)) ∧ w18.cell? ⟨ad105.block, ad105.off + 1, none⟩ = some (.string (rdOf ByteArray.empty t102 1)) := hS_
       refine norm_ (a' := ?_) ?_ ?_
       rotate_left
       ·simp only [putAll, Act.put, List.setIfInBounds_toArray, List.set_cons_zero, List.set_cons_succ]
        rfl
       refine one_ (i := 9) (N := none) (rA_ [10]) rfl rfl (one_of HT_.out (by kernel_rfl)) (by decide) (fun K hK => ?_)
       have hs19 : w18.cell? ⟨gb108, 0, none⟩ = some (.string (⟨#[]⟩ : ByteArray)) := (blk_cell BK108.out 0).trans rfl
       have hfs19 := blk_frozen BK108.out 0
       have hns19_0 := NB101_108.out
       have hms19_0 := NB108_101.out
       have hs20 : w18.cell? ⟨gb108, 1, none⟩ = some (.int .i64 0) := (blk_cell BK108.out 1).trans rfl
       have hfs20 := blk_frozen BK108.out 1
       have hns20_0 := NB101_108.out
       have hms20_0 := NB108_101.out
       refine skip_ (w1 := ?_) (by rfl) rfl ?_ ?_
       rotate_left
       ·go_simp
        rfl
       refine hK.out _ _ ⟨((cell_far (p := ⟨gb108, _, none⟩) k4_ _).trans (((cell_far (p := ⟨gb108, _, none⟩) k4_ _).trans (hHeld.1)))), ((cell_far (p := ⟨gb108, _, none⟩) k4_ _).trans (((cell_far (p := ⟨gb108, _, none⟩) k4_ _).trans (hHeld.2))))⟩ (fun hHeld => ?_)
       clear hK K
       refine done_ (done_of HT_.out (by kernel_rfl)) ?_
       have hnb21 := NB108_101.out
       have hnc21 := NB101_108.out
       have hcz22_0 : w18.cell? ⟨gb108, 0, none⟩ = some (.string (⟨#[]⟩ : ByteArray)) := (blk_cell BK108.out 0).trans rfl
       have hcz22_1 : w18.cell? ⟨gb108, 1, none⟩ = some (.int .i64 0) := (blk_cell BK108.out 1).trans rfl
       have hfz22_0 := blk_frozen BK108.out 0
       have hfz22_1 := blk_frozen BK108.out 1
       try go_wp2_with (first | ((with_reducible refine gate_callee (f := 9) rfl ?_); refine goesL_ (some 26) rfl rfl Tryd.func9 (by kernel_rfl) rfl #[.agg #[.string (rdOf ByteArray.empty t102 0), .int .i64 t107]] rfl k5_ ?_; (with_reducible refine (spec_pzGood.calls kj2 (rdOf ByteArray.empty t102 0) t107 true _ A13.out).mono ?_); rintro e w23 ⟨rfl, hb⟩; refine ⟨_, rfl, ?_⟩; replace HO_4 := Aside0.mk (Kd.R_below k2_ hb); replace BK101 := Aside0.mk (blk_below (g := gb101) (o := .cells #[.string (⟨#[]⟩ : ByteArray), .int .i64 0] 23 (0, 0)) k3_ hb); replace BK108 := Aside0.mk (blk_below (g := gb108) (o := .cells #[.string (rdOf ByteArray.empty t102 0), .int .i64 t107] 23 (0, 0)) k0_ hb); replace HB := Aside0.mk (below_step k6_ hb); (try clear hb); have hcz24_0 : w23.cell? ⟨gb108, 0, none⟩ = some (.string (rdOf ByteArray.empty t102 0)) := (blk_cell BK108.out 0).trans rfl; have hcz24_1 : w23.cell? ⟨gb108, 1, none⟩ = some (.int .i64 t107) := (blk_cell BK108.out 1).trans rfl; have hfz24_0 := blk_frozen BK108.out 0; have hfz24_1 := blk_frozen BK108.out 1; have hcz25_0 : w23.cell? ⟨gb101, 0, none⟩ = some (.string (⟨#[]⟩ : ByteArray)) := (blk_cell BK101.out 0).trans rfl; have hcz25_1 : w23.cell? ⟨gb101, 1, none⟩ = some (.int .i64 0) := (blk_cell BK101.out 1).trans rfl; have hfz25_0 := blk_frozen BK101.out 0; have hfz25_1 := blk_frozen BK101.out 1))
       refine bodyPost_ret (results_ct rfl _ _ gb101 23 #[.string (rdOf ByteArray.empty t102 0), .int .i64 t107] (0, 0) _ rfl (by (with_reducible repeat (first | refine blk_drewN ?_ _ | refine blk_drew ?_ | refine blk_alloc ?_ _)); refine blk_put (cs := #[.string (rdOf ByteArray.empty t102 0), .int .i64 0]) ?_ 1 _ rfl; (with_reducible repeat (first | refine blk_drewN ?_ _ | refine blk_drew ?_ | refine blk_alloc ?_ _)); refine blk_put (cs := #[.string (⟨#[]⟩ : ByteArray), .int .i64 0]) ?_ 0 _ rfl; apply_rules only [BK101.out, blk_drewN, blk_drew, blk_alloc]) Tryd.underlying23 rfl (by kernel_rfl)) rfl ?_
       exact ⟨k7_, k6_⟩
      ·replace c14 := Bool.eq_false_iff.mpr c14
       subst c14
       rw [if_neg (show ¬ (false = true) by decide)] at H
       simp only [Option.some.injEq, Prod.mk.injEq] at H
       obtain ⟨rfl, rfl, rfl⟩ := H
       try go_wp2
       replace HO_4 := Aside0.mk (Kd.R_drew HO_4.out)
       replace BK101 := Aside0.mk (blk_drew BK101.out)
       replace HB := Aside0.mk (below_drew1 HB.out)
       obtain ⟨Ao27, co27, eo27⟩ := Kd.R_slice HO_4.out
       (first | subst eo27 | (injection eo27 with f1_ f2_ f3_; have f4_ := f1_.symm; have f5_ := f3_.symm; clear f1_ f2_ f3_; subst f4_; subst f5_))
       have p105 : 0 ≤ (0 : Int) := (by omega)
       have q105 : 0 < (t102.length : Int) := of_decide_eq_true k14_
       obtain ⟨ad105, e105, hx105_0⟩ := Kd.at_string (Kd.R_reads' HO_4.out).2.2 0 p105 q105
       cases e105
       have qi105 : (0 < t102.length) = True := eq_true (by omega)
       (try rw [show ((0 : Int)).toNat = 0 from rfl] at hx105_0)
       (try rw [Addr.add_zero'] at hx105_0)
       replace p105 := eq_true p105
       replace q105 := eq_true q105
       have p106 : 0 ≤ (1 : Int) := (by omega)
       have q106 : 1 < (t102.length : Int) := of_decide_eq_true k14_
       obtain ⟨ad106, e106, hx106_0⟩ := Kd.at_string (Kd.R_reads' HO_4.out).2.2 1 p106 q106
       obtain rfl : ad105 = ad106 := (by injection e106)
       (try simp only [show (1 : Int).toNat = 1 from rfl, Nat.reduceMul, Nat.reduceEqDiff, Go.Addr.add, ↓reduceIte] at hx106_0)
       have qi106 : (1 < t102.length) = True := eq_true (by omega)
       (try rw [show ((1 : Int)).toNat = 1 from rfl] at hx106_0)
       replace p106 := eq_true p106
       replace q106 := eq_true q106
       refine start_ (n := 10) (S := fun w' => w'.cell? ad105 = some (.string (rdOf ByteArray.empty t102 0)) ∧ w'.cell? ⟨ad105.block, ad105.off + 1, none⟩ = some (.string (rdOf ByteArray.empty t102 1))) (ds := []) (rA_ [0, 10]) (by kernel_rfl) rfl rfl ⟨hx105_0, hx106_0⟩ (fun hHeld => ?_); refine with_tabW spec_ParsePuzzle.tab4 spec_ParsePuzzle.bits4 (fun HT_ HW_ => ?_)
       generalize wc.drew = w26 at HO_4 BK101 HB hx105_0 hx106_0 hHeld ⊢
       refine pu_ 0 17 [1, 9] ?_
       refine pu_ 1 18 [2, 8] ?_
       refine pu_ 3 20 [2, 1, 1, 6] ?_
       refine pu_ 4 21 [2, 1, 2, 5] ?_
       refine ta2_ 2 19 [5, 5] ?_
       refine ta2_ 5 22 [6, 4] ?_
       refine join_ (σ := Nat) 1 (rA_ [9, 1]) (fun s_ => [(23, .int .i64 t107), (5, .pointer (some ⟨s_, 0, none⟩)), (24, .agg #[.string (rdOf ByteArray.empty t102 0), .int .i64 t107])]) (fun s_ w' => (w'.cell? ad105 = some (.string (rdOf ByteArray.empty t102 0)) ∧ w'.cell? ⟨ad105.block, ad105.off + 1, none⟩ = some (.string (rdOf ByteArray.empty t102 1))) ∧ (Kd.R Kd.string 9 w' w.heap.size (fun _ => True) (.slice (some ad105) t102.length co27) t102) ∧ (w'.heap[gb101]? = some (.cells #[.string (⟨#[]⟩ : ByteArray), .int .i64 0] 23 (0, 0))) ∧ (w'.heap[s_]? = some (.cells #[.string (⟨#[]⟩ : ByteArray), .int .i64 0] 23 (0, 0))) ∧ (w.heap.size ≤ s_) ∧ (w.heap.size ≤ s_) ∧ (gb101 ≠ s_) ∧ (s_ ≠ gb101) ∧ (Below w.heap.size w w')) ?_ ?_
       rotate_left
       ·intro hCont
        refine two_ (i := 6) (j := 8) (Ni := some 23) (Nj := some 5) (rA_ [7, 3]) (rA_ [6, 2, 1, 1]) rfl rfl rfl rfl (two_of HT_.out (by kernel_rfl)) (by decide) (by decide) (fun K hK => ?_) (fun K hK => ?_)
        ·skip
         refine goes_ Tryd.func8 (by kernel_rfl) rfl #[.string (rdOf ByteArray.empty t102 1)] (by rfl) rfl rfl k5_ ?_
         with_reducible refine (spec_l1Read.calls kj2 (rdOf ByteArray.empty t102 1) t107 _ A12.out).mono ?_
         rintro e w' ⟨rfl, ⟨nd, rfl⟩⟩
         refine ⟨_, rfl, ?_⟩
         refine hK.out _ _ ⟨hHeld.1, hHeld.2⟩ (fun hHeld => ?_)
         clear hK K
         refine nm_ 23 ?_
         refine pu_ 7 24 [8, 2] ?_
         refine one_ (i := 8) (N := some 5) (rA_ [9, 1]) rfl rfl (one_of HT_.out (by kernel_rfl)) (by decide) (fun K hK => ?_)
         refine box_step ?hg (N := 5) ?hd (cs := #[.string (⟨#[]⟩ : ByteArray), .int .i64 0]) (t := 23) ?hr ?_; (case hd => rfl); (case hg => rfl); (case hr => exact k16_)
         intro gb108 hg w28 hbox hb
         have HS0_ := (hb.cell (World.block_lt_of_cell? _ _ (hHeld.1))).trans (hHeld.1)
         have HS1_ := (hb.cell (World.block_lt_of_cell? _ _ (hHeld.2))).trans (hHeld.2)
         replace HO_4 := HO_4.mw hb
         have BK108 := Aside0.mk (hbox)
         have GW108 := Aside0.mk ((by rw [hg]; exact (below_size k8_) : w.heap.size ≤ gb108))
         have GE108 := Aside0.mk ((by rw [hg]; exact (below_size k8_) : w.heap.size ≤ gb108))
         replace HB := Aside0.mk (below_step k8_ hb)
         have NB101_108 := Aside0.mk (BK101.ne hg)
         have NB108_101 := Aside0.mk (BK101.ne hg).symm
         replace BK101 := Aside0.mk (blk_below k12_ hb)
         clear hb hbox hg
         refine hK.out _ _ ⟨HS0_, HS1_⟩ (fun hHeld => ?_)
         clear hK K
         refine nm_ 5 ?_
         exact norm_ (by simp only [putAll, Act.put, List.setIfInBounds_toArray, List.set_cons_zero, List.set_cons_succ]) (hCont (gb108) _ ⟨hHeld, (by apply_rules only [HO_4.out, Kd.R_alloc, Kd.R_drewN, Kd.R_drew]), k12_, (by apply_rules only [BK108.out, blk_drewN, blk_drew, blk_alloc]), GW108.out, GE108.out, NB101_108.out, NB108_101.out, k6_⟩)
        ·skip
         refine box_step ?hg (N := 5) ?hd (cs := #[.string (⟨#[]⟩ : ByteArray), .int .i64 0]) (t := 23) ?hr ?_; (case hd => rfl); (case hg => rfl); (case hr => exact k16_)
         intro gb108 hg w28 hbox hb
         have HS0_ := (hb.cell (World.block_lt_of_cell? _ _ (hHeld.1))).trans (hHeld.1)
         have HS1_ := (hb.cell (World.block_lt_of_cell? _ _ (hHeld.2))).trans (hHeld.2)
         replace HO_4 := HO_4.mw hb
         have BK108 := Aside0.mk (hbox)
         have GW108 := Aside0.mk ((by rw [hg]; exact (below_size k8_) : w.heap.size ≤ gb108))
         have GE108 := Aside0.mk ((by rw [hg]; exact (below_size k8_) : w.heap.size ≤ gb108))
         replace HB := Aside0.mk (below_step k8_ hb)
         have NB101_108 := Aside0.mk (BK101.ne hg)
         have NB108_101 := Aside0.mk (BK101.ne hg).symm
         replace BK101 := Aside0.mk (blk_below k12_ hb)
         clear hb hbox hg
         refine hK.out _ _ ⟨HS0_, HS1_⟩ (fun hHeld => ?_)
         clear hK K
         refine nm_ 5 ?_
         refine one_ (i := 6) (N := some 23) (rA_ [7, 1, 1, 1]) rfl rfl (one_of HT_.out (by kernel_rfl)) (by decide) (fun K hK => ?_)
         refine goes_ Tryd.func8 (by kernel_rfl) rfl #[.string (rdOf ByteArray.empty t102 1)] (by rfl) rfl rfl k5_ ?_
         with_reducible refine (spec_l1Read.calls kj2 (rdOf ByteArray.empty t102 1) t107 _ A12.out).mono ?_
         rintro e w' ⟨rfl, ⟨nd, rfl⟩⟩
         refine ⟨_, rfl, ?_⟩
         refine hK.out _ _ ⟨hHeld.1, hHeld.2⟩ (fun hHeld => ?_)
         clear hK K
         refine nm_ 23 ?_
         refine pu_ 7 24 [9, 1] ?_
         exact norm_ (by simp only [putAll, Act.put, List.setIfInBounds_toArray, List.set_cons_zero, List.set_cons_succ]) (hCont (gb108) _ ⟨hHeld, (by apply_rules only [HO_4.out, Kd.R_alloc, Kd.R_drewN, Kd.R_drew]), k12_, (by apply_rules only [BK108.out, blk_drewN, blk_drew, blk_alloc]), GW108.out, GE108.out, NB101_108.out, NB108_101.out, k6_⟩)
       rintro gb108 w29 ⟨hS_, h0_, h1_, h2_, h3_, h4_, h5_, h6_, h7_⟩
       have n0_ : Aside0 (Kd.R Kd.string 9 w29 w.heap.size (fun _ => True) (.slice (some ad105) t102.length co27) t102) := ⟨h0_⟩
       have n1_ : Aside0 (w29.heap[gb101]? = some (.cells #[.string (⟨#[]⟩ : ByteArray), .int .i64 0] 23 (0, 0))) := ⟨h1_⟩
       have n2_ : Aside0 (w29.heap[gb108]? = some (.cells #[.string (⟨#[]⟩ : ByteArray), .int .i64 0] 23 (0, 0))) := ⟨h2_⟩
       have n3_ : Aside0 (w.heap.size ≤ gb108) := ⟨h3_⟩
       have n4_ : Aside0 (w.heap.size ≤ gb108) := ⟨h4_⟩
       have n5_ : Aside0 (gb101 ≠ gb108) := ⟨h5_⟩
       have n6_ : Aside0 (gb108 ≠ gb101) := ⟨h6_⟩
       have n7_ : Aside0 (Below w.heap.size w w29) := ⟨h7_⟩
       clear HO_4
       clear BK101
       clear HB
       clear h0_ h1_ h2_ h3_ h4_ h5_ h6_ h7_
       have HO_4 := n0_
       have BK101 := n1_
       have BK108 := n2_
       have GW108 := n3_
       have GE108 := n4_
       have NB101_108 := n5_
       have NB108_101 := n6_
       have HB := n7_
       clear n0_ n1_ n2_ n3_ n4_ n5_ n6_ n7_
       have hHeld : w29.cell? ad105 = some (.string (rdOf ByteArray.empty t102 0)) ∧ w29.cell? ⟨ad105.block, ad105.off + 1, none⟩ = some (.string (rdOf ByteArray.empty t102 1)) := hS_
       refine norm_ (a' := ?_) ?_ ?_
       rotate_left
       ·simp only [putAll, Act.put, List.setIfInBounds_toArray, List.set_cons_zero, List.set_cons_succ]
        rfl
       refine one_ (i := 9) (N := none) (rA_ [10]) rfl rfl (one_of HT_.out (by kernel_rfl)) (by decide) (fun K hK => ?_)
       have hs30 : w29.cell? ⟨gb108, 0, none⟩ = some (.string (⟨#[]⟩ : ByteArray)) := (blk_cell BK108.out 0).trans rfl
       have hfs30 := blk_frozen BK108.out 0
       have hns30_0 := NB101_108.out
       have hms30_0 := NB108_101.out
       have hs31 : w29.cell? ⟨gb108, 1, none⟩ = some (.int .i64 0) := (blk_cell BK108.out 1).trans rfl
       have hfs31 := blk_frozen BK108.out 1
       have hns31_0 := NB101_108.out
       have hms31_0 := NB108_101.out
       refine skip_ (w1 := ?_) (by rfl) rfl ?_ ?_
       rotate_left
       ·go_simp
        rfl
       refine hK.out _ _ ⟨((cell_far (p := ⟨gb108, _, none⟩) k4_ _).trans (((cell_far (p := ⟨gb108, _, none⟩) k4_ _).trans (hHeld.1)))), ((cell_far (p := ⟨gb108, _, none⟩) k4_ _).trans (((cell_far (p := ⟨gb108, _, none⟩) k4_ _).trans (hHeld.2))))⟩ (fun hHeld => ?_)
       clear hK K
       refine done_ (done_of HT_.out (by kernel_rfl)) ?_
       have hnb32 := NB108_101.out
       have hnc32 := NB101_108.out
       have hcz33_0 : w29.cell? ⟨gb108, 0, none⟩ = some (.string (⟨#[]⟩ : ByteArray)) := (blk_cell BK108.out 0).trans rfl
       have hcz33_1 : w29.cell? ⟨gb108, 1, none⟩ = some (.int .i64 0) := (blk_cell BK108.out 1).trans rfl
       have hfz33_0 := blk_frozen BK108.out 0
       have hfz33_1 := blk_frozen BK108.out 1
       try go_wp2_with (first | ((with_reducible refine gate_callee (f := 9) rfl ?_); refine goesL_ (some 26) rfl rfl Tryd.func9 (by kernel_rfl) rfl #[.agg #[.string (rdOf ByteArray.empty t102 0), .int .i64 t107]] rfl k5_ ?_; (with_reducible refine (spec_pzGood.calls kj2 (rdOf ByteArray.empty t102 0) t107 false _ A13.out).mono ?_); rintro e w34 ⟨rfl, hb⟩; refine ⟨_, rfl, ?_⟩; replace HO_4 := Aside0.mk (Kd.R_below k2_ hb); replace BK101 := Aside0.mk (blk_below (g := gb101) (o := .cells #[.string (⟨#[]⟩ : ByteArray), .int .i64 0] 23 (0, 0)) k3_ hb); replace BK108 := Aside0.mk (blk_below (g := gb108) (o := .cells #[.string (rdOf ByteArray.empty t102 0), .int .i64 t107] 23 (0, 0)) k0_ hb); replace HB := Aside0.mk (below_step k6_ hb); (try clear hb); have hcz35_0 : w34.cell? ⟨gb101, 0, none⟩ = some (.string (⟨#[]⟩ : ByteArray)) := (blk_cell BK101.out 0).trans rfl; have hcz35_1 : w34.cell? ⟨gb101, 1, none⟩ = some (.int .i64 0) := (blk_cell BK101.out 1).trans rfl; have hfz35_0 := blk_frozen BK101.out 0; have hfz35_1 := blk_frozen BK101.out 1))
       refine bodyPost_ret (results_ct rfl _ _ gb101 23 #[.string (⟨#[]⟩ : ByteArray), .int .i64 0] (0, 0) _ rfl k1_ Tryd.underlying23 rfl (by kernel_rfl)) rfl ?_
       exact ⟨k7_, k6_⟩
     ·rw [if_neg c11] at H
      exact absurd H (by simp)
    ·rw [if_neg c10] at H
     exact absurd H (by simp)
end Go.Proofs.YtmflgmodknceeaaDoor.P
namespace Go.Proofs.YtmflgmodknceeaaDoor.P
open Go.RowKit Go.Proofs.YtmflgmodknceeaaDoorW.PrintWords Go.Proofs.YtmflgmodknceeaaDoorW.PrintLast Go.Proofs.YtmflgmodknceeaaDoorW.PrintMore
attribute [local go_sem] max2_int min2_int max_two min_two max_three min_three max_four min_four
set_option linter.unusedVariables false
set_option linter.unusedSimpArgs false
def impl_ParsePuzzle.f (a0 : ByteArray) : Option (ByteArray × Int × Bool) := (impl_parsePuzzle.f a0).bind fun bt102 => (some (bt102.1, bt102.2.1, bt102.2.2))
set_option maxHeartbeats 8000000 in
set_option maxRecDepth 100000 in
theorem impl_ParsePuzzle.calls (a0 : ByteArray) (r1 : ByteArray) (r2 : Int) (r3 : Bool) (w : World) (h : impl_ParsePuzzle.f a0 = some (r1, r2, r3)) (hG : GlobOk w) :
  Calls Tryd.prog 5 #[.string a0] w fun e w' => e = .returned (.tuple #[.agg #[.string r1, .int .i64 r2], .bool r3]) ∧ Below w.heap.size w w' := by
 have hu23 := Tryd.underlying23
 have HB := Aside0.mk (Below.refl w.heap.size w)
 have HG := Aside0.mk hG
 clear hG
 have H : ((impl_parsePuzzle.f a0).bind fun bt102 => (some (bt102.1, bt102.2.1, bt102.2.2))) = some (r1, r2, r3) := h
 clear h
 obtain ⟨⟨t102, t103, t104⟩, A2, H⟩ := obnd_ H
 (try dsimp only at H)
 simp only [Option.some.injEq, Prod.mk.injEq] at H
 obtain ⟨rfl, rfl, rfl⟩ := H
 go_enter Tryd.func5, Tryd.ntmps5
 go_wp2_with (first | ((with_reducible refine gate_dst (N := 2) rfl ?_); refine box_event ?hg (N := 2) ?hd (cs := #[.string (⟨#[]⟩ : ByteArray), .int .i64 0]) (t := 23) ?hr ?_; (case hd => rfl); (case hg => rfl); (case hr => exact k16_); intro gb101 hg w3 hbox hb; have BK101 := Aside0.mk (hbox); have GW101 := Aside0.mk (HB.ge hg); have GE101 := Aside0.mk (HB.ge hg); replace HB := HB.mw hb; clear hb hbox hg) | ((with_reducible refine gate_callee (f := 10) rfl ?_); refine goesL_ (some 5) rfl rfl Tryd.func10 (by kernel_rfl) rfl #[.string a0] rfl k5_ ?_; (refine (impl_parsePuzzle.calls a0 t102 t103 t104 _ A2.out (GlobOk.below HG.out k8_)).mono ?_); rintro e w4 ⟨rfl, hb⟩; refine ⟨_, rfl, ?_⟩; replace BK101 := Aside0.mk (blk_below k12_ hb); replace HB := Aside0.mk (below_step k8_ hb); (try clear hb); have hcz5_0 : w4.cell? ⟨gb101, 0, none⟩ = some (.string (⟨#[]⟩ : ByteArray)) := (blk_cell BK101.out 0).trans rfl; have hcz5_1 : w4.cell? ⟨gb101, 1, none⟩ = some (.int .i64 0) := (blk_cell BK101.out 1).trans rfl; have hfz5_0 := blk_frozen BK101.out 0; have hfz5_1 := blk_frozen BK101.out 1))
 refine bodyPost_ret (results_ct rfl _ _ gb101 23 #[.string t102, .int .i64 t103] (0, 0) _ rfl (by (with_reducible repeat (first | refine blk_drewN ?_ _ | refine blk_drew ?_ | refine blk_alloc ?_ _)); refine blk_put (cs := #[.string t102, .int .i64 0]) ?_ 1 _ rfl; (with_reducible repeat (first | refine blk_drewN ?_ _ | refine blk_drew ?_ | refine blk_alloc ?_ _)); refine blk_put (cs := #[.string (⟨#[]⟩ : ByteArray), .int .i64 0]) ?_ 0 _ rfl; apply_rules only [BK101.out, blk_drewN, blk_drew, blk_alloc]) Tryd.underlying23 rfl (by kernel_rfl)) rfl ?_
 exact ⟨k7_, k8_⟩
end Go.Proofs.YtmflgmodknceeaaDoor.P
namespace Go.Proofs.YtmflgmodknceeaaDoor.P
open Go.RowKit Go.Proofs.YtmflgmodknceeaaDoorW.PrintWords Go.Proofs.YtmflgmodknceeaaDoorW.PrintLast Go.Proofs.YtmflgmodknceeaaDoorW.PrintMore
attribute [local go_sem] max2_int min2_int max_two min_two max_three min_three max_four min_four
set_option linter.unusedVariables false
set_option linter.unusedSimpArgs false
def laws_eqPuzzle.f (a0_0 : ByteArray) (a0_1 : Int) (a1_0 : ByteArray) (a1_1 : Int) : Option (Bool) := if a0_0.toList = a1_0.toList then (if a0_1 = a1_1 then (some true) else (some false)) else (some false)
set_option maxHeartbeats 8000000 in
set_option maxRecDepth 100000 in
theorem laws_eqPuzzle.calls (a0_0 : ByteArray) (a0_1 : Int) (a1_0 : ByteArray) (a1_1 : Int) (r : Bool) (w : World) (h : laws_eqPuzzle.f a0_0 a0_1 a1_0 a1_1 = some r) :
  Calls Tryd.prog 6 #[.agg #[.string a0_0, .int .i64 a0_1], .agg #[.string a1_0, .int .i64 a1_1]] w fun e w' => e = .returned (.bool r) ∧ Below w.heap.size w w' := by
 have hu23 := Tryd.underlying23
 have HB := Aside0.mk (Below.refl w.heap.size w)
 have H : (if a0_0.toList = a1_0.toList then (if a0_1 = a1_1 then (some true) else (some false)) else (some false)) = some r := h
 clear h
 by_cases c3 : a0_0.toList = a1_0.toList
 ·rw [if_pos c3] at H
  have c3b0 : (a0_0.toList == a1_0.toList) = true := beq_iff_eq.mpr c3
  have c3b1 : (a0_0.toList != a1_0.toList) = false := bne_eq_false_iff_eq.mpr c3
  clear c3
  by_cases c4 : a0_1 = a1_1
  ·rw [if_pos c4] at H
   have c4b0 : (a0_1 == a1_1) = true := beq_iff_eq.mpr c4
   have c4b1 : (a0_1 != a1_1) = false := bne_eq_false_iff_eq.mpr c4
   clear c4
   obtain rfl := Option.some.inj H
   go_enter Tryd.func6, Tryd.ntmps6
   go_wp2_with (first | ((with_reducible refine gate_dst (N := 2) rfl ?_); refine box_event ?hg (N := 2) ?hd (cs := #[.string a0_0, .int .i64 a0_1]) (t := 23) ?hr ?_; (case hd => rfl); (case hg => rfl); (case hr => exact k16_); intro gb101 hg w5 hbox hb; have BK101 := Aside0.mk (hbox); have GW101 := Aside0.mk (HB.ge hg); have GE101 := Aside0.mk (HB.ge hg); replace HB := HB.mw hb; clear hb hbox hg) | ((with_reducible refine gate_dst (N := 3) rfl ?_); refine box_event ?hg (N := 3) ?hd (cs := #[.string a1_0, .int .i64 a1_1]) (t := 23) ?hr ?_; (case hd => rfl); (case hg => rfl); (case hr => exact k16_); intro gb102 hg w6 hbox hb; have BK102 := Aside0.mk (hbox); have GW102 := Aside0.mk ((by rw [hg]; exact (below_size k8_) : w.heap.size ≤ gb102)); have GE102 := Aside0.mk ((by rw [hg]; exact (below_size k8_) : w.heap.size ≤ gb102)); replace HB := Aside0.mk (below_step k8_ hb); have NB101_102 := Aside0.mk (BK101.ne hg); have NB102_101 := Aside0.mk (BK101.ne hg).symm; replace BK101 := BK101.mw hb; clear hb hbox hg; have hnb7 := NB101_102.out; have hnc7 := NB102_101.out; have hcz8_0 : w6.cell? ⟨gb101, 0, none⟩ = some (.string a0_0) := (blk_cell BK101.out 0).trans rfl; have hcz8_1 : w6.cell? ⟨gb101, 1, none⟩ = some (.int .i64 a0_1) := (blk_cell BK101.out 1).trans rfl; have hfz8_0 := blk_frozen BK101.out 0; have hfz8_1 := blk_frozen BK101.out 1; have hcz9_0 : w6.cell? ⟨gb102, 0, none⟩ = some (.string a1_0) := (blk_cell BK102.out 0).trans rfl; have hcz9_1 : w6.cell? ⟨gb102, 1, none⟩ = some (.int .i64 a1_1) := (blk_cell BK102.out 1).trans rfl; have hfz9_0 := blk_frozen BK102.out 0; have hfz9_1 := blk_frozen BK102.out 1))
   go_ret
   exact ⟨k7_, by apply_rules only [HB.out, below_alloc, pw_below_drewN, below_drew1, below_set, GE101.out, GE102.out]⟩
  ·rw [if_neg c4] at H
   have c4b0 : (a0_1 == a1_1) = false := beq_eq_false_iff_ne.mpr c4
   have c4b1 : (a0_1 != a1_1) = true := bne_iff_ne.mpr c4
   obtain rfl := Option.some.inj H
   go_enter Tryd.func6, Tryd.ntmps6
   go_wp2_with (first | ((with_reducible refine gate_dst (N := 2) rfl ?_); refine box_event ?hg (N := 2) ?hd (cs := #[.string a0_0, .int .i64 a0_1]) (t := 23) ?hr ?_; (case hd => rfl); (case hg => rfl); (case hr => exact k16_); intro gb101 hg w10 hbox hb; have BK101 := Aside0.mk (hbox); have GW101 := Aside0.mk (HB.ge hg); have GE101 := Aside0.mk (HB.ge hg); replace HB := HB.mw hb; clear hb hbox hg) | ((with_reducible refine gate_dst (N := 3) rfl ?_); refine box_event ?hg (N := 3) ?hd (cs := #[.string a1_0, .int .i64 a1_1]) (t := 23) ?hr ?_; (case hd => rfl); (case hg => rfl); (case hr => exact k16_); intro gb102 hg w11 hbox hb; have BK102 := Aside0.mk (hbox); have GW102 := Aside0.mk ((by rw [hg]; exact (below_size k8_) : w.heap.size ≤ gb102)); have GE102 := Aside0.mk ((by rw [hg]; exact (below_size k8_) : w.heap.size ≤ gb102)); replace HB := Aside0.mk (below_step k8_ hb); have NB101_102 := Aside0.mk (BK101.ne hg); have NB102_101 := Aside0.mk (BK101.ne hg).symm; replace BK101 := BK101.mw hb; clear hb hbox hg; have hnb12 := NB101_102.out; have hnc12 := NB102_101.out; have hcz13_0 : w11.cell? ⟨gb101, 0, none⟩ = some (.string a0_0) := (blk_cell BK101.out 0).trans rfl; have hcz13_1 : w11.cell? ⟨gb101, 1, none⟩ = some (.int .i64 a0_1) := (blk_cell BK101.out 1).trans rfl; have hfz13_0 := blk_frozen BK101.out 0; have hfz13_1 := blk_frozen BK101.out 1; have hcz14_0 : w11.cell? ⟨gb102, 0, none⟩ = some (.string a1_0) := (blk_cell BK102.out 0).trans rfl; have hcz14_1 : w11.cell? ⟨gb102, 1, none⟩ = some (.int .i64 a1_1) := (blk_cell BK102.out 1).trans rfl; have hfz14_0 := blk_frozen BK102.out 0; have hfz14_1 := blk_frozen BK102.out 1))
   go_ret
   exact ⟨k7_, by apply_rules only [HB.out, below_alloc, pw_below_drewN, below_drew1, below_set, GE101.out, GE102.out]⟩
 ·rw [if_neg c3] at H
  have c3b0 : (a0_0.toList == a1_0.toList) = false := beq_eq_false_iff_ne.mpr c3
  have c3b1 : (a0_0.toList != a1_0.toList) = true := bne_iff_ne.mpr c3
  obtain rfl := Option.some.inj H
  go_enter Tryd.func6, Tryd.ntmps6
  go_wp2_with (first | ((with_reducible refine gate_dst (N := 2) rfl ?_); refine box_event ?hg (N := 2) ?hd (cs := #[.string a0_0, .int .i64 a0_1]) (t := 23) ?hr ?_; (case hd => rfl); (case hg => rfl); (case hr => exact k16_); intro gb101 hg w15 hbox hb; have BK101 := Aside0.mk (hbox); have GW101 := Aside0.mk (HB.ge hg); have GE101 := Aside0.mk (HB.ge hg); replace HB := HB.mw hb; clear hb hbox hg) | ((with_reducible refine gate_dst (N := 3) rfl ?_); refine box_event ?hg (N := 3) ?hd (cs := #[.string a1_0, .int .i64 a1_1]) (t := 23) ?hr ?_; (case hd => rfl); (case hg => rfl); (case hr => exact k16_); intro gb102 hg w16 hbox hb; have BK102 := Aside0.mk (hbox); have GW102 := Aside0.mk ((by rw [hg]; exact (below_size k8_) : w.heap.size ≤ gb102)); have GE102 := Aside0.mk ((by rw [hg]; exact (below_size k8_) : w.heap.size ≤ gb102)); replace HB := Aside0.mk (below_step k8_ hb); have NB101_102 := Aside0.mk (BK101.ne hg); have NB102_101 := Aside0.mk (BK101.ne hg).symm; replace BK101 := BK101.mw hb; clear hb hbox hg; have hnb17 := NB101_102.out; have hnc17 := NB102_101.out; have hcz18_0 : w16.cell? ⟨gb101, 0, none⟩ = some (.string a0_0) := (blk_cell BK101.out 0).trans rfl; have hcz18_1 : w16.cell? ⟨gb101, 1, none⟩ = some (.int .i64 a0_1) := (blk_cell BK101.out 1).trans rfl; have hfz18_0 := blk_frozen BK101.out 0; have hfz18_1 := blk_frozen BK101.out 1; have hcz19_0 : w16.cell? ⟨gb102, 0, none⟩ = some (.string a1_0) := (blk_cell BK102.out 0).trans rfl; have hcz19_1 : w16.cell? ⟨gb102, 1, none⟩ = some (.int .i64 a1_1) := (blk_cell BK102.out 1).trans rfl; have hfz19_0 := blk_frozen BK102.out 0; have hfz19_1 := blk_frozen BK102.out 1))
  go_ret
  exact ⟨k7_, by apply_rules only [HB.out, below_alloc, pw_below_drewN, below_drew1, below_set, GE101.out, GE102.out]⟩
end Go.Proofs.YtmflgmodknceeaaDoor.P
namespace Go.Proofs.YtmflgmodknceeaaDoor.P
open Go.RowKit Go.Proofs.YtmflgmodknceeaaDoorW.PrintWords Go.Proofs.YtmflgmodknceeaaDoorW.PrintLast Go.Proofs.YtmflgmodknceeaaDoorW.PrintMore
attribute [local go_sem] max2_int min2_int max_two min_two max_three min_three max_four min_four
set_option linter.unusedVariables false
set_option linter.unusedSimpArgs false
def laws_FnExactParsePuzzle.f (k : Nat) (a0 : ByteArray) : Option (Bool) := if (a0.size : Int) > 1048576 then (some true) else ((spec_ParsePuzzle.f k a0).bind fun bt101 => ((impl_ParsePuzzle.f a0).bind fun bt105 => ((laws_eqPuzzle.f bt105.1 bt105.2.1 bt101.1 bt101.2.1).bind fun t109 => (if t109 = true then (if (bt105.2.2 != bt101.2.2) = true then (some false) else (some true)) else (some false)))))
set_option maxHeartbeats 8000000 in
set_option maxRecDepth 100000 in
theorem laws_FnExactParsePuzzle.calls (k : Nat) (a0 : ByteArray) (w : World) (h : laws_FnExactParsePuzzle.f k a0 = some true) (hG : GlobOk w) :
  Calls Tryd.prog 3 #[.string a0] w fun e w' => e = .returned (.bool true) ∧ Below w.heap.size w w' := by
 have hu23 := Tryd.underlying23
 have HB := Aside0.mk (Below.refl w.heap.size w)
 have HG := Aside0.mk hG
 clear hG
 have H : (if (a0.size : Int) > 1048576 then (some true) else ((spec_ParsePuzzle.f k a0).bind fun bt101 => ((impl_ParsePuzzle.f a0).bind fun bt105 => ((laws_eqPuzzle.f bt105.1 bt105.2.1 bt101.1 bt101.2.1).bind fun t109 => (if t109 = true then (if (bt105.2.2 != bt101.2.2) = true then (some false) else (some true)) else (some false)))))) = some true := h
 clear h
 by_cases c2 : (a0.size : Int) > 1048576
 ·rw [if_pos c2] at H
  have c2b0 : decide (1048576 < (a0.size : Int)) = true := decide_eq_true c2
  have c2b1 : decide (1048576 < a0.size) = true := decide_eq_true (by omega)
  clear c2
  clear H
  go_enter Tryd.func3, Tryd.ntmps3
  go_wp2
  go_ret
  exact ⟨k7_, k11_⟩
 ·rw [if_neg c2] at H
  have c2b0 : decide (1048576 < (a0.size : Int)) = false := decide_eq_false c2
  have c2b1 : decide (1048576 < a0.size) = false := decide_eq_false (by omega)
  clear c2
  obtain ⟨⟨t101, t102, t103⟩, A3, H⟩ := obnd_ H
  (try dsimp only at H)
  obtain ⟨⟨t105, t106, t107⟩, A4, H⟩ := obnd_ H
  (try dsimp only at H)
  obtain ⟨t109, A5, H⟩ := obnd_ H
  (try dsimp only at H)
  by_cases c6 : t109 = true
  ·subst c6
   rw [if_pos rfl] at H
   by_cases c7 : (t107 != t103) = true
   ·rw [if_pos c7] at H
    have c7b0 : (t107 != t103) = true := c7
    (try (have c7b1 : decide (t107 = t103) = false := by simpa using c7))
    (try (have c7b2 : (t107 == t103) = false := by simpa using c7))
    (try (have c7b3 : ¬ (t107 = t103) := by simpa using c7))
    clear c7
    exact absurd H (by simp)
   ·rw [if_neg c7] at H
    have c7b0 : (t107 != t103) = false := by simpa using c7
    (try (have c7b1 : decide (t107 = t103) = true := by simpa using c7))
    (try (have c7b2 : (t107 == t103) = true := by simpa using c7))
    clear c7
    clear H
    go_enter Tryd.func3, Tryd.ntmps3
    go_wp2_with (first | ((with_reducible refine gate_callee (f := 4) rfl ?_); refine goesL_ (some 12) rfl rfl Tryd.func4 (by kernel_rfl) rfl #[.string a0] rfl k5_ ?_; (with_reducible refine (spec_ParsePuzzle.calls k a0 t101 t102 t103 _ A3.out).mono ?_); rintro e w8 ⟨rfl, hb⟩; refine ⟨_, rfl, ?_⟩; replace HB := HB.mw hb; (try clear hb)) | ((with_reducible refine gate_dst (N := 3) rfl ?_); refine box_event ?hg (N := 3) ?hd (cs := #[.string (⟨#[]⟩ : ByteArray), .int .i64 0]) (t := 23) ?hr ?_; (case hd => rfl); (case hg => rfl); (case hr => exact k16_); intro gb104 hg w9 hbox hb; have BK104 := Aside0.mk (hbox); have GW104 := Aside0.mk (HB.ge hg); have GE104 := Aside0.mk (HB.ge hg); replace HB := HB.mw hb; clear hb hbox hg; have hcz10_0 : w9.cell? ⟨gb104, 0, none⟩ = some (.string (⟨#[]⟩ : ByteArray)) := (blk_cell BK104.out 0).trans rfl; have hcz10_1 : w9.cell? ⟨gb104, 1, none⟩ = some (.int .i64 0) := (blk_cell BK104.out 1).trans rfl; have hfz10_0 := blk_frozen BK104.out 0; have hfz10_1 := blk_frozen BK104.out 1) | ((with_reducible refine gate_callee (f := 5) rfl ?_); refine goesL_ (some 17) rfl rfl Tryd.func5 (by kernel_rfl) rfl #[.string a0] rfl k5_ ?_; (refine (impl_ParsePuzzle.calls a0 t105 t106 t107 _ A4.out (GlobOk.below HG.out k9_)).mono ?_); rintro e w11 ⟨rfl, hb⟩; refine ⟨_, rfl, ?_⟩; replace BK104 := Aside0.mk (blk_below (g := gb104) (o := .cells #[.string t101, .int .i64 t102] 23 (0, 0)) (by (with_reducible repeat (first | refine blk_drewN ?_ _ | refine blk_drew ?_ | refine blk_alloc ?_ _)); refine blk_put (cs := #[.string t101, .int .i64 0]) ?_ 1 _ rfl; (with_reducible repeat (first | refine blk_drewN ?_ _ | refine blk_drew ?_ | refine blk_alloc ?_ _)); refine blk_put (cs := #[.string (⟨#[]⟩ : ByteArray), .int .i64 0]) ?_ 0 _ rfl; apply_rules only [BK104.out, blk_drewN, blk_drew, blk_alloc]) hb); replace HB := Aside0.mk (below_step k9_ hb); (try clear hb)) | ((with_reducible refine gate_dst (N := 5) rfl ?_); refine box_event ?hg (N := 5) ?hd (cs := #[.string (⟨#[]⟩ : ByteArray), .int .i64 0]) (t := 23) ?hr ?_; (case hd => rfl); (case hg => rfl); (case hr => exact k16_); intro gb108 hg w12 hbox hb; have BK108 := Aside0.mk (hbox); have GW108 := Aside0.mk ((by rw [hg]; exact (below_size k9_) : w.heap.size ≤ gb108)); have GE108 := Aside0.mk ((by rw [hg]; exact (below_size k9_) : w.heap.size ≤ gb108)); replace HB := Aside0.mk (below_step k9_ hb); have NB104_108 := Aside0.mk (BK104.ne hg); have NB108_104 := Aside0.mk (BK104.ne hg).symm; replace BK104 := BK104.mw hb; clear hb hbox hg; have hnb13 := NB108_104.out; have hnc13 := NB104_108.out; have hcz14_0 : w12.cell? ⟨gb108, 0, none⟩ = some (.string (⟨#[]⟩ : ByteArray)) := (blk_cell BK108.out 0).trans rfl; have hcz14_1 : w12.cell? ⟨gb108, 1, none⟩ = some (.int .i64 0) := (blk_cell BK108.out 1).trans rfl; have hfz14_0 := blk_frozen BK108.out 0; have hfz14_1 := blk_frozen BK108.out 1; have hcz15_0 : w12.cell? ⟨gb104, 0, none⟩ = some (.string t101) := (blk_cell BK104.out 0).trans rfl; have hcz15_1 : w12.cell? ⟨gb104, 1, none⟩ = some (.int .i64 t102) := (blk_cell BK104.out 1).trans rfl; have hfz15_0 := blk_frozen BK104.out 0; have hfz15_1 := blk_frozen BK104.out 1) | ((with_reducible refine gate_callee (f := 6) rfl ?_); refine goesL_ (some 22) rfl rfl Tryd.func6 (by kernel_rfl) rfl #[.agg #[.string t105, .int .i64 t106], .agg #[.string t101, .int .i64 t102]] rfl k5_ ?_; (with_reducible refine (laws_eqPuzzle.calls t105 t106 t101 t102 true _ A5.out).mono ?_); rintro e w16 ⟨rfl, hb⟩; refine ⟨_, rfl, ?_⟩; replace BK104 := Aside0.mk (blk_below (g := gb104) (o := .cells #[.string t101, .int .i64 t102] 23 (0, 0)) (by (with_reducible repeat (first | refine blk_drewN ?_ _ | refine blk_drew ?_ | refine blk_alloc ?_ _)); refine blk_far ?_ NB104_108.out _; (with_reducible repeat (first | refine blk_drewN ?_ _ | refine blk_drew ?_ | refine blk_alloc ?_ _)); refine blk_far ?_ NB104_108.out _; apply_rules only [BK104.out, blk_drewN, blk_drew, blk_alloc]) hb); replace BK108 := Aside0.mk (blk_below (g := gb108) (o := .cells #[.string t105, .int .i64 t106] 23 (0, 0)) (by (with_reducible repeat (first | refine blk_drewN ?_ _ | refine blk_drew ?_ | refine blk_alloc ?_ _)); refine blk_put (cs := #[.string t105, .int .i64 0]) ?_ 1 _ rfl; (with_reducible repeat (first | refine blk_drewN ?_ _ | refine blk_drew ?_ | refine blk_alloc ?_ _)); refine blk_put (cs := #[.string (⟨#[]⟩ : ByteArray), .int .i64 0]) ?_ 0 _ rfl; apply_rules only [BK108.out, blk_drewN, blk_drew, blk_alloc]) hb); replace HB := Aside0.mk (below_step (by apply_rules only [HB.out, below_alloc, pw_below_drewN, below_drew1, below_set, GE104.out, GE108.out]) hb); (try clear hb)))
    go_ret
    exact ⟨k7_, by apply_rules only [HB.out, below_alloc, pw_below_drewN, below_drew1, below_set, GE104.out, GE108.out]⟩
  ·replace c6 := Bool.eq_false_iff.mpr c6
   subst c6
   rw [if_neg (show ¬ (false = true) by decide)] at H
   exact absurd H (by simp)
def laws_FnExactParsePuzzle.Pure : Prop := ∀ (a0 : ByteArray), a0.size ≤ 9223372036854775807 → ∃ k, laws_FnExactParsePuzzle.f k a0 = some true
end Go.Proofs.YtmflgmodknceeaaDoor.P
