/- What functions of the program answer. Proved in this text: its theorems. Conditions: as each theorem states them. -/
import Derived.Test.YtkloiiojigofpaaDoorCFnPuzzlesSievedOfAllP
import Derived.Test.YtkloiiojigofpaaDoorCFnPuzzlesSievedOfAllF0
import Derived.Test.YtkloiiojigofpaaDoorCFnPuzzlesSievedOfAllF1
import Derived.Test.YtkloiiojigofpaaDoorCFnPuzzlesSievedOfAllF2
namespace Go.Proofs.YtkloiiojigofpaaDoor.P
open Go.RowKit Go.Proofs.YtkloiiojigofpaaDoorW.PrintWords Go.Proofs.YtkloiiojigofpaaDoorW.PrintLast Go.Proofs.YtkloiiojigofpaaDoorW.PrintMore
attribute [local go_sem] max2_int min2_int max_two min_two max_three min_three max_four min_four
set_option linter.unusedVariables false
set_option linter.unusedSimpArgs false
attribute [local go_sem high] eqA28
set_option maxHeartbeats 8000000 in
set_option maxRecDepth 100000 in
theorem laws_FnPuzzlesSievedOfAll.part1 (k : Nat) (a0 : Int) (a1 : Int) (a2 : Int) (a3_0 : ByteArray) (a3_1 : Int) (a4_0 : ByteArray) (a4_1 : Int) (a5 : Int) (a6 : Bool) (a7_0 : ByteArray) (a7_1 : Int) (a8 : Int) (a9 : ByteArray) (A10 : Option Addr) (c10 : Nat) (l10 : List SRule) (a11 : Int) (w : World) (hu28 : Tryd.prog.underlying 28 = some (TypeDesc.struct #[{ name := "Pattern", type := 9, offset := 0, embedded := false, tag := "", pkgPath := "", byteOffset := 0 }, { name := "Rules", type := 3, offset := 1, embedded := false, tag := "", pkgPath := "", byteOffset := 16 }])) (HR10 : Aside0 (kRule.C w A10 l10.length l10)) (HC10 : Aside0 (l10.length ≤ c10)) (gb101 : Nat) (GW101 : Aside0 (w.heap.size ≤ gb101)) (GE101 : Aside0 (w.heap.size ≤ gb101)) (gb102 : Nat) (GW102 : Aside0 (w.heap.size ≤ gb102)) (GE102 : Aside0 (w.heap.size ≤ gb102)) (NB101_102 : Aside0 (gb101 ≠ gb102)) (NB102_101 : Aside0 (gb102 ≠ gb101)) (gb103 : Nat) (GW103 : Aside0 (w.heap.size ≤ gb103)) (GE103 : Aside0 (w.heap.size ≤ gb103)) (NB101_103 : Aside0 (gb101 ≠ gb103)) (NB103_101 : Aside0 (gb103 ≠ gb101)) (NB102_103 : Aside0 (gb102 ≠ gb103)) (NB103_102 : Aside0 (gb103 ≠ gb102)) (u64 : Value) (u65 : Value) (u66 : Value) (u67 : Value) (u68 : Value) (u69 : Value) (u70 : Value) (kj12 : Nat) (HJ12 : Aside0 (kj12 + 1 ≤ k)) (t104 : ByteArray) (t105 : Int) (t106 : Bool) (A19 : Aside0 (impl_MakePuzzle.f kj12 a0 a1 a2 = some (t104, t105, t106))) (t108 : ByteArray) (t109 : Int) (t110 : Bool) (A20 : Aside0 (spec_MakePuzzle.f kj12 a0 a1 a2 = some (t108, t109, t110))) (gb107 : Nat) (GW107 : Aside0 (w.heap.size ≤ gb107)) (GE107 : Aside0 (w.heap.size ≤ gb107)) (NB101_107 : Aside0 (gb101 ≠ gb107)) (NB107_101 : Aside0 (gb107 ≠ gb101)) (NB102_107 : Aside0 (gb102 ≠ gb107)) (NB107_102 : Aside0 (gb107 ≠ gb102)) (NB103_107 : Aside0 (gb103 ≠ gb107)) (NB107_103 : Aside0 (gb107 ≠ gb103)) (hnb24 : gb107 ≠ gb101) (hnc24 : gb101 ≠ gb107) (hnb25 : gb107 ≠ gb102) (hnc25 : gb102 ≠ gb107) (hnb26 : gb107 ≠ gb103) (hnc26 : gb103 ≠ gb107) (gb111 : Nat) (GW111 : Aside0 (w.heap.size ≤ gb111)) (GE111 : Aside0 (w.heap.size ≤ gb111)) (NB101_111 : Aside0 (gb101 ≠ gb111)) (NB111_101 : Aside0 (gb111 ≠ gb101)) (NB102_111 : Aside0 (gb102 ≠ gb111)) (NB111_102 : Aside0 (gb111 ≠ gb102)) (NB103_111 : Aside0 (gb103 ≠ gb111)) (NB111_103 : Aside0 (gb111 ≠ gb103)) (NB107_111 : Aside0 (gb107 ≠ gb111)) (NB111_107 : Aside0 (gb111 ≠ gb107)) (hnb30 : gb111 ≠ gb101) (hnc30 : gb101 ≠ gb111) (hnb31 : gb111 ≠ gb102) (hnc31 : gb102 ≠ gb111) (hnb32 : gb111 ≠ gb103) (hnc32 : gb103 ≠ gb111) (hnb33 : gb111 ≠ gb107) (hnc33 : gb107 ≠ gb111) (u72 : Value) (u73 : Value) (u74 : Value) (u75 : Value) (u76 : Value) (u77 : Value) (u78 : Value) (u79 : Value) (u80 : Value) (u81 : Value) (u82 : Value) (u83 : Value) (u84 : Value) (u85 : Value) (u86 : Value) (u87 : Value) (u88 : Value) (u89 : Value) (u90 : Value) (u91 : Value) (u92 : Value) (kj20 : Nat) (HJ20 : Aside0 (kj20 + 1 ≤ kj12)) (u29 : Value) (u30 : Value) (u94 : Value) (u95 : Value) (u96 : Value) (u97 : Value) (u98 : Value) (u99 : Value) (u100 : Value) (u101 : Value) (u102 : Value) (u103 : Value) (u104 : Value) (u105 : Value) (u106 : Value) (u107 : Value) (u108 : Value) (u109 : Value) (u110 : Value) (u111 : Value) (u112 : Value) (u113 : Value) (u114 : Value) (u115 : Value) (u116 : Value) (u117 : Value) (u118 : Value) (u119 : Value) (u120 : Value) (u121 : Value) (u122 : Value) (u123 : Value) (u124 : Value) (u125 : Value) (kj45 : Nat) (HJ45 : Aside0 (kj45 + 1 ≤ kj20)) (t115 : ByteArray) (t116 : Int) (t117 : Bool) (A64 : Aside0 (impl_HarderPuzzle.f kj45 a3_0 a3_1 = some (t115, t116, t117))) (t119 : ByteArray) (t120 : Int) (t121 : Bool) (A65 : Aside0 (spec_HarderPuzzle.f kj45 a3_0 a3_1 = some (t119, t120, t121))) (hnb67 : gb101 ≠ gb102) (hnc67 : gb102 ≠ gb101) (hnb68 : gb101 ≠ gb103) (hnc68 : gb103 ≠ gb101) (hnb69 : gb101 ≠ gb107) (hnc69 : gb107 ≠ gb101) (hnb70 : gb101 ≠ gb111) (hnc70 : gb111 ≠ gb101) (gb118 : Nat) (GW118 : Aside0 (w.heap.size ≤ gb118)) (GE118 : Aside0 (w.heap.size ≤ gb118)) (NB101_118 : Aside0 (gb101 ≠ gb118)) (NB118_101 : Aside0 (gb118 ≠ gb101)) (NB102_118 : Aside0 (gb102 ≠ gb118)) (NB118_102 : Aside0 (gb118 ≠ gb102)) (NB103_118 : Aside0 (gb103 ≠ gb118)) (NB118_103 : Aside0 (gb118 ≠ gb103)) (NB107_118 : Aside0 (gb107 ≠ gb118)) (NB118_107 : Aside0 (gb118 ≠ gb107)) (NB111_118 : Aside0 (gb111 ≠ gb118)) (NB118_111 : Aside0 (gb118 ≠ gb111)) (hnb74 : gb118 ≠ gb101) (hnc74 : gb101 ≠ gb118) (hnb75 : gb118 ≠ gb102) (hnc75 : gb102 ≠ gb118) (hnb76 : gb118 ≠ gb103) (hnc76 : gb103 ≠ gb118) (hnb77 : gb118 ≠ gb107) (hnc77 : gb107 ≠ gb118) (hnb78 : gb118 ≠ gb111) (hnc78 : gb111 ≠ gb118) (gb122 : Nat) (GW122 : Aside0 (w.heap.size ≤ gb122)) (GE122 : Aside0 (w.heap.size ≤ gb122)) (NB101_122 : Aside0 (gb101 ≠ gb122)) (NB122_101 : Aside0 (gb122 ≠ gb101)) (NB102_122 : Aside0 (gb102 ≠ gb122)) (NB122_102 : Aside0 (gb122 ≠ gb102)) (NB103_122 : Aside0 (gb103 ≠ gb122)) (NB122_103 : Aside0 (gb122 ≠ gb103)) (NB107_122 : Aside0 (gb107 ≠ gb122)) (NB122_107 : Aside0 (gb122 ≠ gb107)) (NB111_122 : Aside0 (gb111 ≠ gb122)) (NB122_111 : Aside0 (gb122 ≠ gb111)) (NB118_122 : Aside0 (gb118 ≠ gb122)) (NB122_118 : Aside0 (gb122 ≠ gb118)) (hnb83 : gb122 ≠ gb101) (hnc83 : gb101 ≠ gb122) (hnb84 : gb122 ≠ gb102) (hnc84 : gb102 ≠ gb122) (hnb85 : gb122 ≠ gb103) (hnc85 : gb103 ≠ gb122) (hnb86 : gb122 ≠ gb107) (hnc86 : gb107 ≠ gb122) (hnb87 : gb122 ≠ gb111) (hnc87 : gb111 ≠ gb122) (hnb88 : gb122 ≠ gb118) (hnc88 : gb118 ≠ gb122) (u126 : Value) (u127 : Value) (u128 : Value) (u129 : Value) (u130 : Value) (u131 : Value) (u132 : Value) (u133 : Value) (u134 : Value) (u135 : Value) (u136 : Value) (u137 : Value) (u138 : Value) (u139 : Value) (u140 : Value) (u141 : Value) (u142 : Value) (kj65 : Nat) (HJ65 : Aside0 (kj65 + 1 ≤ kj45)) (wc : World) (u24 : Value) (u35 : Value) (u36 : Value) (u37 : Value) (u38 : Value) (u39 : Value) (u40 : Value) (u41 : Value) (u42 : Value) (u43 : Value) (u144 : Value) (u145 : Value) (u146 : Value) (u147 : Value) (u148 : Value) (u149 : Value) (u150 : Value) (u151 : Value) (u152 : Value) (u153 : Value) (u154 : Value) (u155 : Value) (u156 : Value) (u157 : Value) (u158 : Value) (u159 : Value) (u160 : Value) (u161 : Value) (u162 : Value) (u163 : Value) (u164 : Value) (u165 : Value) (u166 : Value) (u167 : Value) (u168 : Value) (u169 : Value) (u170 : Value) (u171 : Value) (u172 : Value) (u173 : Value) (u174 : Value) (u175 : Value) (u176 : Value) (u177 : Value) (u178 : Value) (u179 : Value) (u180 : Value) (u181 : Value) (u182 : Value) (u183 : Value) (u184 : Value) (u185 : Value) (u186 : Value) (u187 : Value) (u188 : Value) (u189 : Value) (u190 : Value) (u191 : Value) (u192 : Value) (u193 : Value) (u194 : Value) (u195 : Value) (u196 : Value) (u197 : Value) (u198 : Value) (u199 : Value) (u200 : Value) (u201 : Value) (u202 : Value) (u203 : Value) (u204 : Value) (u205 : Value) (u206 : Value) (u207 : Value) (u208 : Value) (u209 : Value) (u210 : Value) (u211 : Value) (u212 : Value) (u213 : Value) (u214 : Value) (u215 : Value) (u216 : Value) (u217 : Value) (u218 : Value) (u219 : Value) (u220 : Value) (u221 : Value) (u222 : Value) (u223 : Value) (u224 : Value) (u225 : Value) (u226 : Value) (kq : Nat) (HA : Aside0 (j6 kq a5 a6 a8 a9 l10 a11 a4_0 a4_1 a7_0 a7_1 = some true)) (HJ104 : Aside0 (kq ≤ kj65)) (BK101 : Aside0 (wc.heap[gb101]? = some (Obj.cells #[Value.string a3_0, Value.int IntKind.i64 a3_1] 28))) (BK102 : Aside0 (wc.heap[gb102]? = some (Obj.cells #[Value.string a4_0, Value.int IntKind.i64 a4_1] 28))) (BK103 : Aside0 (wc.heap[gb103]? = some (Obj.cells #[Value.string a7_0, Value.int IntKind.i64 a7_1] 28))) (BK107 : Aside0 (wc.heap[gb107]? = some (Obj.cells #[Value.string t104, Value.int IntKind.i64 t105] 28))) (BK111 : Aside0 (wc.heap[gb111]? = some (Obj.cells #[Value.string t108, Value.int IntKind.i64 t109] 28))) (BK118 : Aside0 (wc.heap[gb118]? = some (Obj.cells #[Value.string t115, Value.int IntKind.i64 t116] 28))) (BK122 : Aside0 (wc.heap[gb122]? = some (Obj.cells #[Value.string t119, Value.int IntKind.i64 t120] 28))) (HB : Aside0 (Below w.heap.size w wc)) : Code.wp Tryd.prog (seqB (seqB (seqB (seqB (seqB (seqB (seqB (seqB (seqB (seqB (codeOf Tryd.f6.body))))))))))) (bodyPost Tryd.prog Tryd.f6 fun e w' => e = .returned (.bool true) ∧ Below w.heap.size w w') ⟨#[Value.int IntKind.i64 a0, Value.int IntKind.i64 a1, Value.int IntKind.i64 a2, Value.agg #[Value.string a3_0, Value.int IntKind.i64 a3_1], Value.agg #[Value.string a4_0, Value.int IntKind.i64 a4_1], Value.int IntKind.i64 a5, Value.bool a6, Value.agg #[Value.string a7_0, Value.int IntKind.i64 a7_1], Value.int IntKind.i64 a8, Value.string a9, Value.slice A10 l10.length c10, Value.int IntKind.i64 a11, undef, undef, undef, Value.pointer (some { block := gb101, off := 0 }), Value.pointer (some { block := gb102, off := 0 }), undef, undef, Value.pointer (some { block := gb103, off := 0 }), undef, undef, undef, undef, u24, Value.pointer (some { block := gb107, off := 0 }), Value.bool t106, Value.pointer (some { block := gb111, off := 0 }), Value.bool t110, u29, u30, Value.pointer (some { block := gb118, off := 0 }), Value.bool t117, Value.pointer (some { block := gb122, off := 0 }), Value.bool t121, u35, u36, u37, u38, u39, u40, u41, u42, u43, undef, undef, undef, undef, undef, undef, undef, undef, undef, undef, undef, undef, undef, undef, undef, undef, undef, undef, undef, undef, u64, u65, u66, u67, u68, u69, u70, Value.bool false, u72, u73, u74, u75, u76, u77, u78, u79, u80, u81, u82, u83, u84, u85, u86, u87, u88, u89, u90, u91, u92, Value.bool false, u94, u95, u96, u97, u98, u99, u100, u101, u102, u103, u104, u105, u106, u107, u108, u109, u110, u111, u112, u113, u114, u115, u116, u117, u118, u119, u120, u121, u122, u123, u124, u125, u126, u127, u128, u129, u130, u131, u132, u133, u134, u135, u136, u137, u138, u139, u140, u141, u142, Value.bool false, u144, u145, u146, u147, u148, u149, u150, u151, u152, u153, u154, u155, u156, u157, u158, u159, u160, u161, u162, u163, u164, u165, u166, u167, u168, u169, u170, u171, u172, u173, u174, u175, u176, u177, u178, u179, u180, u181, u182, u183, u184, u185, u186, u187, u188, u189, u190, u191, u192, u193, u194, u195, u196, u197, u198, u199, u200, u201, u202, u203, u204, u205, u206, u207, u208, u209, u210, u211, u212, u213, u214, u215, u216, u217, u218, u219, u220, u221, u222, u223, u224, u225, u226, undef, undef, undef, undef, undef, undef, undef, undef, undef, undef, undef, undef, undef, undef, undef, undef, undef, undef, undef, undef, undef, undef, undef, undef, undef, undef, undef, undef, undef, undef, undef, undef, undef, undef, undef, undef, undef, undef, undef, undef, undef, undef, undef, undef, undef, undef, undef, undef, undef, undef, undef, undef, undef, undef, undef, undef, undef, undef, undef, undef, undef, undef, undef, undef, undef, undef, undef, undef, undef, undef, undef, undef, undef, undef, undef, undef, undef, undef, undef, undef, undef, undef, undef, undef, undef, undef, undef, undef, undef, undef, undef, undef, undef, undef, undef, undef, undef, undef, undef, undef, undef, undef, undef, undef, undef, undef, undef, undef, undef, undef, undef, undef, undef, undef, undef, undef, undef, undef, undef, undef], []⟩ wc := by
  show (let Q'_ := bodyPost Tryd.prog Tryd.f6 fun e w' => e = .returned (.bool true) ∧ Below w.heap.size w w'; Code.wp Tryd.prog _ Q'_ _ _)
  intro Q'_
  conv => arg 2; whnf
  cases kq with
  | zero => exact absurd HA.out (by simp [laws_FnPuzzlesSievedOfAll.j6])
  | succ kj104 =>
   have H := HA.out
   clear HA
   simp only [laws_FnPuzzlesSievedOfAll.j6] at H
   replace H := Option.bind_eq_some_iff.mp H
   obtain ⟨⟨t138, t139, t140⟩, A2170, H⟩ := H
   (try dsimp only at H)
   have A217 := Aside0.mk A2170
   clear A2170
   replace H := Option.bind_eq_some_iff.mp H
   obtain ⟨⟨t142, t143, t144⟩, A2180, H⟩ := H
   (try dsimp only at H)
   have A218 := Aside0.mk A2180
   clear A2180
   replace H := Option.bind_eq_some_iff.mp H
   obtain ⟨⟨t146, t147, t148⟩, A2190, H⟩ := H
   (try dsimp only at H)
   have A219 := Aside0.mk A2190
   clear A2190
   replace H := Option.bind_eq_some_iff.mp H
   obtain ⟨⟨t150, t151, t152⟩, A2200, H⟩ := H
   (try dsimp only at H)
   have A220 := Aside0.mk A2200
   clear A2200
   replace H := Option.bind_eq_some_iff.mp H
   obtain ⟨⟨t154, t155⟩, A2210, H⟩ := H
   (try dsimp only at H)
   have A221 := Aside0.mk A2210
   clear A2210
   replace H := Option.bind_eq_some_iff.mp H
   obtain ⟨⟨t156, t157⟩, A2220, H⟩ := H
   (try dsimp only at H)
   have A222 := Aside0.mk A2220
   clear A2220
   replace H := Option.bind_eq_some_iff.mp H
   obtain ⟨⟨t158, t159⟩, A2230, H⟩ := H
   (try dsimp only at H)
   have A223 := Aside0.mk A2230
   clear A2230
   replace H := Option.bind_eq_some_iff.mp H
   obtain ⟨⟨t160, t161⟩, A2240, H⟩ := H
   (try dsimp only at H)
   have A224 := Aside0.mk A2240
   clear A2240
   have HC225 := Aside0.mk H
   clear H
   have hnb226 := NB102_101.out
   have hnc226 := NB101_102.out
   have hnb227 := NB102_103.out
   have hnc227 := NB103_102.out
   have hnb228 := NB102_107.out
   have hnc228 := NB107_102.out
   have hnb229 := NB102_111.out
   have hnc229 := NB111_102.out
   have hnb230 := NB102_118.out
   have hnc230 := NB118_102.out
   have hnb231 := NB102_122.out
   have hnc231 := NB122_102.out
   have hcz232_0 : wc.cell? ⟨gb102, 0, none⟩ = some (.string a4_0) := (blk_cell BK102.out 0).trans rfl
   have hcz232_1 : wc.cell? ⟨gb102, 1, none⟩ = some (.int .i64 a4_1) := (blk_cell BK102.out 1).trans rfl
   have hfz232_0 := blk_frozen BK102.out 0
   have hfz232_1 := blk_frozen BK102.out 1
   go_upto_region 36 with (first | ((with_reducible refine gate_callee (f := 31) rfl ?_); refine goesL_ (some 231) rfl rfl Tryd.func31 (by kernel_rfl) rfl #[.agg #[.string a4_0, .int .i64 a4_1], .int .i64 a5, .bool a6] rfl (by (try simp only [List.map_toArray, List.map_cons, List.map_nil]); first | done | rfl | (simp only [List.length_drop, List.length_take]; rfl)) ?_; (with_reducible refine (impl_ShowNumber.calls kj104 a4_0 a4_1 a5 a6 t138 t139 t140 _ A217.out).mono ?_); rintro e w233 ⟨rfl, hb⟩; refine ⟨_, rfl, ?_⟩; have n0_ := Aside0.mk (blk_below (by apply_rules only [BK101.out, blk_drewN, blk_drew, blk_alloc]) hb); have n1_ := Aside0.mk (blk_below (by apply_rules only [BK102.out, blk_drewN, blk_drew, blk_alloc]) hb); have n2_ := Aside0.mk (blk_below (by apply_rules only [BK103.out, blk_drewN, blk_drew, blk_alloc]) hb); have n3_ := Aside0.mk (blk_below (by apply_rules only [BK107.out, blk_drewN, blk_drew, blk_alloc]) hb); have n4_ := Aside0.mk (blk_below (by apply_rules only [BK111.out, blk_drewN, blk_drew, blk_alloc]) hb); have n5_ := Aside0.mk (blk_below (by apply_rules only [BK118.out, blk_drewN, blk_drew, blk_alloc]) hb); have n6_ := Aside0.mk (blk_below (by apply_rules only [BK122.out, blk_drewN, blk_drew, blk_alloc]) hb); have n7_ := Aside0.mk (below_step (by apply_rules only [HB.out, below_alloc, pw_below_drewN, below_drew1, below_set, GE101.out, GE102.out, GE103.out, GE107.out, GE111.out, GE118.out, GE122.out]) hb); clear BK101; clear BK102; clear BK103; clear BK107; clear BK111; clear BK118; clear BK122; clear HB; have BK101 := n0_; have BK102 := n1_; have BK103 := n2_; have BK107 := n3_; have BK111 := n4_; have BK118 := n5_; have BK122 := n6_; have HB := n7_; clear n0_ n1_ n2_ n3_ n4_ n5_ n6_ n7_; (try clear hb); (try clear hb2); (try clear hk); (try clear hi)) | ((with_reducible refine gate_dst (N := 44) rfl ?_); (try (refine gate_guard (by rfl) ?_; dsimp only)); refine box_event ?hg (N := 44) ?hd (cs := #[.string (⟨#[]⟩ : ByteArray), .int .i64 0]) (t := 28) ?hr ?_; (case hd => rfl); (case hg => rfl); (case hr => first | (go_simp; done) | (go_simp; rfl)); intro gb141 hg w234 hbox hb; have n0_ := Aside0.mk (blk_below (by apply_rules only [BK101.out, blk_drewN, blk_drew, blk_alloc]) hb); have n1_ := Aside0.mk (blk_below (by apply_rules only [BK102.out, blk_drewN, blk_drew, blk_alloc]) hb); have n2_ := Aside0.mk (blk_below (by apply_rules only [BK103.out, blk_drewN, blk_drew, blk_alloc]) hb); have n3_ := Aside0.mk (blk_below (by apply_rules only [BK107.out, blk_drewN, blk_drew, blk_alloc]) hb); have n4_ := Aside0.mk (blk_below (by apply_rules only [BK111.out, blk_drewN, blk_drew, blk_alloc]) hb); have n5_ := Aside0.mk (blk_below (by apply_rules only [BK118.out, blk_drewN, blk_drew, blk_alloc]) hb); have n6_ := Aside0.mk (blk_below (by apply_rules only [BK122.out, blk_drewN, blk_drew, blk_alloc]) hb); have n7_ := Aside0.mk (below_step (by apply_rules only [HB.out, below_alloc, pw_below_drewN, below_drew1, below_set, GE101.out, GE102.out, GE103.out, GE107.out, GE111.out, GE118.out, GE122.out]) hb); have n8_ := Aside0.mk (hbox); have n9_ := Aside0.mk ((by rw [hg]; exact (below_size (by apply_rules only [HB.out, below_alloc, pw_below_drewN, below_drew1, below_set, GE101.out, GE102.out, GE103.out, GE107.out, GE111.out, GE118.out, GE122.out])) : w.heap.size ≤ gb141)); have n10_ := Aside0.mk ((by rw [hg]; exact (below_size (by apply_rules only [HB.out, below_alloc, pw_below_drewN, below_drew1, below_set, GE101.out, GE102.out, GE103.out, GE107.out, GE111.out, GE118.out, GE122.out])) : w.heap.size ≤ gb141)); have n11_ := Aside0.mk ((by rw [hg]; exact Nat.ne_of_lt (blk_lt (g := gb101) (o := .cells #[.string a3_0, .int .i64 a3_1] 28 (0, 0)) (by apply_rules only [BK101.out, blk_drewN, blk_drew, blk_alloc])) : gb101 ≠ gb141)); have n12_ := Aside0.mk ((by rw [hg]; exact Nat.ne_of_gt (blk_lt (g := gb101) (o := .cells #[.string a3_0, .int .i64 a3_1] 28 (0, 0)) (by apply_rules only [BK101.out, blk_drewN, blk_drew, blk_alloc])) : gb141 ≠ gb101)); have n13_ := Aside0.mk ((by rw [hg]; exact Nat.ne_of_lt (blk_lt (g := gb102) (o := .cells #[.string a4_0, .int .i64 a4_1] 28 (0, 0)) (by apply_rules only [BK102.out, blk_drewN, blk_drew, blk_alloc])) : gb102 ≠ gb141)); have n14_ := Aside0.mk ((by rw [hg]; exact Nat.ne_of_gt (blk_lt (g := gb102) (o := .cells #[.string a4_0, .int .i64 a4_1] 28 (0, 0)) (by apply_rules only [BK102.out, blk_drewN, blk_drew, blk_alloc])) : gb141 ≠ gb102)); have n15_ := Aside0.mk ((by rw [hg]; exact Nat.ne_of_lt (blk_lt (g := gb103) (o := .cells #[.string a7_0, .int .i64 a7_1] 28 (0, 0)) (by apply_rules only [BK103.out, blk_drewN, blk_drew, blk_alloc])) : gb103 ≠ gb141)); have n16_ := Aside0.mk ((by rw [hg]; exact Nat.ne_of_gt (blk_lt (g := gb103) (o := .cells #[.string a7_0, .int .i64 a7_1] 28 (0, 0)) (by apply_rules only [BK103.out, blk_drewN, blk_drew, blk_alloc])) : gb141 ≠ gb103)); have n17_ := Aside0.mk ((by rw [hg]; exact Nat.ne_of_lt (blk_lt (g := gb107) (o := .cells #[.string t104, .int .i64 t105] 28 (0, 0)) (by apply_rules only [BK107.out, blk_drewN, blk_drew, blk_alloc])) : gb107 ≠ gb141)); have n18_ := Aside0.mk ((by rw [hg]; exact Nat.ne_of_gt (blk_lt (g := gb107) (o := .cells #[.string t104, .int .i64 t105] 28 (0, 0)) (by apply_rules only [BK107.out, blk_drewN, blk_drew, blk_alloc])) : gb141 ≠ gb107)); have n19_ := Aside0.mk ((by rw [hg]; exact Nat.ne_of_lt (blk_lt (g := gb111) (o := .cells #[.string t108, .int .i64 t109] 28 (0, 0)) (by apply_rules only [BK111.out, blk_drewN, blk_drew, blk_alloc])) : gb111 ≠ gb141)); have n20_ := Aside0.mk ((by rw [hg]; exact Nat.ne_of_gt (blk_lt (g := gb111) (o := .cells #[.string t108, .int .i64 t109] 28 (0, 0)) (by apply_rules only [BK111.out, blk_drewN, blk_drew, blk_alloc])) : gb141 ≠ gb111)); have n21_ := Aside0.mk ((by rw [hg]; exact Nat.ne_of_lt (blk_lt (g := gb118) (o := .cells #[.string t115, .int .i64 t116] 28 (0, 0)) (by apply_rules only [BK118.out, blk_drewN, blk_drew, blk_alloc])) : gb118 ≠ gb141)); have n22_ := Aside0.mk ((by rw [hg]; exact Nat.ne_of_gt (blk_lt (g := gb118) (o := .cells #[.string t115, .int .i64 t116] 28 (0, 0)) (by apply_rules only [BK118.out, blk_drewN, blk_drew, blk_alloc])) : gb141 ≠ gb118)); have n23_ := Aside0.mk ((by rw [hg]; exact Nat.ne_of_lt (blk_lt (g := gb122) (o := .cells #[.string t119, .int .i64 t120] 28 (0, 0)) (by apply_rules only [BK122.out, blk_drewN, blk_drew, blk_alloc])) : gb122 ≠ gb141)); have n24_ := Aside0.mk ((by rw [hg]; exact Nat.ne_of_gt (blk_lt (g := gb122) (o := .cells #[.string t119, .int .i64 t120] 28 (0, 0)) (by apply_rules only [BK122.out, blk_drewN, blk_drew, blk_alloc])) : gb141 ≠ gb122)); clear BK101; clear BK102; clear BK103; clear BK107; clear BK111; clear BK118; clear BK122; clear HB; have BK101 := n0_; have BK102 := n1_; have BK103 := n2_; have BK107 := n3_; have BK111 := n4_; have BK118 := n5_; have BK122 := n6_; have HB := n7_; have BK141 := n8_; have GW141 := n9_; have GE141 := n10_; have NB101_141 := n11_; have NB141_101 := n12_; have NB102_141 := n13_; have NB141_102 := n14_; have NB103_141 := n15_; have NB141_103 := n16_; have NB107_141 := n17_; have NB141_107 := n18_; have NB111_141 := n19_; have NB141_111 := n20_; have NB118_141 := n21_; have NB141_118 := n22_; have NB122_141 := n23_; have NB141_122 := n24_; clear n0_ n1_ n2_ n3_ n4_ n5_ n6_ n7_ n8_ n9_ n10_ n11_ n12_ n13_ n14_ n15_ n16_ n17_ n18_ n19_ n20_ n21_ n22_ n23_ n24_; clear hb hbox hg; have hnb235 := NB141_101.out; have hnc235 := NB101_141.out; have hnb236 := NB141_102.out; have hnc236 := NB102_141.out; have hnb237 := NB141_103.out; have hnc237 := NB103_141.out; have hnb238 := NB141_107.out; have hnc238 := NB107_141.out; have hnb239 := NB141_111.out; have hnc239 := NB111_141.out; have hnb240 := NB141_118.out; have hnc240 := NB118_141.out; have hnb241 := NB141_122.out; have hnc241 := NB122_141.out; have hcz242_0 : w234.cell? ⟨gb141, 0, none⟩ = some (.string (⟨#[]⟩ : ByteArray)) := (blk_cell BK141.out 0).trans rfl; have hcz242_1 : w234.cell? ⟨gb141, 1, none⟩ = some (.int .i64 0) := (blk_cell BK141.out 1).trans rfl; have hfz242_0 := blk_frozen BK141.out 0; have hfz242_1 := blk_frozen BK141.out 1; have hcz243_0 : w234.cell? ⟨gb102, 0, none⟩ = some (.string a4_0) := (blk_cell BK102.out 0).trans rfl; have hcz243_1 : w234.cell? ⟨gb102, 1, none⟩ = some (.int .i64 a4_1) := (blk_cell BK102.out 1).trans rfl; have hfz243_0 := blk_frozen BK102.out 0; have hfz243_1 := blk_frozen BK102.out 1) | ((with_reducible refine gate_callee (f := 32) rfl ?_); refine goesL_ (some 238) rfl rfl Tryd.func32 (by kernel_rfl) rfl #[.agg #[.string a4_0, .int .i64 a4_1], .int .i64 a5, .bool a6] rfl (by (try simp only [List.map_toArray, List.map_cons, List.map_nil]); first | done | rfl | (simp only [List.length_drop, List.length_take]; rfl)) ?_; (with_reducible refine (spec_ShowNumber.calls kj104 a4_0 a4_1 a5 a6 t142 t143 t144 _ A218.out).mono ?_); rintro e w244 ⟨rfl, hb⟩; refine ⟨_, rfl, ?_⟩; have n0_ := Aside0.mk (blk_below (g := gb101) (o := .cells #[.string a3_0, .int .i64 a3_1] 28 (0, 0)) (by (with_reducible repeat (first | refine blk_drewN ?_ _ | refine blk_drew ?_ | refine blk_alloc ?_ _)); refine blk_far ?_ NB101_141.out _; (with_reducible repeat (first | refine blk_drewN ?_ _ | refine blk_drew ?_ | refine blk_alloc ?_ _)); refine blk_far ?_ NB101_141.out _; apply_rules only [BK101.out, blk_drewN, blk_drew, blk_alloc]) hb); have n1_ := Aside0.mk (blk_below (g := gb102) (o := .cells #[.string a4_0, .int .i64 a4_1] 28 (0, 0)) (by (with_reducible repeat (first | refine blk_drewN ?_ _ | refine blk_drew ?_ | refine blk_alloc ?_ _)); refine blk_far ?_ NB102_141.out _; (with_reducible repeat (first | refine blk_drewN ?_ _ | refine blk_drew ?_ | refine blk_alloc ?_ _)); refine blk_far ?_ NB102_141.out _; apply_rules only [BK102.out, blk_drewN, blk_drew, blk_alloc]) hb); have n2_ := Aside0.mk (blk_below (g := gb103) (o := .cells #[.string a7_0, .int .i64 a7_1] 28 (0, 0)) (by (with_reducible repeat (first | refine blk_drewN ?_ _ | refine blk_drew ?_ | refine blk_alloc ?_ _)); refine blk_far ?_ NB103_141.out _; (with_reducible repeat (first | refine blk_drewN ?_ _ | refine blk_drew ?_ | refine blk_alloc ?_ _)); refine blk_far ?_ NB103_141.out _; apply_rules only [BK103.out, blk_drewN, blk_drew, blk_alloc]) hb); have n3_ := Aside0.mk (blk_below (g := gb107) (o := .cells #[.string t104, .int .i64 t105] 28 (0, 0)) (by (with_reducible repeat (first | refine blk_drewN ?_ _ | refine blk_drew ?_ | refine blk_alloc ?_ _)); refine blk_far ?_ NB107_141.out _; (with_reducible repeat (first | refine blk_drewN ?_ _ | refine blk_drew ?_ | refine blk_alloc ?_ _)); refine blk_far ?_ NB107_141.out _; apply_rules only [BK107.out, blk_drewN, blk_drew, blk_alloc]) hb); have n4_ := Aside0.mk (blk_below (g := gb111) (o := .cells #[.string t108, .int .i64 t109] 28 (0, 0)) (by (with_reducible repeat (first | refine blk_drewN ?_ _ | refine blk_drew ?_ | refine blk_alloc ?_ _)); refine blk_far ?_ NB111_141.out _; (with_reducible repeat (first | refine blk_drewN ?_ _ | refine blk_drew ?_ | refine blk_alloc ?_ _)); refine blk_far ?_ NB111_141.out _; apply_rules only [BK111.out, blk_drewN, blk_drew, blk_alloc]) hb); have n5_ := Aside0.mk (blk_below (g := gb118) (o := .cells #[.string t115, .int .i64 t116] 28 (0, 0)) (by (with_reducible repeat (first | refine blk_drewN ?_ _ | refine blk_drew ?_ | refine blk_alloc ?_ _)); refine blk_far ?_ NB118_141.out _; (with_reducible repeat (first | refine blk_drewN ?_ _ | refine blk_drew ?_ | refine blk_alloc ?_ _)); refine blk_far ?_ NB118_141.out _; apply_rules only [BK118.out, blk_drewN, blk_drew, blk_alloc]) hb); have n6_ := Aside0.mk (blk_below (g := gb122) (o := .cells #[.string t119, .int .i64 t120] 28 (0, 0)) (by (with_reducible repeat (first | refine blk_drewN ?_ _ | refine blk_drew ?_ | refine blk_alloc ?_ _)); refine blk_far ?_ NB122_141.out _; (with_reducible repeat (first | refine blk_drewN ?_ _ | refine blk_drew ?_ | refine blk_alloc ?_ _)); refine blk_far ?_ NB122_141.out _; apply_rules only [BK122.out, blk_drewN, blk_drew, blk_alloc]) hb); have n7_ := Aside0.mk (blk_below (g := gb141) (o := .cells #[.string t138, .int .i64 t139] 28 (0, 0)) (by (with_reducible repeat (first | refine blk_drewN ?_ _ | refine blk_drew ?_ | refine blk_alloc ?_ _)); refine blk_put (cs := #[.string t138, .int .i64 0]) ?_ 1 _ rfl; (with_reducible repeat (first | refine blk_drewN ?_ _ | refine blk_drew ?_ | refine blk_alloc ?_ _)); refine blk_put (cs := #[.string (⟨#[]⟩ : ByteArray), .int .i64 0]) ?_ 0 _ rfl; apply_rules only [BK141.out, blk_drewN, blk_drew, blk_alloc]) hb); have n8_ := Aside0.mk (below_step (by apply_rules only [HB.out, below_alloc, pw_below_drewN, below_drew1, below_set, GE101.out, GE102.out, GE103.out, GE107.out, GE111.out, GE118.out, GE122.out, GE141.out]) hb); clear BK101; clear BK102; clear BK103; clear BK107; clear BK111; clear BK118; clear BK122; clear BK141; clear HB; have BK101 := n0_; have BK102 := n1_; have BK103 := n2_; have BK107 := n3_; have BK111 := n4_; have BK118 := n5_; have BK122 := n6_; have BK141 := n7_; have HB := n8_; clear n0_ n1_ n2_ n3_ n4_ n5_ n6_ n7_ n8_; (try clear hb); (try clear hb2); (try clear hk); (try clear hi)) | ((with_reducible refine gate_dst (N := 46) rfl ?_); (try (refine gate_guard (by rfl) ?_; dsimp only)); refine box_event ?hg (N := 46) ?hd (cs := #[.string (⟨#[]⟩ : ByteArray), .int .i64 0]) (t := 28) ?hr ?_; (case hd => rfl); (case hg => rfl); (case hr => first | (go_simp; done) | (go_simp; rfl)); intro gb145 hg w245 hbox hb; have n0_ := Aside0.mk (blk_below (by apply_rules only [BK101.out, blk_drewN, blk_drew, blk_alloc]) hb); have n1_ := Aside0.mk (blk_below (by apply_rules only [BK102.out, blk_drewN, blk_drew, blk_alloc]) hb); have n2_ := Aside0.mk (blk_below (by apply_rules only [BK103.out, blk_drewN, blk_drew, blk_alloc]) hb); have n3_ := Aside0.mk (blk_below (by apply_rules only [BK107.out, blk_drewN, blk_drew, blk_alloc]) hb); have n4_ := Aside0.mk (blk_below (by apply_rules only [BK111.out, blk_drewN, blk_drew, blk_alloc]) hb); have n5_ := Aside0.mk (blk_below (by apply_rules only [BK118.out, blk_drewN, blk_drew, blk_alloc]) hb); have n6_ := Aside0.mk (blk_below (by apply_rules only [BK122.out, blk_drewN, blk_drew, blk_alloc]) hb); have n7_ := Aside0.mk (blk_below (by apply_rules only [BK141.out, blk_drewN, blk_drew, blk_alloc]) hb); have n8_ := Aside0.mk (below_step (by apply_rules only [HB.out, below_alloc, pw_below_drewN, below_drew1, below_set, GE101.out, GE102.out, GE103.out, GE107.out, GE111.out, GE118.out, GE122.out, GE141.out]) hb); have n9_ := Aside0.mk (hbox); have n10_ := Aside0.mk ((by rw [hg]; exact (below_size (by apply_rules only [HB.out, below_alloc, pw_below_drewN, below_drew1, below_set, GE101.out, GE102.out, GE103.out, GE107.out, GE111.out, GE118.out, GE122.out, GE141.out])) : w.heap.size ≤ gb145)); have n11_ := Aside0.mk ((by rw [hg]; exact (below_size (by apply_rules only [HB.out, below_alloc, pw_below_drewN, below_drew1, below_set, GE101.out, GE102.out, GE103.out, GE107.out, GE111.out, GE118.out, GE122.out, GE141.out])) : w.heap.size ≤ gb145)); have n12_ := Aside0.mk ((by rw [hg]; exact Nat.ne_of_lt (blk_lt (g := gb101) (o := .cells #[.string a3_0, .int .i64 a3_1] 28 (0, 0)) (by apply_rules only [BK101.out, blk_drewN, blk_drew, blk_alloc])) : gb101 ≠ gb145)); have n13_ := Aside0.mk ((by rw [hg]; exact Nat.ne_of_gt (blk_lt (g := gb101) (o := .cells #[.string a3_0, .int .i64 a3_1] 28 (0, 0)) (by apply_rules only [BK101.out, blk_drewN, blk_drew, blk_alloc])) : gb145 ≠ gb101)); have n14_ := Aside0.mk ((by rw [hg]; exact Nat.ne_of_lt (blk_lt (g := gb102) (o := .cells #[.string a4_0, .int .i64 a4_1] 28 (0, 0)) (by apply_rules only [BK102.out, blk_drewN, blk_drew, blk_alloc])) : gb102 ≠ gb145)); have n15_ := Aside0.mk ((by rw [hg]; exact Nat.ne_of_gt (blk_lt (g := gb102) (o := .cells #[.string a4_0, .int .i64 a4_1] 28 (0, 0)) (by apply_rules only [BK102.out, blk_drewN, blk_drew, blk_alloc])) : gb145 ≠ gb102)); have n16_ := Aside0.mk ((by rw [hg]; exact Nat.ne_of_lt (blk_lt (g := gb103) (o := .cells #[.string a7_0, .int .i64 a7_1] 28 (0, 0)) (by apply_rules only [BK103.out, blk_drewN, blk_drew, blk_alloc])) : gb103 ≠ gb145)); have n17_ := Aside0.mk ((by rw [hg]; exact Nat.ne_of_gt (blk_lt (g := gb103) (o := .cells #[.string a7_0, .int .i64 a7_1] 28 (0, 0)) (by apply_rules only [BK103.out, blk_drewN, blk_drew, blk_alloc])) : gb145 ≠ gb103)); have n18_ := Aside0.mk ((by rw [hg]; exact Nat.ne_of_lt (blk_lt (g := gb107) (o := .cells #[.string t104, .int .i64 t105] 28 (0, 0)) (by apply_rules only [BK107.out, blk_drewN, blk_drew, blk_alloc])) : gb107 ≠ gb145)); have n19_ := Aside0.mk ((by rw [hg]; exact Nat.ne_of_gt (blk_lt (g := gb107) (o := .cells #[.string t104, .int .i64 t105] 28 (0, 0)) (by apply_rules only [BK107.out, blk_drewN, blk_drew, blk_alloc])) : gb145 ≠ gb107)); have n20_ := Aside0.mk ((by rw [hg]; exact Nat.ne_of_lt (blk_lt (g := gb111) (o := .cells #[.string t108, .int .i64 t109] 28 (0, 0)) (by apply_rules only [BK111.out, blk_drewN, blk_drew, blk_alloc])) : gb111 ≠ gb145)); have n21_ := Aside0.mk ((by rw [hg]; exact Nat.ne_of_gt (blk_lt (g := gb111) (o := .cells #[.string t108, .int .i64 t109] 28 (0, 0)) (by apply_rules only [BK111.out, blk_drewN, blk_drew, blk_alloc])) : gb145 ≠ gb111)); have n22_ := Aside0.mk ((by rw [hg]; exact Nat.ne_of_lt (blk_lt (g := gb118) (o := .cells #[.string t115, .int .i64 t116] 28 (0, 0)) (by apply_rules only [BK118.out, blk_drewN, blk_drew, blk_alloc])) : gb118 ≠ gb145)); have n23_ := Aside0.mk ((by rw [hg]; exact Nat.ne_of_gt (blk_lt (g := gb118) (o := .cells #[.string t115, .int .i64 t116] 28 (0, 0)) (by apply_rules only [BK118.out, blk_drewN, blk_drew, blk_alloc])) : gb145 ≠ gb118)); have n24_ := Aside0.mk ((by rw [hg]; exact Nat.ne_of_lt (blk_lt (g := gb122) (o := .cells #[.string t119, .int .i64 t120] 28 (0, 0)) (by apply_rules only [BK122.out, blk_drewN, blk_drew, blk_alloc])) : gb122 ≠ gb145)); have n25_ := Aside0.mk ((by rw [hg]; exact Nat.ne_of_gt (blk_lt (g := gb122) (o := .cells #[.string t119, .int .i64 t120] 28 (0, 0)) (by apply_rules only [BK122.out, blk_drewN, blk_drew, blk_alloc])) : gb145 ≠ gb122)); have n26_ := Aside0.mk ((by rw [hg]; exact Nat.ne_of_lt (blk_lt (g := gb141) (o := .cells #[.string t138, .int .i64 t139] 28 (0, 0)) (by apply_rules only [BK141.out, blk_drewN, blk_drew, blk_alloc])) : gb141 ≠ gb145)); have n27_ := Aside0.mk ((by rw [hg]; exact Nat.ne_of_gt (blk_lt (g := gb141) (o := .cells #[.string t138, .int .i64 t139] 28 (0, 0)) (by apply_rules only [BK141.out, blk_drewN, blk_drew, blk_alloc])) : gb145 ≠ gb141)); clear BK101; clear BK102; clear BK103; clear BK107; clear BK111; clear BK118; clear BK122; clear BK141; clear HB; have BK101 := n0_; have BK102 := n1_; have BK103 := n2_; have BK107 := n3_; have BK111 := n4_; have BK118 := n5_; have BK122 := n6_; have BK141 := n7_; have HB := n8_; have BK145 := n9_; have GW145 := n10_; have GE145 := n11_; have NB101_145 := n12_; have NB145_101 := n13_; have NB102_145 := n14_; have NB145_102 := n15_; have NB103_145 := n16_; have NB145_103 := n17_; have NB107_145 := n18_; have NB145_107 := n19_; have NB111_145 := n20_; have NB145_111 := n21_; have NB118_145 := n22_; have NB145_118 := n23_; have NB122_145 := n24_; have NB145_122 := n25_; have NB141_145 := n26_; have NB145_141 := n27_; clear n0_ n1_ n2_ n3_ n4_ n5_ n6_ n7_ n8_ n9_ n10_ n11_ n12_ n13_ n14_ n15_ n16_ n17_ n18_ n19_ n20_ n21_ n22_ n23_ n24_ n25_ n26_ n27_; clear hb hbox hg; have hnb246 := NB145_101.out; have hnc246 := NB101_145.out; have hnb247 := NB145_102.out; have hnc247 := NB102_145.out; have hnb248 := NB145_103.out; have hnc248 := NB103_145.out; have hnb249 := NB145_107.out; have hnc249 := NB107_145.out; have hnb250 := NB145_111.out; have hnc250 := NB111_145.out; have hnb251 := NB145_118.out; have hnc251 := NB118_145.out; have hnb252 := NB145_122.out; have hnc252 := NB122_145.out; have hnb253 := NB145_141.out; have hnc253 := NB141_145.out; have hcz254_0 : w245.cell? ⟨gb145, 0, none⟩ = some (.string (⟨#[]⟩ : ByteArray)) := (blk_cell BK145.out 0).trans rfl; have hcz254_1 : w245.cell? ⟨gb145, 1, none⟩ = some (.int .i64 0) := (blk_cell BK145.out 1).trans rfl; have hfz254_0 := blk_frozen BK145.out 0; have hfz254_1 := blk_frozen BK145.out 1; have hnb255 := NB103_101.out; have hnc255 := NB101_103.out; have hnb256 := NB103_107.out; have hnc256 := NB107_103.out; have hnb257 := NB103_111.out; have hnc257 := NB111_103.out; have hnb258 := NB103_118.out; have hnc258 := NB118_103.out; have hnb259 := NB103_122.out; have hnc259 := NB122_103.out; have hcz260_0 : w245.cell? ⟨gb103, 0, none⟩ = some (.string a7_0) := (blk_cell BK103.out 0).trans rfl; have hcz260_1 : w245.cell? ⟨gb103, 1, none⟩ = some (.int .i64 a7_1) := (blk_cell BK103.out 1).trans rfl; have hfz260_0 := blk_frozen BK103.out 0; have hfz260_1 := blk_frozen BK103.out 1) | ((with_reducible refine gate_callee (f := 29) rfl ?_); refine goesL_ (some 244) rfl rfl Tryd.func29 (by kernel_rfl) rfl #[.agg #[.string a7_0, .int .i64 a7_1], .int .i64 a8] rfl (by (try simp only [List.map_toArray, List.map_cons, List.map_nil]); first | done | rfl | (simp only [List.length_drop, List.length_take]; rfl)) ?_; (with_reducible refine (impl_HideNumber.calls a7_0 a7_1 a8 t146 t147 t148 _ A219.out).mono ?_); rintro e w261 ⟨rfl, hb⟩; refine ⟨_, rfl, ?_⟩; have n0_ := Aside0.mk (blk_below (g := gb101) (o := .cells #[.string a3_0, .int .i64 a3_1] 28 (0, 0)) (by (with_reducible repeat (first | refine blk_drewN ?_ _ | refine blk_drew ?_ | refine blk_alloc ?_ _)); refine blk_far ?_ NB101_145.out _; (with_reducible repeat (first | refine blk_drewN ?_ _ | refine blk_drew ?_ | refine blk_alloc ?_ _)); refine blk_far ?_ NB101_145.out _; apply_rules only [BK101.out, blk_drewN, blk_drew, blk_alloc]) hb); have n1_ := Aside0.mk (blk_below (g := gb102) (o := .cells #[.string a4_0, .int .i64 a4_1] 28 (0, 0)) (by (with_reducible repeat (first | refine blk_drewN ?_ _ | refine blk_drew ?_ | refine blk_alloc ?_ _)); refine blk_far ?_ NB102_145.out _; (with_reducible repeat (first | refine blk_drewN ?_ _ | refine blk_drew ?_ | refine blk_alloc ?_ _)); refine blk_far ?_ NB102_145.out _; apply_rules only [BK102.out, blk_drewN, blk_drew, blk_alloc]) hb); have n2_ := Aside0.mk (blk_below (g := gb103) (o := .cells #[.string a7_0, .int .i64 a7_1] 28 (0, 0)) (by (with_reducible repeat (first | refine blk_drewN ?_ _ | refine blk_drew ?_ | refine blk_alloc ?_ _)); refine blk_far ?_ NB103_145.out _; (with_reducible repeat (first | refine blk_drewN ?_ _ | refine blk_drew ?_ | refine blk_alloc ?_ _)); refine blk_far ?_ NB103_145.out _; apply_rules only [BK103.out, blk_drewN, blk_drew, blk_alloc]) hb); have n3_ := Aside0.mk (blk_below (g := gb107) (o := .cells #[.string t104, .int .i64 t105] 28 (0, 0)) (by (with_reducible repeat (first | refine blk_drewN ?_ _ | refine blk_drew ?_ | refine blk_alloc ?_ _)); refine blk_far ?_ NB107_145.out _; (with_reducible repeat (first | refine blk_drewN ?_ _ | refine blk_drew ?_ | refine blk_alloc ?_ _)); refine blk_far ?_ NB107_145.out _; apply_rules only [BK107.out, blk_drewN, blk_drew, blk_alloc]) hb); have n4_ := Aside0.mk (blk_below (g := gb111) (o := .cells #[.string t108, .int .i64 t109] 28 (0, 0)) (by (with_reducible repeat (first | refine blk_drewN ?_ _ | refine blk_drew ?_ | refine blk_alloc ?_ _)); refine blk_far ?_ NB111_145.out _; (with_reducible repeat (first | refine blk_drewN ?_ _ | refine blk_drew ?_ | refine blk_alloc ?_ _)); refine blk_far ?_ NB111_145.out _; apply_rules only [BK111.out, blk_drewN, blk_drew, blk_alloc]) hb); have n5_ := Aside0.mk (blk_below (g := gb118) (o := .cells #[.string t115, .int .i64 t116] 28 (0, 0)) (by (with_reducible repeat (first | refine blk_drewN ?_ _ | refine blk_drew ?_ | refine blk_alloc ?_ _)); refine blk_far ?_ NB118_145.out _; (with_reducible repeat (first | refine blk_drewN ?_ _ | refine blk_drew ?_ | refine blk_alloc ?_ _)); refine blk_far ?_ NB118_145.out _; apply_rules only [BK118.out, blk_drewN, blk_drew, blk_alloc]) hb); have n6_ := Aside0.mk (blk_below (g := gb122) (o := .cells #[.string t119, .int .i64 t120] 28 (0, 0)) (by (with_reducible repeat (first | refine blk_drewN ?_ _ | refine blk_drew ?_ | refine blk_alloc ?_ _)); refine blk_far ?_ NB122_145.out _; (with_reducible repeat (first | refine blk_drewN ?_ _ | refine blk_drew ?_ | refine blk_alloc ?_ _)); refine blk_far ?_ NB122_145.out _; apply_rules only [BK122.out, blk_drewN, blk_drew, blk_alloc]) hb); have n7_ := Aside0.mk (blk_below (g := gb141) (o := .cells #[.string t138, .int .i64 t139] 28 (0, 0)) (by (with_reducible repeat (first | refine blk_drewN ?_ _ | refine blk_drew ?_ | refine blk_alloc ?_ _)); refine blk_far ?_ NB141_145.out _; (with_reducible repeat (first | refine blk_drewN ?_ _ | refine blk_drew ?_ | refine blk_alloc ?_ _)); refine blk_far ?_ NB141_145.out _; apply_rules only [BK141.out, blk_drewN, blk_drew, blk_alloc]) hb); have n8_ := Aside0.mk (blk_below (g := gb145) (o := .cells #[.string t142, .int .i64 t143] 28 (0, 0)) (by (with_reducible repeat (first | refine blk_drewN ?_ _ | refine blk_drew ?_ | refine blk_alloc ?_ _)); refine blk_put (cs := #[.string t142, .int .i64 0]) ?_ 1 _ rfl; (with_reducible repeat (first | refine blk_drewN ?_ _ | refine blk_drew ?_ | refine blk_alloc ?_ _)); refine blk_put (cs := #[.string (⟨#[]⟩ : ByteArray), .int .i64 0]) ?_ 0 _ rfl; apply_rules only [BK145.out, blk_drewN, blk_drew, blk_alloc]) hb); have n9_ := Aside0.mk (below_step (by apply_rules only [HB.out, below_alloc, pw_below_drewN, below_drew1, below_set, GE101.out, GE102.out, GE103.out, GE107.out, GE111.out, GE118.out, GE122.out, GE141.out, GE145.out]) hb); clear BK101; clear BK102; clear BK103; clear BK107; clear BK111; clear BK118; clear BK122; clear BK141; clear BK145; clear HB; have BK101 := n0_; have BK102 := n1_; have BK103 := n2_; have BK107 := n3_; have BK111 := n4_; have BK118 := n5_; have BK122 := n6_; have BK141 := n7_; have BK145 := n8_; have HB := n9_; clear n0_ n1_ n2_ n3_ n4_ n5_ n6_ n7_ n8_ n9_; (try clear hb); (try clear hb2); (try clear hk); (try clear hi)) | ((with_reducible refine gate_dst (N := 48) rfl ?_); (try (refine gate_guard (by rfl) ?_; dsimp only)); refine box_event ?hg (N := 48) ?hd (cs := #[.string (⟨#[]⟩ : ByteArray), .int .i64 0]) (t := 28) ?hr ?_; (case hd => rfl); (case hg => rfl); (case hr => first | (go_simp; done) | (go_simp; rfl)); intro gb149 hg w262 hbox hb; have n0_ := Aside0.mk (blk_below (by apply_rules only [BK101.out, blk_drewN, blk_drew, blk_alloc]) hb); have n1_ := Aside0.mk (blk_below (by apply_rules only [BK102.out, blk_drewN, blk_drew, blk_alloc]) hb); have n2_ := Aside0.mk (blk_below (by apply_rules only [BK103.out, blk_drewN, blk_drew, blk_alloc]) hb); have n3_ := Aside0.mk (blk_below (by apply_rules only [BK107.out, blk_drewN, blk_drew, blk_alloc]) hb); have n4_ := Aside0.mk (blk_below (by apply_rules only [BK111.out, blk_drewN, blk_drew, blk_alloc]) hb); have n5_ := Aside0.mk (blk_below (by apply_rules only [BK118.out, blk_drewN, blk_drew, blk_alloc]) hb); have n6_ := Aside0.mk (blk_below (by apply_rules only [BK122.out, blk_drewN, blk_drew, blk_alloc]) hb); have n7_ := Aside0.mk (blk_below (by apply_rules only [BK141.out, blk_drewN, blk_drew, blk_alloc]) hb); have n8_ := Aside0.mk (blk_below (by apply_rules only [BK145.out, blk_drewN, blk_drew, blk_alloc]) hb); have n9_ := Aside0.mk (below_step (by apply_rules only [HB.out, below_alloc, pw_below_drewN, below_drew1, below_set, GE101.out, GE102.out, GE103.out, GE107.out, GE111.out, GE118.out, GE122.out, GE141.out, GE145.out]) hb); have n10_ := Aside0.mk (hbox); have n11_ := Aside0.mk ((by rw [hg]; exact (below_size (by apply_rules only [HB.out, below_alloc, pw_below_drewN, below_drew1, below_set, GE101.out, GE102.out, GE103.out, GE107.out, GE111.out, GE118.out, GE122.out, GE141.out, GE145.out])) : w.heap.size ≤ gb149)); have n12_ := Aside0.mk ((by rw [hg]; exact (below_size (by apply_rules only [HB.out, below_alloc, pw_below_drewN, below_drew1, below_set, GE101.out, GE102.out, GE103.out, GE107.out, GE111.out, GE118.out, GE122.out, GE141.out, GE145.out])) : w.heap.size ≤ gb149)); have n13_ := Aside0.mk ((by rw [hg]; exact Nat.ne_of_lt (blk_lt (g := gb101) (o := .cells #[.string a3_0, .int .i64 a3_1] 28 (0, 0)) (by apply_rules only [BK101.out, blk_drewN, blk_drew, blk_alloc])) : gb101 ≠ gb149)); have n14_ := Aside0.mk ((by rw [hg]; exact Nat.ne_of_gt (blk_lt (g := gb101) (o := .cells #[.string a3_0, .int .i64 a3_1] 28 (0, 0)) (by apply_rules only [BK101.out, blk_drewN, blk_drew, blk_alloc])) : gb149 ≠ gb101)); have n15_ := Aside0.mk ((by rw [hg]; exact Nat.ne_of_lt (blk_lt (g := gb102) (o := .cells #[.string a4_0, .int .i64 a4_1] 28 (0, 0)) (by apply_rules only [BK102.out, blk_drewN, blk_drew, blk_alloc])) : gb102 ≠ gb149)); have n16_ := Aside0.mk ((by rw [hg]; exact Nat.ne_of_gt (blk_lt (g := gb102) (o := .cells #[.string a4_0, .int .i64 a4_1] 28 (0, 0)) (by apply_rules only [BK102.out, blk_drewN, blk_drew, blk_alloc])) : gb149 ≠ gb102)); have n17_ := Aside0.mk ((by rw [hg]; exact Nat.ne_of_lt (blk_lt (g := gb103) (o := .cells #[.string a7_0, .int .i64 a7_1] 28 (0, 0)) (by apply_rules only [BK103.out, blk_drewN, blk_drew, blk_alloc])) : gb103 ≠ gb149)); have n18_ := Aside0.mk ((by rw [hg]; exact Nat.ne_of_gt (blk_lt (g := gb103) (o := .cells #[.string a7_0, .int .i64 a7_1] 28 (0, 0)) (by apply_rules only [BK103.out, blk_drewN, blk_drew, blk_alloc])) : gb149 ≠ gb103)); have n19_ := Aside0.mk ((by rw [hg]; exact Nat.ne_of_lt (blk_lt (g := gb107) (o := .cells #[.string t104, .int .i64 t105] 28 (0, 0)) (by apply_rules only [BK107.out, blk_drewN, blk_drew, blk_alloc])) : gb107 ≠ gb149)); have n20_ := Aside0.mk ((by rw [hg]; exact Nat.ne_of_gt (blk_lt (g := gb107) (o := .cells #[.string t104, .int .i64 t105] 28 (0, 0)) (by apply_rules only [BK107.out, blk_drewN, blk_drew, blk_alloc])) : gb149 ≠ gb107)); have n21_ := Aside0.mk ((by rw [hg]; exact Nat.ne_of_lt (blk_lt (g := gb111) (o := .cells #[.string t108, .int .i64 t109] 28 (0, 0)) (by apply_rules only [BK111.out, blk_drewN, blk_drew, blk_alloc])) : gb111 ≠ gb149)); have n22_ := Aside0.mk ((by rw [hg]; exact Nat.ne_of_gt (blk_lt (g := gb111) (o := .cells #[.string t108, .int .i64 t109] 28 (0, 0)) (by apply_rules only [BK111.out, blk_drewN, blk_drew, blk_alloc])) : gb149 ≠ gb111)); have n23_ := Aside0.mk ((by rw [hg]; exact Nat.ne_of_lt (blk_lt (g := gb118) (o := .cells #[.string t115, .int .i64 t116] 28 (0, 0)) (by apply_rules only [BK118.out, blk_drewN, blk_drew, blk_alloc])) : gb118 ≠ gb149)); have n24_ := Aside0.mk ((by rw [hg]; exact Nat.ne_of_gt (blk_lt (g := gb118) (o := .cells #[.string t115, .int .i64 t116] 28 (0, 0)) (by apply_rules only [BK118.out, blk_drewN, blk_drew, blk_alloc])) : gb149 ≠ gb118)); have n25_ := Aside0.mk ((by rw [hg]; exact Nat.ne_of_lt (blk_lt (g := gb122) (o := .cells #[.string t119, .int .i64 t120] 28 (0, 0)) (by apply_rules only [BK122.out, blk_drewN, blk_drew, blk_alloc])) : gb122 ≠ gb149)); have n26_ := Aside0.mk ((by rw [hg]; exact Nat.ne_of_gt (blk_lt (g := gb122) (o := .cells #[.string t119, .int .i64 t120] 28 (0, 0)) (by apply_rules only [BK122.out, blk_drewN, blk_drew, blk_alloc])) : gb149 ≠ gb122)); have n27_ := Aside0.mk ((by rw [hg]; exact Nat.ne_of_lt (blk_lt (g := gb141) (o := .cells #[.string t138, .int .i64 t139] 28 (0, 0)) (by apply_rules only [BK141.out, blk_drewN, blk_drew, blk_alloc])) : gb141 ≠ gb149)); have n28_ := Aside0.mk ((by rw [hg]; exact Nat.ne_of_gt (blk_lt (g := gb141) (o := .cells #[.string t138, .int .i64 t139] 28 (0, 0)) (by apply_rules only [BK141.out, blk_drewN, blk_drew, blk_alloc])) : gb149 ≠ gb141)); have n29_ := Aside0.mk ((by rw [hg]; exact Nat.ne_of_lt (blk_lt (g := gb145) (o := .cells #[.string t142, .int .i64 t143] 28 (0, 0)) (by apply_rules only [BK145.out, blk_drewN, blk_drew, blk_alloc])) : gb145 ≠ gb149)); have n30_ := Aside0.mk ((by rw [hg]; exact Nat.ne_of_gt (blk_lt (g := gb145) (o := .cells #[.string t142, .int .i64 t143] 28 (0, 0)) (by apply_rules only [BK145.out, blk_drewN, blk_drew, blk_alloc])) : gb149 ≠ gb145)); clear BK101; clear BK102; clear BK103; clear BK107; clear BK111; clear BK118; clear BK122; clear BK141; clear BK145; clear HB; have BK101 := n0_; have BK102 := n1_; have BK103 := n2_; have BK107 := n3_; have BK111 := n4_; have BK118 := n5_; have BK122 := n6_; have BK141 := n7_; have BK145 := n8_; have HB := n9_; have BK149 := n10_; have GW149 := n11_; have GE149 := n12_; have NB101_149 := n13_; have NB149_101 := n14_; have NB102_149 := n15_; have NB149_102 := n16_; have NB103_149 := n17_; have NB149_103 := n18_; have NB107_149 := n19_; have NB149_107 := n20_; have NB111_149 := n21_; have NB149_111 := n22_; have NB118_149 := n23_; have NB149_118 := n24_; have NB122_149 := n25_; have NB149_122 := n26_; have NB141_149 := n27_; have NB149_141 := n28_; have NB145_149 := n29_; have NB149_145 := n30_; clear n0_ n1_ n2_ n3_ n4_ n5_ n6_ n7_ n8_ n9_ n10_ n11_ n12_ n13_ n14_ n15_ n16_ n17_ n18_ n19_ n20_ n21_ n22_ n23_ n24_ n25_ n26_ n27_ n28_ n29_ n30_; clear hb hbox hg; have hnb263 := NB149_101.out; have hnc263 := NB101_149.out; have hnb264 := NB149_102.out; have hnc264 := NB102_149.out; have hnb265 := NB149_103.out; have hnc265 := NB103_149.out; have hnb266 := NB149_107.out; have hnc266 := NB107_149.out; have hnb267 := NB149_111.out; have hnc267 := NB111_149.out; have hnb268 := NB149_118.out; have hnc268 := NB118_149.out; have hnb269 := NB149_122.out; have hnc269 := NB122_149.out; have hnb270 := NB149_141.out; have hnc270 := NB141_149.out; have hnb271 := NB149_145.out; have hnc271 := NB145_149.out; have hcz272_0 : w262.cell? ⟨gb149, 0, none⟩ = some (.string (⟨#[]⟩ : ByteArray)) := (blk_cell BK149.out 0).trans rfl; have hcz272_1 : w262.cell? ⟨gb149, 1, none⟩ = some (.int .i64 0) := (blk_cell BK149.out 1).trans rfl; have hfz272_0 := blk_frozen BK149.out 0; have hfz272_1 := blk_frozen BK149.out 1; have hcz273_0 : w262.cell? ⟨gb103, 0, none⟩ = some (.string a7_0) := (blk_cell BK103.out 0).trans rfl; have hcz273_1 : w262.cell? ⟨gb103, 1, none⟩ = some (.int .i64 a7_1) := (blk_cell BK103.out 1).trans rfl; have hfz273_0 := blk_frozen BK103.out 0; have hfz273_1 := blk_frozen BK103.out 1) | ((with_reducible refine gate_callee (f := 33) rfl ?_); refine goesL_ (some 250) rfl rfl Tryd.func33 (by kernel_rfl) rfl #[.agg #[.string a7_0, .int .i64 a7_1], .int .i64 a8] rfl (by (try simp only [List.map_toArray, List.map_cons, List.map_nil]); first | done | rfl | (simp only [List.length_drop, List.length_take]; rfl)) ?_; (with_reducible refine (spec_HideNumber.calls kj104 a7_0 a7_1 a8 t150 t151 t152 _ A220.out).mono ?_); rintro e w274 ⟨rfl, hb⟩; refine ⟨_, rfl, ?_⟩; have n0_ := Aside0.mk (blk_below (g := gb101) (o := .cells #[.string a3_0, .int .i64 a3_1] 28 (0, 0)) (by (with_reducible repeat (first | refine blk_drewN ?_ _ | refine blk_drew ?_ | refine blk_alloc ?_ _)); refine blk_far ?_ NB101_149.out _; (with_reducible repeat (first | refine blk_drewN ?_ _ | refine blk_drew ?_ | refine blk_alloc ?_ _)); refine blk_far ?_ NB101_149.out _; apply_rules only [BK101.out, blk_drewN, blk_drew, blk_alloc]) hb); have n1_ := Aside0.mk (blk_below (g := gb102) (o := .cells #[.string a4_0, .int .i64 a4_1] 28 (0, 0)) (by (with_reducible repeat (first | refine blk_drewN ?_ _ | refine blk_drew ?_ | refine blk_alloc ?_ _)); refine blk_far ?_ NB102_149.out _; (with_reducible repeat (first | refine blk_drewN ?_ _ | refine blk_drew ?_ | refine blk_alloc ?_ _)); refine blk_far ?_ NB102_149.out _; apply_rules only [BK102.out, blk_drewN, blk_drew, blk_alloc]) hb); have n2_ := Aside0.mk (blk_below (g := gb103) (o := .cells #[.string a7_0, .int .i64 a7_1] 28 (0, 0)) (by (with_reducible repeat (first | refine blk_drewN ?_ _ | refine blk_drew ?_ | refine blk_alloc ?_ _)); refine blk_far ?_ NB103_149.out _; (with_reducible repeat (first | refine blk_drewN ?_ _ | refine blk_drew ?_ | refine blk_alloc ?_ _)); refine blk_far ?_ NB103_149.out _; apply_rules only [BK103.out, blk_drewN, blk_drew, blk_alloc]) hb); have n3_ := Aside0.mk (blk_below (g := gb107) (o := .cells #[.string t104, .int .i64 t105] 28 (0, 0)) (by (with_reducible repeat (first | refine blk_drewN ?_ _ | refine blk_drew ?_ | refine blk_alloc ?_ _)); refine blk_far ?_ NB107_149.out _; (with_reducible repeat (first | refine blk_drewN ?_ _ | refine blk_drew ?_ | refine blk_alloc ?_ _)); refine blk_far ?_ NB107_149.out _; apply_rules only [BK107.out, blk_drewN, blk_drew, blk_alloc]) hb); have n4_ := Aside0.mk (blk_below (g := gb111) (o := .cells #[.string t108, .int .i64 t109] 28 (0, 0)) (by (with_reducible repeat (first | refine blk_drewN ?_ _ | refine blk_drew ?_ | refine blk_alloc ?_ _)); refine blk_far ?_ NB111_149.out _; (with_reducible repeat (first | refine blk_drewN ?_ _ | refine blk_drew ?_ | refine blk_alloc ?_ _)); refine blk_far ?_ NB111_149.out _; apply_rules only [BK111.out, blk_drewN, blk_drew, blk_alloc]) hb); have n5_ := Aside0.mk (blk_below (g := gb118) (o := .cells #[.string t115, .int .i64 t116] 28 (0, 0)) (by (with_reducible repeat (first | refine blk_drewN ?_ _ | refine blk_drew ?_ | refine blk_alloc ?_ _)); refine blk_far ?_ NB118_149.out _; (with_reducible repeat (first | refine blk_drewN ?_ _ | refine blk_drew ?_ | refine blk_alloc ?_ _)); refine blk_far ?_ NB118_149.out _; apply_rules only [BK118.out, blk_drewN, blk_drew, blk_alloc]) hb); have n6_ := Aside0.mk (blk_below (g := gb122) (o := .cells #[.string t119, .int .i64 t120] 28 (0, 0)) (by (with_reducible repeat (first | refine blk_drewN ?_ _ | refine blk_drew ?_ | refine blk_alloc ?_ _)); refine blk_far ?_ NB122_149.out _; (with_reducible repeat (first | refine blk_drewN ?_ _ | refine blk_drew ?_ | refine blk_alloc ?_ _)); refine blk_far ?_ NB122_149.out _; apply_rules only [BK122.out, blk_drewN, blk_drew, blk_alloc]) hb); have n7_ := Aside0.mk (blk_below (g := gb141) (o := .cells #[.string t138, .int .i64 t139] 28 (0, 0)) (by (with_reducible repeat (first | refine blk_drewN ?_ _ | refine blk_drew ?_ | refine blk_alloc ?_ _)); refine blk_far ?_ NB141_149.out _; (with_reducible repeat (first | refine blk_drewN ?_ _ | refine blk_drew ?_ | refine blk_alloc ?_ _)); refine blk_far ?_ NB141_149.out _; apply_rules only [BK141.out, blk_drewN, blk_drew, blk_alloc]) hb); have n8_ := Aside0.mk (blk_below (g := gb145) (o := .cells #[.string t142, .int .i64 t143] 28 (0, 0)) (by (with_reducible repeat (first | refine blk_drewN ?_ _ | refine blk_drew ?_ | refine blk_alloc ?_ _)); refine blk_far ?_ NB145_149.out _; (with_reducible repeat (first | refine blk_drewN ?_ _ | refine blk_drew ?_ | refine blk_alloc ?_ _)); refine blk_far ?_ NB145_149.out _; apply_rules only [BK145.out, blk_drewN, blk_drew, blk_alloc]) hb); have n9_ := Aside0.mk (blk_below (g := gb149) (o := .cells #[.string t146, .int .i64 t147] 28 (0, 0)) (by (with_reducible repeat (first | refine blk_drewN ?_ _ | refine blk_drew ?_ | refine blk_alloc ?_ _)); refine blk_put (cs := #[.string t146, .int .i64 0]) ?_ 1 _ rfl; (with_reducible repeat (first | refine blk_drewN ?_ _ | refine blk_drew ?_ | refine blk_alloc ?_ _)); refine blk_put (cs := #[.string (⟨#[]⟩ : ByteArray), .int .i64 0]) ?_ 0 _ rfl; apply_rules only [BK149.out, blk_drewN, blk_drew, blk_alloc]) hb); have n10_ := Aside0.mk (below_step (by apply_rules only [HB.out, below_alloc, pw_below_drewN, below_drew1, below_set, GE101.out, GE102.out, GE103.out, GE107.out, GE111.out, GE118.out, GE122.out, GE141.out, GE145.out, GE149.out]) hb); clear BK101; clear BK102; clear BK103; clear BK107; clear BK111; clear BK118; clear BK122; clear BK141; clear BK145; clear BK149; clear HB; have BK101 := n0_; have BK102 := n1_; have BK103 := n2_; have BK107 := n3_; have BK111 := n4_; have BK118 := n5_; have BK122 := n6_; have BK141 := n7_; have BK145 := n8_; have BK149 := n9_; have HB := n10_; clear n0_ n1_ n2_ n3_ n4_ n5_ n6_ n7_ n8_ n9_ n10_; (try clear hb); (try clear hb2); (try clear hk); (try clear hi)) | ((with_reducible refine gate_dst (N := 50) rfl ?_); (try (refine gate_guard (by rfl) ?_; dsimp only)); refine box_event ?hg (N := 50) ?hd (cs := #[.string (⟨#[]⟩ : ByteArray), .int .i64 0]) (t := 28) ?hr ?_; (case hd => rfl); (case hg => rfl); (case hr => first | (go_simp; done) | (go_simp; rfl)); intro gb153 hg w275 hbox hb; have n0_ := Aside0.mk (blk_below (by apply_rules only [BK101.out, blk_drewN, blk_drew, blk_alloc]) hb); have n1_ := Aside0.mk (blk_below (by apply_rules only [BK102.out, blk_drewN, blk_drew, blk_alloc]) hb); have n2_ := Aside0.mk (blk_below (by apply_rules only [BK103.out, blk_drewN, blk_drew, blk_alloc]) hb); have n3_ := Aside0.mk (blk_below (by apply_rules only [BK107.out, blk_drewN, blk_drew, blk_alloc]) hb); have n4_ := Aside0.mk (blk_below (by apply_rules only [BK111.out, blk_drewN, blk_drew, blk_alloc]) hb); have n5_ := Aside0.mk (blk_below (by apply_rules only [BK118.out, blk_drewN, blk_drew, blk_alloc]) hb); have n6_ := Aside0.mk (blk_below (by apply_rules only [BK122.out, blk_drewN, blk_drew, blk_alloc]) hb); have n7_ := Aside0.mk (blk_below (by apply_rules only [BK141.out, blk_drewN, blk_drew, blk_alloc]) hb); have n8_ := Aside0.mk (blk_below (by apply_rules only [BK145.out, blk_drewN, blk_drew, blk_alloc]) hb); have n9_ := Aside0.mk (blk_below (by apply_rules only [BK149.out, blk_drewN, blk_drew, blk_alloc]) hb); have n10_ := Aside0.mk (below_step (by apply_rules only [HB.out, below_alloc, pw_below_drewN, below_drew1, below_set, GE101.out, GE102.out, GE103.out, GE107.out, GE111.out, GE118.out, GE122.out, GE141.out, GE145.out, GE149.out]) hb); have n11_ := Aside0.mk (hbox); have n12_ := Aside0.mk ((by rw [hg]; exact (below_size (by apply_rules only [HB.out, below_alloc, pw_below_drewN, below_drew1, below_set, GE101.out, GE102.out, GE103.out, GE107.out, GE111.out, GE118.out, GE122.out, GE141.out, GE145.out, GE149.out])) : w.heap.size ≤ gb153)); have n13_ := Aside0.mk ((by rw [hg]; exact (below_size (by apply_rules only [HB.out, below_alloc, pw_below_drewN, below_drew1, below_set, GE101.out, GE102.out, GE103.out, GE107.out, GE111.out, GE118.out, GE122.out, GE141.out, GE145.out, GE149.out])) : w.heap.size ≤ gb153)); have n14_ := Aside0.mk ((by rw [hg]; exact Nat.ne_of_lt (blk_lt (g := gb101) (o := .cells #[.string a3_0, .int .i64 a3_1] 28 (0, 0)) (by apply_rules only [BK101.out, blk_drewN, blk_drew, blk_alloc])) : gb101 ≠ gb153)); have n15_ := Aside0.mk ((by rw [hg]; exact Nat.ne_of_gt (blk_lt (g := gb101) (o := .cells #[.string a3_0, .int .i64 a3_1] 28 (0, 0)) (by apply_rules only [BK101.out, blk_drewN, blk_drew, blk_alloc])) : gb153 ≠ gb101)); have n16_ := Aside0.mk ((by rw [hg]; exact Nat.ne_of_lt (blk_lt (g := gb102) (o := .cells #[.string a4_0, .int .i64 a4_1] 28 (0, 0)) (by apply_rules only [BK102.out, blk_drewN, blk_drew, blk_alloc])) : gb102 ≠ gb153)); have n17_ := Aside0.mk ((by rw [hg]; exact Nat.ne_of_gt (blk_lt (g := gb102) (o := .cells #[.string a4_0, .int .i64 a4_1] 28 (0, 0)) (by apply_rules only [BK102.out, blk_drewN, blk_drew, blk_alloc])) : gb153 ≠ gb102)); have n18_ := Aside0.mk ((by rw [hg]; exact Nat.ne_of_lt (blk_lt (g := gb103) (o := .cells #[.string a7_0, .int .i64 a7_1] 28 (0, 0)) (by apply_rules only [BK103.out, blk_drewN, blk_drew, blk_alloc])) : gb103 ≠ gb153)); have n19_ := Aside0.mk ((by rw [hg]; exact Nat.ne_of_gt (blk_lt (g := gb103) (o := .cells #[.string a7_0, .int .i64 a7_1] 28 (0, 0)) (by apply_rules only [BK103.out, blk_drewN, blk_drew, blk_alloc])) : gb153 ≠ gb103)); have n20_ := Aside0.mk ((by rw [hg]; exact Nat.ne_of_lt (blk_lt (g := gb107) (o := .cells #[.string t104, .int .i64 t105] 28 (0, 0)) (by apply_rules only [BK107.out, blk_drewN, blk_drew, blk_alloc])) : gb107 ≠ gb153)); have n21_ := Aside0.mk ((by rw [hg]; exact Nat.ne_of_gt (blk_lt (g := gb107) (o := .cells #[.string t104, .int .i64 t105] 28 (0, 0)) (by apply_rules only [BK107.out, blk_drewN, blk_drew, blk_alloc])) : gb153 ≠ gb107)); have n22_ := Aside0.mk ((by rw [hg]; exact Nat.ne_of_lt (blk_lt (g := gb111) (o := .cells #[.string t108, .int .i64 t109] 28 (0, 0)) (by apply_rules only [BK111.out, blk_drewN, blk_drew, blk_alloc])) : gb111 ≠ gb153)); have n23_ := Aside0.mk ((by rw [hg]; exact Nat.ne_of_gt (blk_lt (g := gb111) (o := .cells #[.string t108, .int .i64 t109] 28 (0, 0)) (by apply_rules only [BK111.out, blk_drewN, blk_drew, blk_alloc])) : gb153 ≠ gb111)); have n24_ := Aside0.mk ((by rw [hg]; exact Nat.ne_of_lt (blk_lt (g := gb118) (o := .cells #[.string t115, .int .i64 t116] 28 (0, 0)) (by apply_rules only [BK118.out, blk_drewN, blk_drew, blk_alloc])) : gb118 ≠ gb153)); have n25_ := Aside0.mk ((by rw [hg]; exact Nat.ne_of_gt (blk_lt (g := gb118) (o := .cells #[.string t115, .int .i64 t116] 28 (0, 0)) (by apply_rules only [BK118.out, blk_drewN, blk_drew, blk_alloc])) : gb153 ≠ gb118)); have n26_ := Aside0.mk ((by rw [hg]; exact Nat.ne_of_lt (blk_lt (g := gb122) (o := .cells #[.string t119, .int .i64 t120] 28 (0, 0)) (by apply_rules only [BK122.out, blk_drewN, blk_drew, blk_alloc])) : gb122 ≠ gb153)); have n27_ := Aside0.mk ((by rw [hg]; exact Nat.ne_of_gt (blk_lt (g := gb122) (o := .cells #[.string t119, .int .i64 t120] 28 (0, 0)) (by apply_rules only [BK122.out, blk_drewN, blk_drew, blk_alloc])) : gb153 ≠ gb122)); have n28_ := Aside0.mk ((by rw [hg]; exact Nat.ne_of_lt (blk_lt (g := gb141) (o := .cells #[.string t138, .int .i64 t139] 28 (0, 0)) (by apply_rules only [BK141.out, blk_drewN, blk_drew, blk_alloc])) : gb141 ≠ gb153)); have n29_ := Aside0.mk ((by rw [hg]; exact Nat.ne_of_gt (blk_lt (g := gb141) (o := .cells #[.string t138, .int .i64 t139] 28 (0, 0)) (by apply_rules only [BK141.out, blk_drewN, blk_drew, blk_alloc])) : gb153 ≠ gb141)); have n30_ := Aside0.mk ((by rw [hg]; exact Nat.ne_of_lt (blk_lt (g := gb145) (o := .cells #[.string t142, .int .i64 t143] 28 (0, 0)) (by apply_rules only [BK145.out, blk_drewN, blk_drew, blk_alloc])) : gb145 ≠ gb153)); have n31_ := Aside0.mk ((by rw [hg]; exact Nat.ne_of_gt (blk_lt (g := gb145) (o := .cells #[.string t142, .int .i64 t143] 28 (0, 0)) (by apply_rules only [BK145.out, blk_drewN, blk_drew, blk_alloc])) : gb153 ≠ gb145)); have n32_ := Aside0.mk ((by rw [hg]; exact Nat.ne_of_lt (blk_lt (g := gb149) (o := .cells #[.string t146, .int .i64 t147] 28 (0, 0)) (by apply_rules only [BK149.out, blk_drewN, blk_drew, blk_alloc])) : gb149 ≠ gb153)); have n33_ := Aside0.mk ((by rw [hg]; exact Nat.ne_of_gt (blk_lt (g := gb149) (o := .cells #[.string t146, .int .i64 t147] 28 (0, 0)) (by apply_rules only [BK149.out, blk_drewN, blk_drew, blk_alloc])) : gb153 ≠ gb149)); clear BK101; clear BK102; clear BK103; clear BK107; clear BK111; clear BK118; clear BK122; clear BK141; clear BK145; clear BK149; clear HB; have BK101 := n0_; have BK102 := n1_; have BK103 := n2_; have BK107 := n3_; have BK111 := n4_; have BK118 := n5_; have BK122 := n6_; have BK141 := n7_; have BK145 := n8_; have BK149 := n9_; have HB := n10_; have BK153 := n11_; have GW153 := n12_; have GE153 := n13_; have NB101_153 := n14_; have NB153_101 := n15_; have NB102_153 := n16_; have NB153_102 := n17_; have NB103_153 := n18_; have NB153_103 := n19_; have NB107_153 := n20_; have NB153_107 := n21_; have NB111_153 := n22_; have NB153_111 := n23_; have NB118_153 := n24_; have NB153_118 := n25_; have NB122_153 := n26_; have NB153_122 := n27_; have NB141_153 := n28_; have NB153_141 := n29_; have NB145_153 := n30_; have NB153_145 := n31_; have NB149_153 := n32_; have NB153_149 := n33_; clear n0_ n1_ n2_ n3_ n4_ n5_ n6_ n7_ n8_ n9_ n10_ n11_ n12_ n13_ n14_ n15_ n16_ n17_ n18_ n19_ n20_ n21_ n22_ n23_ n24_ n25_ n26_ n27_ n28_ n29_ n30_ n31_ n32_ n33_; clear hb hbox hg; have hnb276 := NB153_101.out; have hnc276 := NB101_153.out; have hnb277 := NB153_102.out; have hnc277 := NB102_153.out; have hnb278 := NB153_103.out; have hnc278 := NB103_153.out; have hnb279 := NB153_107.out; have hnc279 := NB107_153.out; have hnb280 := NB153_111.out; have hnc280 := NB111_153.out; have hnb281 := NB153_118.out; have hnc281 := NB118_153.out; have hnb282 := NB153_122.out; have hnc282 := NB122_153.out; have hnb283 := NB153_141.out; have hnc283 := NB141_153.out; have hnb284 := NB153_145.out; have hnc284 := NB145_153.out; have hnb285 := NB153_149.out; have hnc285 := NB149_153.out; have hcz286_0 : w275.cell? ⟨gb153, 0, none⟩ = some (.string (⟨#[]⟩ : ByteArray)) := (blk_cell BK153.out 0).trans rfl; have hcz286_1 : w275.cell? ⟨gb153, 1, none⟩ = some (.int .i64 0) := (blk_cell BK153.out 1).trans rfl; have hfz286_0 := blk_frozen BK153.out 0; have hfz286_1 := blk_frozen BK153.out 1) | ((with_reducible refine gate_callee (f := 24) rfl ?_); refine goesL_ (some 255) rfl rfl Tryd.func24 (by kernel_rfl) rfl #[.string a9] rfl (by (try simp only [List.map_toArray, List.map_cons, List.map_nil]); first | done | rfl | (simp only [List.length_drop, List.length_take]; rfl)) ?_; (with_reducible refine (impl_FewestRules.calls kj104 a9 t154 t155 _ A221.out).mono ?_); rintro e w287 ⟨rfl, hb⟩; refine ⟨_, rfl, ?_⟩; have n0_ := Aside0.mk (blk_below (g := gb101) (o := .cells #[.string a3_0, .int .i64 a3_1] 28 (0, 0)) (by (with_reducible repeat (first | refine blk_drewN ?_ _ | refine blk_drew ?_ | refine blk_alloc ?_ _)); refine blk_far ?_ NB101_153.out _; (with_reducible repeat (first | refine blk_drewN ?_ _ | refine blk_drew ?_ | refine blk_alloc ?_ _)); refine blk_far ?_ NB101_153.out _; apply_rules only [BK101.out, blk_drewN, blk_drew, blk_alloc]) hb); have n1_ := Aside0.mk (blk_below (g := gb102) (o := .cells #[.string a4_0, .int .i64 a4_1] 28 (0, 0)) (by (with_reducible repeat (first | refine blk_drewN ?_ _ | refine blk_drew ?_ | refine blk_alloc ?_ _)); refine blk_far ?_ NB102_153.out _; (with_reducible repeat (first | refine blk_drewN ?_ _ | refine blk_drew ?_ | refine blk_alloc ?_ _)); refine blk_far ?_ NB102_153.out _; apply_rules only [BK102.out, blk_drewN, blk_drew, blk_alloc]) hb); have n2_ := Aside0.mk (blk_below (g := gb103) (o := .cells #[.string a7_0, .int .i64 a7_1] 28 (0, 0)) (by (with_reducible repeat (first | refine blk_drewN ?_ _ | refine blk_drew ?_ | refine blk_alloc ?_ _)); refine blk_far ?_ NB103_153.out _; (with_reducible repeat (first | refine blk_drewN ?_ _ | refine blk_drew ?_ | refine blk_alloc ?_ _)); refine blk_far ?_ NB103_153.out _; apply_rules only [BK103.out, blk_drewN, blk_drew, blk_alloc]) hb); have n3_ := Aside0.mk (blk_below (g := gb107) (o := .cells #[.string t104, .int .i64 t105] 28 (0, 0)) (by (with_reducible repeat (first | refine blk_drewN ?_ _ | refine blk_drew ?_ | refine blk_alloc ?_ _)); refine blk_far ?_ NB107_153.out _; (with_reducible repeat (first | refine blk_drewN ?_ _ | refine blk_drew ?_ | refine blk_alloc ?_ _)); refine blk_far ?_ NB107_153.out _; apply_rules only [BK107.out, blk_drewN, blk_drew, blk_alloc]) hb); have n4_ := Aside0.mk (blk_below (g := gb111) (o := .cells #[.string t108, .int .i64 t109] 28 (0, 0)) (by (with_reducible repeat (first | refine blk_drewN ?_ _ | refine blk_drew ?_ | refine blk_alloc ?_ _)); refine blk_far ?_ NB111_153.out _; (with_reducible repeat (first | refine blk_drewN ?_ _ | refine blk_drew ?_ | refine blk_alloc ?_ _)); refine blk_far ?_ NB111_153.out _; apply_rules only [BK111.out, blk_drewN, blk_drew, blk_alloc]) hb); have n5_ := Aside0.mk (blk_below (g := gb118) (o := .cells #[.string t115, .int .i64 t116] 28 (0, 0)) (by (with_reducible repeat (first | refine blk_drewN ?_ _ | refine blk_drew ?_ | refine blk_alloc ?_ _)); refine blk_far ?_ NB118_153.out _; (with_reducible repeat (first | refine blk_drewN ?_ _ | refine blk_drew ?_ | refine blk_alloc ?_ _)); refine blk_far ?_ NB118_153.out _; apply_rules only [BK118.out, blk_drewN, blk_drew, blk_alloc]) hb); have n6_ := Aside0.mk (blk_below (g := gb122) (o := .cells #[.string t119, .int .i64 t120] 28 (0, 0)) (by (with_reducible repeat (first | refine blk_drewN ?_ _ | refine blk_drew ?_ | refine blk_alloc ?_ _)); refine blk_far ?_ NB122_153.out _; (with_reducible repeat (first | refine blk_drewN ?_ _ | refine blk_drew ?_ | refine blk_alloc ?_ _)); refine blk_far ?_ NB122_153.out _; apply_rules only [BK122.out, blk_drewN, blk_drew, blk_alloc]) hb); have n7_ := Aside0.mk (blk_below (g := gb141) (o := .cells #[.string t138, .int .i64 t139] 28 (0, 0)) (by (with_reducible repeat (first | refine blk_drewN ?_ _ | refine blk_drew ?_ | refine blk_alloc ?_ _)); refine blk_far ?_ NB141_153.out _; (with_reducible repeat (first | refine blk_drewN ?_ _ | refine blk_drew ?_ | refine blk_alloc ?_ _)); refine blk_far ?_ NB141_153.out _; apply_rules only [BK141.out, blk_drewN, blk_drew, blk_alloc]) hb); have n8_ := Aside0.mk (blk_below (g := gb145) (o := .cells #[.string t142, .int .i64 t143] 28 (0, 0)) (by (with_reducible repeat (first | refine blk_drewN ?_ _ | refine blk_drew ?_ | refine blk_alloc ?_ _)); refine blk_far ?_ NB145_153.out _; (with_reducible repeat (first | refine blk_drewN ?_ _ | refine blk_drew ?_ | refine blk_alloc ?_ _)); refine blk_far ?_ NB145_153.out _; apply_rules only [BK145.out, blk_drewN, blk_drew, blk_alloc]) hb); have n9_ := Aside0.mk (blk_below (g := gb149) (o := .cells #[.string t146, .int .i64 t147] 28 (0, 0)) (by (with_reducible repeat (first | refine blk_drewN ?_ _ | refine blk_drew ?_ | refine blk_alloc ?_ _)); refine blk_far ?_ NB149_153.out _; (with_reducible repeat (first | refine blk_drewN ?_ _ | refine blk_drew ?_ | refine blk_alloc ?_ _)); refine blk_far ?_ NB149_153.out _; apply_rules only [BK149.out, blk_drewN, blk_drew, blk_alloc]) hb); have n10_ := Aside0.mk (blk_below (g := gb153) (o := .cells #[.string t150, .int .i64 t151] 28 (0, 0)) (by (with_reducible repeat (first | refine blk_drewN ?_ _ | refine blk_drew ?_ | refine blk_alloc ?_ _)); refine blk_put (cs := #[.string t150, .int .i64 0]) ?_ 1 _ rfl; (with_reducible repeat (first | refine blk_drewN ?_ _ | refine blk_drew ?_ | refine blk_alloc ?_ _)); refine blk_put (cs := #[.string (⟨#[]⟩ : ByteArray), .int .i64 0]) ?_ 0 _ rfl; apply_rules only [BK153.out, blk_drewN, blk_drew, blk_alloc]) hb); have n11_ := Aside0.mk (below_step (by apply_rules only [HB.out, below_alloc, pw_below_drewN, below_drew1, below_set, GE101.out, GE102.out, GE103.out, GE107.out, GE111.out, GE118.out, GE122.out, GE141.out, GE145.out, GE149.out, GE153.out]) hb); clear BK101; clear BK102; clear BK103; clear BK107; clear BK111; clear BK118; clear BK122; clear BK141; clear BK145; clear BK149; clear BK153; clear HB; have BK101 := n0_; have BK102 := n1_; have BK103 := n2_; have BK107 := n3_; have BK111 := n4_; have BK118 := n5_; have BK122 := n6_; have BK141 := n7_; have BK145 := n8_; have BK149 := n9_; have BK153 := n10_; have HB := n11_; clear n0_ n1_ n2_ n3_ n4_ n5_ n6_ n7_ n8_ n9_ n10_ n11_; (try clear hb); (try clear hb2); (try clear hk); (try clear hi)) | ((with_reducible refine gate_callee (f := 34) rfl ?_); refine goesL_ (some 260) rfl rfl Tryd.func34 (by kernel_rfl) rfl #[.string a9] rfl (by (try simp only [List.map_toArray, List.map_cons, List.map_nil]); first | done | rfl | (simp only [List.length_drop, List.length_take]; rfl)) ?_; (with_reducible refine (spec_FewestRules.calls kj104 a9 t156 t157 _ A222.out).mono ?_); rintro e w288 ⟨rfl, hb⟩; refine ⟨_, rfl, ?_⟩; have n0_ := Aside0.mk (blk_below (by apply_rules only [BK101.out, blk_drewN, blk_drew, blk_alloc]) hb); have n1_ := Aside0.mk (blk_below (by apply_rules only [BK102.out, blk_drewN, blk_drew, blk_alloc]) hb); have n2_ := Aside0.mk (blk_below (by apply_rules only [BK103.out, blk_drewN, blk_drew, blk_alloc]) hb); have n3_ := Aside0.mk (blk_below (by apply_rules only [BK107.out, blk_drewN, blk_drew, blk_alloc]) hb); have n4_ := Aside0.mk (blk_below (by apply_rules only [BK111.out, blk_drewN, blk_drew, blk_alloc]) hb); have n5_ := Aside0.mk (blk_below (by apply_rules only [BK118.out, blk_drewN, blk_drew, blk_alloc]) hb); have n6_ := Aside0.mk (blk_below (by apply_rules only [BK122.out, blk_drewN, blk_drew, blk_alloc]) hb); have n7_ := Aside0.mk (blk_below (by apply_rules only [BK141.out, blk_drewN, blk_drew, blk_alloc]) hb); have n8_ := Aside0.mk (blk_below (by apply_rules only [BK145.out, blk_drewN, blk_drew, blk_alloc]) hb); have n9_ := Aside0.mk (blk_below (by apply_rules only [BK149.out, blk_drewN, blk_drew, blk_alloc]) hb); have n10_ := Aside0.mk (blk_below (by apply_rules only [BK153.out, blk_drewN, blk_drew, blk_alloc]) hb); have n11_ := Aside0.mk (below_step (by apply_rules only [HB.out, below_alloc, pw_below_drewN, below_drew1, below_set, GE101.out, GE102.out, GE103.out, GE107.out, GE111.out, GE118.out, GE122.out, GE141.out, GE145.out, GE149.out, GE153.out]) hb); clear BK101; clear BK102; clear BK103; clear BK107; clear BK111; clear BK118; clear BK122; clear BK141; clear BK145; clear BK149; clear BK153; clear HB; have BK101 := n0_; have BK102 := n1_; have BK103 := n2_; have BK107 := n3_; have BK111 := n4_; have BK118 := n5_; have BK122 := n6_; have BK141 := n7_; have BK145 := n8_; have BK149 := n9_; have BK153 := n10_; have HB := n11_; clear n0_ n1_ n2_ n3_ n4_ n5_ n6_ n7_ n8_ n9_ n10_ n11_; (try clear hb); (try clear hb2); (try clear hk); (try clear hi)) | ((with_reducible refine gate_callee (f := 35) rfl ?_); refine goesL_ (some 266) rfl rfl Tryd.func35 (by kernel_rfl) rfl #[.slice A10 l10.length c10, .int .i64 a11] rfl (by (try simp only [List.map_toArray, List.map_cons, List.map_nil]); first | done | rfl | (simp only [List.length_drop, List.length_take]; rfl)) ?_; (with_reducible refine (impl_PatternOf.calls kj104 _ _ l10 a11 t158 t159 _ ?side1 ?side2 A223.out).mono ?_); (case side1 => repeat (first | exact (Kd.C_below HR10.out HB.out) | (with_reducible refine Kd.C_alloc ?_ _) | (with_reducible refine Kd.C_drewN ?_ _) | (with_reducible refine Kd.C_drew ?_))); (case side2 => exact HC10.out); rintro e w289 ⟨rfl, hb⟩; refine ⟨_, rfl, ?_⟩; have n0_ := Aside0.mk (blk_below (by apply_rules only [BK101.out, blk_drewN, blk_drew, blk_alloc]) hb); have n1_ := Aside0.mk (blk_below (by apply_rules only [BK102.out, blk_drewN, blk_drew, blk_alloc]) hb); have n2_ := Aside0.mk (blk_below (by apply_rules only [BK103.out, blk_drewN, blk_drew, blk_alloc]) hb); have n3_ := Aside0.mk (blk_below (by apply_rules only [BK107.out, blk_drewN, blk_drew, blk_alloc]) hb); have n4_ := Aside0.mk (blk_below (by apply_rules only [BK111.out, blk_drewN, blk_drew, blk_alloc]) hb); have n5_ := Aside0.mk (blk_below (by apply_rules only [BK118.out, blk_drewN, blk_drew, blk_alloc]) hb); have n6_ := Aside0.mk (blk_below (by apply_rules only [BK122.out, blk_drewN, blk_drew, blk_alloc]) hb); have n7_ := Aside0.mk (blk_below (by apply_rules only [BK141.out, blk_drewN, blk_drew, blk_alloc]) hb); have n8_ := Aside0.mk (blk_below (by apply_rules only [BK145.out, blk_drewN, blk_drew, blk_alloc]) hb); have n9_ := Aside0.mk (blk_below (by apply_rules only [BK149.out, blk_drewN, blk_drew, blk_alloc]) hb); have n10_ := Aside0.mk (blk_below (by apply_rules only [BK153.out, blk_drewN, blk_drew, blk_alloc]) hb); have n11_ := Aside0.mk (below_step (by apply_rules only [HB.out, below_alloc, pw_below_drewN, below_drew1, below_set, GE101.out, GE102.out, GE103.out, GE107.out, GE111.out, GE118.out, GE122.out, GE141.out, GE145.out, GE149.out, GE153.out]) hb); clear BK101; clear BK102; clear BK103; clear BK107; clear BK111; clear BK118; clear BK122; clear BK141; clear BK145; clear BK149; clear BK153; clear HB; have BK101 := n0_; have BK102 := n1_; have BK103 := n2_; have BK107 := n3_; have BK111 := n4_; have BK118 := n5_; have BK122 := n6_; have BK141 := n7_; have BK145 := n8_; have BK149 := n9_; have BK153 := n10_; have HB := n11_; clear n0_ n1_ n2_ n3_ n4_ n5_ n6_ n7_ n8_ n9_ n10_ n11_; (try clear hb); (try clear hb2); (try clear hk); (try clear hi)) | ((with_reducible refine gate_callee (f := 36) rfl ?_); refine goesL_ (some 272) rfl rfl Tryd.func36 (by kernel_rfl) rfl #[.slice A10 l10.length c10, .int .i64 a11] rfl (by (try simp only [List.map_toArray, List.map_cons, List.map_nil]); first | done | rfl | (simp only [List.length_drop, List.length_take]; rfl)) ?_; (with_reducible refine (spec_PatternOf.calls kj104 _ _ l10 a11 t160 t161 _ ?side1 ?side2 A224.out).mono ?_); (case side1 => repeat (first | exact (Kd.C_below HR10.out HB.out) | (with_reducible refine Kd.C_alloc ?_ _) | (with_reducible refine Kd.C_drewN ?_ _) | (with_reducible refine Kd.C_drew ?_))); (case side2 => exact HC10.out); rintro e w290 ⟨rfl, hb⟩; refine ⟨_, rfl, ?_⟩; have n0_ := Aside0.mk (blk_below (by apply_rules only [BK101.out, blk_drewN, blk_drew, blk_alloc]) hb); have n1_ := Aside0.mk (blk_below (by apply_rules only [BK102.out, blk_drewN, blk_drew, blk_alloc]) hb); have n2_ := Aside0.mk (blk_below (by apply_rules only [BK103.out, blk_drewN, blk_drew, blk_alloc]) hb); have n3_ := Aside0.mk (blk_below (by apply_rules only [BK107.out, blk_drewN, blk_drew, blk_alloc]) hb); have n4_ := Aside0.mk (blk_below (by apply_rules only [BK111.out, blk_drewN, blk_drew, blk_alloc]) hb); have n5_ := Aside0.mk (blk_below (by apply_rules only [BK118.out, blk_drewN, blk_drew, blk_alloc]) hb); have n6_ := Aside0.mk (blk_below (by apply_rules only [BK122.out, blk_drewN, blk_drew, blk_alloc]) hb); have n7_ := Aside0.mk (blk_below (by apply_rules only [BK141.out, blk_drewN, blk_drew, blk_alloc]) hb); have n8_ := Aside0.mk (blk_below (by apply_rules only [BK145.out, blk_drewN, blk_drew, blk_alloc]) hb); have n9_ := Aside0.mk (blk_below (by apply_rules only [BK149.out, blk_drewN, blk_drew, blk_alloc]) hb); have n10_ := Aside0.mk (blk_below (by apply_rules only [BK153.out, blk_drewN, blk_drew, blk_alloc]) hb); have n11_ := Aside0.mk (below_step (by apply_rules only [HB.out, below_alloc, pw_below_drewN, below_drew1, below_set, GE101.out, GE102.out, GE103.out, GE107.out, GE111.out, GE118.out, GE122.out, GE141.out, GE145.out, GE149.out, GE153.out]) hb); clear BK101; clear BK102; clear BK103; clear BK107; clear BK111; clear BK118; clear BK122; clear BK141; clear BK145; clear BK149; clear BK153; clear HB; have BK101 := n0_; have BK102 := n1_; have BK103 := n2_; have BK107 := n3_; have BK111 := n4_; have BK118 := n5_; have BK122 := n6_; have BK141 := n7_; have BK145 := n8_; have BK149 := n9_; have BK153 := n10_; have HB := n11_; clear n0_ n1_ n2_ n3_ n4_ n5_ n6_ n7_ n8_ n9_ n10_ n11_; (try clear hb); (try clear hb2); (try clear hk); (try clear hi)))
   (try simp only [Act.put, List.setIfInBounds_toArray, List.set_cons_zero, List.set_cons_succ])
   go_cut [312] from 227 to 274 (fun v312 wc => ∃ (kq : Nat) (x312_224 : Bool), v312 = .bool x312_224 ∧ Aside0 (laws_FnPuzzlesSievedOfAll.j7 kq a5 a8 t140 t148 x312_224 a4_0 a4_1 a7_0 a7_1 t138 t139 t146 t147 = some true) ∧ Aside0 (kq ≤ kj104) ∧ Aside0 (wc.heap[gb101]? = some (.cells #[.string a3_0, .int .i64 a3_1] 28 (0, 0))) ∧ Aside0 (wc.heap[gb102]? = some (.cells #[.string a4_0, .int .i64 a4_1] 28 (0, 0))) ∧ Aside0 (wc.heap[gb103]? = some (.cells #[.string a7_0, .int .i64 a7_1] 28 (0, 0))) ∧ Aside0 (wc.heap[gb107]? = some (.cells #[.string t104, .int .i64 t105] 28 (0, 0))) ∧ Aside0 (wc.heap[gb111]? = some (.cells #[.string t108, .int .i64 t109] 28 (0, 0))) ∧ Aside0 (wc.heap[gb118]? = some (.cells #[.string t115, .int .i64 t116] 28 (0, 0))) ∧ Aside0 (wc.heap[gb122]? = some (.cells #[.string t119, .int .i64 t120] 28 (0, 0))) ∧ Aside0 (wc.heap[gb141]? = some (.cells #[.string t138, .int .i64 t139] 28 (0, 0))) ∧ Aside0 (wc.heap[gb145]? = some (.cells #[.string t142, .int .i64 t143] 28 (0, 0))) ∧ Aside0 (wc.heap[gb149]? = some (.cells #[.string t146, .int .i64 t147] 28 (0, 0))) ∧ Aside0 (wc.heap[gb153]? = some (.cells #[.string t150, .int .i64 t151] 28 (0, 0))) ∧ Aside0 (Below w.heap.size w wc))
   case first =>
    have H := HC225.out
    clear HC225
    by_cases c291 : (t140 != t144) = true
    ·rw [if_pos c291] at H
     have c291b0 : (t140 != t144) = true := c291
     (try (have c291b1 : decide (t140 = t144) = false := by simpa using c291))
     (try (have c291b2 : (t140 == t144) = false := by simpa using c291))
     (try (have c291b3 : ¬ (t140 = t144) := by simpa using c291))
     clear c291
     (first | rw [c291b0] | rw [c291b1] | (simp only [i64_w, i32_w]; rw [c291b0]) | skip)
     have H' := Aside0.mk H
     clear H
     go_wp2
     go_meet
     case rel => exact ⟨_, (true), (by first | rfl | (simp; done) | (simp [*]; done)), H', ⟨by have := HJ12.out; have := HJ20.out; have := HJ45.out; have := HJ65.out; have := HJ104.out; first | omega | exact Nat.le_refl _⟩, ⟨by apply_rules only [BK101.out, blk_drewN, blk_drew, blk_alloc]⟩, ⟨by apply_rules only [BK102.out, blk_drewN, blk_drew, blk_alloc]⟩, ⟨by apply_rules only [BK103.out, blk_drewN, blk_drew, blk_alloc]⟩, ⟨by apply_rules only [BK107.out, blk_drewN, blk_drew, blk_alloc]⟩, ⟨by apply_rules only [BK111.out, blk_drewN, blk_drew, blk_alloc]⟩, ⟨by apply_rules only [BK118.out, blk_drewN, blk_drew, blk_alloc]⟩, ⟨by apply_rules only [BK122.out, blk_drewN, blk_drew, blk_alloc]⟩, ⟨by apply_rules only [BK141.out, blk_drewN, blk_drew, blk_alloc]⟩, ⟨by apply_rules only [BK145.out, blk_drewN, blk_drew, blk_alloc]⟩, ⟨by apply_rules only [BK149.out, blk_drewN, blk_drew, blk_alloc]⟩, ⟨by apply_rules only [BK153.out, blk_drewN, blk_drew, blk_alloc]⟩, ⟨by apply_rules only [HB.out, below_alloc, pw_below_drewN, below_drew1, below_set, GE101.out, GE102.out, GE103.out, GE107.out, GE111.out, GE118.out, GE122.out, GE141.out, GE145.out, GE149.out, GE153.out]⟩⟩
    ·rw [if_neg c291] at H
     have c291b0 : (t140 != t144) = false := by simpa using c291
     (try (have c291b1 : decide (t140 = t144) = true := by simpa using c291))
     (try (have c291b2 : (t140 == t144) = true := by simpa using c291))
     clear c291
     (first | rw [c291b0] | rw [c291b1] | (simp only [i64_w, i32_w]; rw [c291b0]) | skip)
     by_cases c292 : (!(t138.toList == t142.toList) || (!(t139 == t143))) = true
     ·rw [if_pos c292] at H
      have c292b0 : (!(t138.toList == t142.toList) || (!(t139 == t143))) = true := c292
      clear c292
      have H' := Aside0.mk H
      clear H
      have hnb293 := NB141_101.out
      have hnc293 := NB101_141.out
      have hnb294 := NB141_102.out
      have hnc294 := NB102_141.out
      have hnb295 := NB141_103.out
      have hnc295 := NB103_141.out
      have hnb296 := NB141_107.out
      have hnc296 := NB107_141.out
      have hnb297 := NB141_111.out
      have hnc297 := NB111_141.out
      have hnb298 := NB141_118.out
      have hnc298 := NB118_141.out
      have hnb299 := NB141_122.out
      have hnc299 := NB122_141.out
      have hnb300 := NB141_145.out
      have hnc300 := NB145_141.out
      have hnb301 := NB141_149.out
      have hnc301 := NB149_141.out
      have hnb302 := NB141_153.out
      have hnc302 := NB153_141.out
      have hcz303_0 : w290.cell? ⟨gb141, 0, none⟩ = some (.string t138) := (blk_cell BK141.out 0).trans rfl
      have hcz303_1 : w290.cell? ⟨gb141, 1, none⟩ = some (.int .i64 t139) := (blk_cell BK141.out 1).trans rfl
      have hfz303_0 := blk_frozen BK141.out 0
      have hfz303_1 := blk_frozen BK141.out 1
      have hnb304 := NB145_101.out
      have hnc304 := NB101_145.out
      have hnb305 := NB145_102.out
      have hnc305 := NB102_145.out
      have hnb306 := NB145_103.out
      have hnc306 := NB103_145.out
      have hnb307 := NB145_107.out
      have hnc307 := NB107_145.out
      have hnb308 := NB145_111.out
      have hnc308 := NB111_145.out
      have hnb309 := NB145_118.out
      have hnc309 := NB118_145.out
      have hnb310 := NB145_122.out
      have hnc310 := NB122_145.out
      have hnb311 := NB145_149.out
      have hnc311 := NB149_145.out
      have hnb312 := NB145_153.out
      have hnc312 := NB153_145.out
      have hcz313_0 : w290.cell? ⟨gb145, 0, none⟩ = some (.string t142) := (blk_cell BK145.out 0).trans rfl
      have hcz313_1 : w290.cell? ⟨gb145, 1, none⟩ = some (.int .i64 t143) := (blk_cell BK145.out 1).trans rfl
      have hfz313_0 := blk_frozen BK145.out 0
      have hfz313_1 := blk_frozen BK145.out 1
      go_wp2
      go_meet
      case rel => exact ⟨_, (true), (by first | rfl | (simp; done) | (simp [*]; done)), H', ⟨by have := HJ12.out; have := HJ20.out; have := HJ45.out; have := HJ65.out; have := HJ104.out; first | omega | exact Nat.le_refl _⟩, ⟨by apply_rules only [BK101.out, blk_drewN, blk_drew, blk_alloc]⟩, ⟨by apply_rules only [BK102.out, blk_drewN, blk_drew, blk_alloc]⟩, ⟨by apply_rules only [BK103.out, blk_drewN, blk_drew, blk_alloc]⟩, ⟨by apply_rules only [BK107.out, blk_drewN, blk_drew, blk_alloc]⟩, ⟨by apply_rules only [BK111.out, blk_drewN, blk_drew, blk_alloc]⟩, ⟨by apply_rules only [BK118.out, blk_drewN, blk_drew, blk_alloc]⟩, ⟨by apply_rules only [BK122.out, blk_drewN, blk_drew, blk_alloc]⟩, ⟨by apply_rules only [BK141.out, blk_drewN, blk_drew, blk_alloc]⟩, ⟨by apply_rules only [BK145.out, blk_drewN, blk_drew, blk_alloc]⟩, ⟨by apply_rules only [BK149.out, blk_drewN, blk_drew, blk_alloc]⟩, ⟨by apply_rules only [BK153.out, blk_drewN, blk_drew, blk_alloc]⟩, ⟨by apply_rules only [HB.out, below_alloc, pw_below_drewN, below_drew1, below_set, GE101.out, GE102.out, GE103.out, GE107.out, GE111.out, GE118.out, GE122.out, GE141.out, GE145.out, GE149.out, GE153.out]⟩⟩
     ·rw [if_neg c292] at H
      have c292b0 : (!(t138.toList == t142.toList) || (!(t139 == t143))) = false := by simpa using c292
      clear c292
      by_cases c314 : (t148 != t152) = true
      ·rw [if_pos c314] at H
       have c314b0 : (t148 != t152) = true := c314
       (try (have c314b1 : decide (t148 = t152) = false := by simpa using c314))
       (try (have c314b2 : (t148 == t152) = false := by simpa using c314))
       (try (have c314b3 : ¬ (t148 = t152) := by simpa using c314))
       clear c314
       have H' := Aside0.mk H
       clear H
       have hnb315 := NB141_101.out
       have hnc315 := NB101_141.out
       have hnb316 := NB141_102.out
       have hnc316 := NB102_141.out
       have hnb317 := NB141_103.out
       have hnc317 := NB103_141.out
       have hnb318 := NB141_107.out
       have hnc318 := NB107_141.out
       have hnb319 := NB141_111.out
       have hnc319 := NB111_141.out
       have hnb320 := NB141_118.out
       have hnc320 := NB118_141.out
       have hnb321 := NB141_122.out
       have hnc321 := NB122_141.out
       have hnb322 := NB141_145.out
       have hnc322 := NB145_141.out
       have hnb323 := NB141_149.out
       have hnc323 := NB149_141.out
       have hnb324 := NB141_153.out
       have hnc324 := NB153_141.out
       have hcz325_0 : w290.cell? ⟨gb141, 0, none⟩ = some (.string t138) := (blk_cell BK141.out 0).trans rfl
       have hcz325_1 : w290.cell? ⟨gb141, 1, none⟩ = some (.int .i64 t139) := (blk_cell BK141.out 1).trans rfl
       have hfz325_0 := blk_frozen BK141.out 0
       have hfz325_1 := blk_frozen BK141.out 1
       have hnb326 := NB145_101.out
       have hnc326 := NB101_145.out
       have hnb327 := NB145_102.out
       have hnc327 := NB102_145.out
       have hnb328 := NB145_103.out
       have hnc328 := NB103_145.out
       have hnb329 := NB145_107.out
       have hnc329 := NB107_145.out
       have hnb330 := NB145_111.out
       have hnc330 := NB111_145.out
       have hnb331 := NB145_118.out
       have hnc331 := NB118_145.out
       have hnb332 := NB145_122.out
       have hnc332 := NB122_145.out
       have hnb333 := NB145_149.out
       have hnc333 := NB149_145.out
       have hnb334 := NB145_153.out
       have hnc334 := NB153_145.out
       have hcz335_0 : w290.cell? ⟨gb145, 0, none⟩ = some (.string t142) := (blk_cell BK145.out 0).trans rfl
       have hcz335_1 : w290.cell? ⟨gb145, 1, none⟩ = some (.int .i64 t143) := (blk_cell BK145.out 1).trans rfl
       have hfz335_0 := blk_frozen BK145.out 0
       have hfz335_1 := blk_frozen BK145.out 1
       go_wp2
       go_meet
       case rel => exact ⟨_, (true), (by first | rfl | (simp; done) | (simp [*]; done)), H', ⟨by have := HJ12.out; have := HJ20.out; have := HJ45.out; have := HJ65.out; have := HJ104.out; first | omega | exact Nat.le_refl _⟩, ⟨by apply_rules only [BK101.out, blk_drewN, blk_drew, blk_alloc]⟩, ⟨by apply_rules only [BK102.out, blk_drewN, blk_drew, blk_alloc]⟩, ⟨by apply_rules only [BK103.out, blk_drewN, blk_drew, blk_alloc]⟩, ⟨by apply_rules only [BK107.out, blk_drewN, blk_drew, blk_alloc]⟩, ⟨by apply_rules only [BK111.out, blk_drewN, blk_drew, blk_alloc]⟩, ⟨by apply_rules only [BK118.out, blk_drewN, blk_drew, blk_alloc]⟩, ⟨by apply_rules only [BK122.out, blk_drewN, blk_drew, blk_alloc]⟩, ⟨by apply_rules only [BK141.out, blk_drewN, blk_drew, blk_alloc]⟩, ⟨by apply_rules only [BK145.out, blk_drewN, blk_drew, blk_alloc]⟩, ⟨by apply_rules only [BK149.out, blk_drewN, blk_drew, blk_alloc]⟩, ⟨by apply_rules only [BK153.out, blk_drewN, blk_drew, blk_alloc]⟩, ⟨by apply_rules only [HB.out, below_alloc, pw_below_drewN, below_drew1, below_set, GE101.out, GE102.out, GE103.out, GE107.out, GE111.out, GE118.out, GE122.out, GE141.out, GE145.out, GE149.out, GE153.out]⟩⟩
      ·rw [if_neg c314] at H
       have c314b0 : (t148 != t152) = false := by simpa using c314
       (try (have c314b1 : decide (t148 = t152) = true := by simpa using c314))
       (try (have c314b2 : (t148 == t152) = true := by simpa using c314))
       clear c314
       by_cases c336 : (!(t146.toList == t150.toList) || (!(t147 == t151))) = true
       ·rw [if_pos c336] at H
        have c336b0 : (!(t146.toList == t150.toList) || (!(t147 == t151))) = true := c336
        clear c336
        have H' := Aside0.mk H
        clear H
        have hnb337 := NB141_101.out
        have hnc337 := NB101_141.out
        have hnb338 := NB141_102.out
        have hnc338 := NB102_141.out
        have hnb339 := NB141_103.out
        have hnc339 := NB103_141.out
        have hnb340 := NB141_107.out
        have hnc340 := NB107_141.out
        have hnb341 := NB141_111.out
        have hnc341 := NB111_141.out
        have hnb342 := NB141_118.out
        have hnc342 := NB118_141.out
        have hnb343 := NB141_122.out
        have hnc343 := NB122_141.out
        have hnb344 := NB141_145.out
        have hnc344 := NB145_141.out
        have hnb345 := NB141_149.out
        have hnc345 := NB149_141.out
        have hnb346 := NB141_153.out
        have hnc346 := NB153_141.out
        have hcz347_0 : w290.cell? ⟨gb141, 0, none⟩ = some (.string t138) := (blk_cell BK141.out 0).trans rfl
        have hcz347_1 : w290.cell? ⟨gb141, 1, none⟩ = some (.int .i64 t139) := (blk_cell BK141.out 1).trans rfl
        have hfz347_0 := blk_frozen BK141.out 0
        have hfz347_1 := blk_frozen BK141.out 1
        have hnb348 := NB145_101.out
        have hnc348 := NB101_145.out
        have hnb349 := NB145_102.out
        have hnc349 := NB102_145.out
        have hnb350 := NB145_103.out
        have hnc350 := NB103_145.out
        have hnb351 := NB145_107.out
        have hnc351 := NB107_145.out
        have hnb352 := NB145_111.out
        have hnc352 := NB111_145.out
        have hnb353 := NB145_118.out
        have hnc353 := NB118_145.out
        have hnb354 := NB145_122.out
        have hnc354 := NB122_145.out
        have hnb355 := NB145_149.out
        have hnc355 := NB149_145.out
        have hnb356 := NB145_153.out
        have hnc356 := NB153_145.out
        have hcz357_0 : w290.cell? ⟨gb145, 0, none⟩ = some (.string t142) := (blk_cell BK145.out 0).trans rfl
        have hcz357_1 : w290.cell? ⟨gb145, 1, none⟩ = some (.int .i64 t143) := (blk_cell BK145.out 1).trans rfl
        have hfz357_0 := blk_frozen BK145.out 0
        have hfz357_1 := blk_frozen BK145.out 1
        have hnb358 := NB149_101.out
        have hnc358 := NB101_149.out
        have hnb359 := NB149_102.out
        have hnc359 := NB102_149.out
        have hnb360 := NB149_103.out
        have hnc360 := NB103_149.out
        have hnb361 := NB149_107.out
        have hnc361 := NB107_149.out
        have hnb362 := NB149_111.out
        have hnc362 := NB111_149.out
        have hnb363 := NB149_118.out
        have hnc363 := NB118_149.out
        have hnb364 := NB149_122.out
        have hnc364 := NB122_149.out
        have hnb365 := NB149_153.out
        have hnc365 := NB153_149.out
        have hcz366_0 : w290.cell? ⟨gb149, 0, none⟩ = some (.string t146) := (blk_cell BK149.out 0).trans rfl
        have hcz366_1 : w290.cell? ⟨gb149, 1, none⟩ = some (.int .i64 t147) := (blk_cell BK149.out 1).trans rfl
        have hfz366_0 := blk_frozen BK149.out 0
        have hfz366_1 := blk_frozen BK149.out 1
        have hnb367 := NB153_101.out
        have hnc367 := NB101_153.out
        have hnb368 := NB153_102.out
        have hnc368 := NB102_153.out
        have hnb369 := NB153_103.out
        have hnc369 := NB103_153.out
        have hnb370 := NB153_107.out
        have hnc370 := NB107_153.out
        have hnb371 := NB153_111.out
        have hnc371 := NB111_153.out
        have hnb372 := NB153_118.out
        have hnc372 := NB118_153.out
        have hnb373 := NB153_122.out
        have hnc373 := NB122_153.out
        have hcz374_0 : w290.cell? ⟨gb153, 0, none⟩ = some (.string t150) := (blk_cell BK153.out 0).trans rfl
        have hcz374_1 : w290.cell? ⟨gb153, 1, none⟩ = some (.int .i64 t151) := (blk_cell BK153.out 1).trans rfl
        have hfz374_0 := blk_frozen BK153.out 0
        have hfz374_1 := blk_frozen BK153.out 1
        go_wp2
        go_meet
        case rel => exact ⟨_, (true), (by first | rfl | (simp; done) | (simp [*]; done)), H', ⟨by have := HJ12.out; have := HJ20.out; have := HJ45.out; have := HJ65.out; have := HJ104.out; first | omega | exact Nat.le_refl _⟩, ⟨by apply_rules only [BK101.out, blk_drewN, blk_drew, blk_alloc]⟩, ⟨by apply_rules only [BK102.out, blk_drewN, blk_drew, blk_alloc]⟩, ⟨by apply_rules only [BK103.out, blk_drewN, blk_drew, blk_alloc]⟩, ⟨by apply_rules only [BK107.out, blk_drewN, blk_drew, blk_alloc]⟩, ⟨by apply_rules only [BK111.out, blk_drewN, blk_drew, blk_alloc]⟩, ⟨by apply_rules only [BK118.out, blk_drewN, blk_drew, blk_alloc]⟩, ⟨by apply_rules only [BK122.out, blk_drewN, blk_drew, blk_alloc]⟩, ⟨by apply_rules only [BK141.out, blk_drewN, blk_drew, blk_alloc]⟩, ⟨by apply_rules only [BK145.out, blk_drewN, blk_drew, blk_alloc]⟩, ⟨by apply_rules only [BK149.out, blk_drewN, blk_drew, blk_alloc]⟩, ⟨by apply_rules only [BK153.out, blk_drewN, blk_drew, blk_alloc]⟩, ⟨by apply_rules only [HB.out, below_alloc, pw_below_drewN, below_drew1, below_set, GE101.out, GE102.out, GE103.out, GE107.out, GE111.out, GE118.out, GE122.out, GE141.out, GE145.out, GE149.out, GE153.out]⟩⟩
       ·rw [if_neg c336] at H
        have c336b0 : (!(t146.toList == t150.toList) || (!(t147 == t151))) = false := by simpa using c336
        clear c336
        by_cases c375 : (t155 != t157) = true
        ·rw [if_pos c375] at H
         have c375b0 : (t155 != t157) = true := c375
         (try (have c375b1 : decide (t155 = t157) = false := by simpa using c375))
         (try (have c375b2 : (t155 == t157) = false := by simpa using c375))
         (try (have c375b3 : ¬ (t155 = t157) := by simpa using c375))
         clear c375
         have H' := Aside0.mk H
         clear H
         have hnb376 := NB141_101.out
         have hnc376 := NB101_141.out
         have hnb377 := NB141_102.out
         have hnc377 := NB102_141.out
         have hnb378 := NB141_103.out
         have hnc378 := NB103_141.out
         have hnb379 := NB141_107.out
         have hnc379 := NB107_141.out
         have hnb380 := NB141_111.out
         have hnc380 := NB111_141.out
         have hnb381 := NB141_118.out
         have hnc381 := NB118_141.out
         have hnb382 := NB141_122.out
         have hnc382 := NB122_141.out
         have hnb383 := NB141_145.out
         have hnc383 := NB145_141.out
         have hnb384 := NB141_149.out
         have hnc384 := NB149_141.out
         have hnb385 := NB141_153.out
         have hnc385 := NB153_141.out
         have hcz386_0 : w290.cell? ⟨gb141, 0, none⟩ = some (.string t138) := (blk_cell BK141.out 0).trans rfl
         have hcz386_1 : w290.cell? ⟨gb141, 1, none⟩ = some (.int .i64 t139) := (blk_cell BK141.out 1).trans rfl
         have hfz386_0 := blk_frozen BK141.out 0
         have hfz386_1 := blk_frozen BK141.out 1
         have hnb387 := NB145_101.out
         have hnc387 := NB101_145.out
         have hnb388 := NB145_102.out
         have hnc388 := NB102_145.out
         have hnb389 := NB145_103.out
         have hnc389 := NB103_145.out
         have hnb390 := NB145_107.out
         have hnc390 := NB107_145.out
         have hnb391 := NB145_111.out
         have hnc391 := NB111_145.out
         have hnb392 := NB145_118.out
         have hnc392 := NB118_145.out
         have hnb393 := NB145_122.out
         have hnc393 := NB122_145.out
         have hnb394 := NB145_149.out
         have hnc394 := NB149_145.out
         have hnb395 := NB145_153.out
         have hnc395 := NB153_145.out
         have hcz396_0 : w290.cell? ⟨gb145, 0, none⟩ = some (.string t142) := (blk_cell BK145.out 0).trans rfl
         have hcz396_1 : w290.cell? ⟨gb145, 1, none⟩ = some (.int .i64 t143) := (blk_cell BK145.out 1).trans rfl
         have hfz396_0 := blk_frozen BK145.out 0
         have hfz396_1 := blk_frozen BK145.out 1
         have hnb397 := NB149_101.out
         have hnc397 := NB101_149.out
         have hnb398 := NB149_102.out
         have hnc398 := NB102_149.out
         have hnb399 := NB149_103.out
         have hnc399 := NB103_149.out
         have hnb400 := NB149_107.out
         have hnc400 := NB107_149.out
         have hnb401 := NB149_111.out
         have hnc401 := NB111_149.out
         have hnb402 := NB149_118.out
         have hnc402 := NB118_149.out
         have hnb403 := NB149_122.out
         have hnc403 := NB122_149.out
         have hnb404 := NB149_153.out
         have hnc404 := NB153_149.out
         have hcz405_0 : w290.cell? ⟨gb149, 0, none⟩ = some (.string t146) := (blk_cell BK149.out 0).trans rfl
         have hcz405_1 : w290.cell? ⟨gb149, 1, none⟩ = some (.int .i64 t147) := (blk_cell BK149.out 1).trans rfl
         have hfz405_0 := blk_frozen BK149.out 0
         have hfz405_1 := blk_frozen BK149.out 1
         have hnb406 := NB153_101.out
         have hnc406 := NB101_153.out
         have hnb407 := NB153_102.out
         have hnc407 := NB102_153.out
         have hnb408 := NB153_103.out
         have hnc408 := NB103_153.out
         have hnb409 := NB153_107.out
         have hnc409 := NB107_153.out
         have hnb410 := NB153_111.out
         have hnc410 := NB111_153.out
         have hnb411 := NB153_118.out
         have hnc411 := NB118_153.out
         have hnb412 := NB153_122.out
         have hnc412 := NB122_153.out
         have hcz413_0 : w290.cell? ⟨gb153, 0, none⟩ = some (.string t150) := (blk_cell BK153.out 0).trans rfl
         have hcz413_1 : w290.cell? ⟨gb153, 1, none⟩ = some (.int .i64 t151) := (blk_cell BK153.out 1).trans rfl
         have hfz413_0 := blk_frozen BK153.out 0
         have hfz413_1 := blk_frozen BK153.out 1
         go_wp2
         go_meet
         case rel => exact ⟨_, (true), (by first | rfl | (simp; done) | (simp [*]; done)), H', ⟨by have := HJ12.out; have := HJ20.out; have := HJ45.out; have := HJ65.out; have := HJ104.out; first | omega | exact Nat.le_refl _⟩, ⟨by apply_rules only [BK101.out, blk_drewN, blk_drew, blk_alloc]⟩, ⟨by apply_rules only [BK102.out, blk_drewN, blk_drew, blk_alloc]⟩, ⟨by apply_rules only [BK103.out, blk_drewN, blk_drew, blk_alloc]⟩, ⟨by apply_rules only [BK107.out, blk_drewN, blk_drew, blk_alloc]⟩, ⟨by apply_rules only [BK111.out, blk_drewN, blk_drew, blk_alloc]⟩, ⟨by apply_rules only [BK118.out, blk_drewN, blk_drew, blk_alloc]⟩, ⟨by apply_rules only [BK122.out, blk_drewN, blk_drew, blk_alloc]⟩, ⟨by apply_rules only [BK141.out, blk_drewN, blk_drew, blk_alloc]⟩, ⟨by apply_rules only [BK145.out, blk_drewN, blk_drew, blk_alloc]⟩, ⟨by apply_rules only [BK149.out, blk_drewN, blk_drew, blk_alloc]⟩, ⟨by apply_rules only [BK153.out, blk_drewN, blk_drew, blk_alloc]⟩, ⟨by apply_rules only [HB.out, below_alloc, pw_below_drewN, below_drew1, below_set, GE101.out, GE102.out, GE103.out, GE107.out, GE111.out, GE118.out, GE122.out, GE141.out, GE145.out, GE149.out, GE153.out]⟩⟩
        ·rw [if_neg c375] at H
         have c375b0 : (t155 != t157) = false := by simpa using c375
         (try (have c375b1 : decide (t155 = t157) = true := by simpa using c375))
         (try (have c375b2 : (t155 == t157) = true := by simpa using c375))
         clear c375
         by_cases c414 : t154 = t156
         ·rw [if_pos c414] at H
          have c414b0 : (t154 == t156) = true := beq_iff_eq.mpr c414
          have c414b1 : (t154 != t156) = false := bne_eq_false_iff_eq.mpr c414
          clear c414
          by_cases c415 : (t159 != t161) = true
          ·rw [if_pos c415] at H
           have c415b0 : (t159 != t161) = true := c415
           (try (have c415b1 : decide (t159 = t161) = false := by simpa using c415))
           (try (have c415b2 : (t159 == t161) = false := by simpa using c415))
           (try (have c415b3 : ¬ (t159 = t161) := by simpa using c415))
           clear c415
           have H' := Aside0.mk H
           clear H
           have hnb416 := NB141_101.out
           have hnc416 := NB101_141.out
           have hnb417 := NB141_102.out
           have hnc417 := NB102_141.out
           have hnb418 := NB141_103.out
           have hnc418 := NB103_141.out
           have hnb419 := NB141_107.out
           have hnc419 := NB107_141.out
           have hnb420 := NB141_111.out
           have hnc420 := NB111_141.out
           have hnb421 := NB141_118.out
           have hnc421 := NB118_141.out
           have hnb422 := NB141_122.out
           have hnc422 := NB122_141.out
           have hnb423 := NB141_145.out
           have hnc423 := NB145_141.out
           have hnb424 := NB141_149.out
           have hnc424 := NB149_141.out
           have hnb425 := NB141_153.out
           have hnc425 := NB153_141.out
           have hcz426_0 : w290.cell? ⟨gb141, 0, none⟩ = some (.string t138) := (blk_cell BK141.out 0).trans rfl
           have hcz426_1 : w290.cell? ⟨gb141, 1, none⟩ = some (.int .i64 t139) := (blk_cell BK141.out 1).trans rfl
           have hfz426_0 := blk_frozen BK141.out 0
           have hfz426_1 := blk_frozen BK141.out 1
           have hnb427 := NB145_101.out
           have hnc427 := NB101_145.out
           have hnb428 := NB145_102.out
           have hnc428 := NB102_145.out
           have hnb429 := NB145_103.out
           have hnc429 := NB103_145.out
           have hnb430 := NB145_107.out
           have hnc430 := NB107_145.out
           have hnb431 := NB145_111.out
           have hnc431 := NB111_145.out
           have hnb432 := NB145_118.out
           have hnc432 := NB118_145.out
           have hnb433 := NB145_122.out
           have hnc433 := NB122_145.out
           have hnb434 := NB145_149.out
           have hnc434 := NB149_145.out
           have hnb435 := NB145_153.out
           have hnc435 := NB153_145.out
           have hcz436_0 : w290.cell? ⟨gb145, 0, none⟩ = some (.string t142) := (blk_cell BK145.out 0).trans rfl
           have hcz436_1 : w290.cell? ⟨gb145, 1, none⟩ = some (.int .i64 t143) := (blk_cell BK145.out 1).trans rfl
           have hfz436_0 := blk_frozen BK145.out 0
           have hfz436_1 := blk_frozen BK145.out 1
           have hnb437 := NB149_101.out
           have hnc437 := NB101_149.out
           have hnb438 := NB149_102.out
           have hnc438 := NB102_149.out
           have hnb439 := NB149_103.out
           have hnc439 := NB103_149.out
           have hnb440 := NB149_107.out
           have hnc440 := NB107_149.out
           have hnb441 := NB149_111.out
           have hnc441 := NB111_149.out
           have hnb442 := NB149_118.out
           have hnc442 := NB118_149.out
           have hnb443 := NB149_122.out
           have hnc443 := NB122_149.out
           have hnb444 := NB149_153.out
           have hnc444 := NB153_149.out
           have hcz445_0 : w290.cell? ⟨gb149, 0, none⟩ = some (.string t146) := (blk_cell BK149.out 0).trans rfl
           have hcz445_1 : w290.cell? ⟨gb149, 1, none⟩ = some (.int .i64 t147) := (blk_cell BK149.out 1).trans rfl
           have hfz445_0 := blk_frozen BK149.out 0
           have hfz445_1 := blk_frozen BK149.out 1
           have hnb446 := NB153_101.out
           have hnc446 := NB101_153.out
           have hnb447 := NB153_102.out
           have hnc447 := NB102_153.out
           have hnb448 := NB153_103.out
           have hnc448 := NB103_153.out
           have hnb449 := NB153_107.out
           have hnc449 := NB107_153.out
           have hnb450 := NB153_111.out
           have hnc450 := NB111_153.out
           have hnb451 := NB153_118.out
           have hnc451 := NB118_153.out
           have hnb452 := NB153_122.out
           have hnc452 := NB122_153.out
           have hcz453_0 : w290.cell? ⟨gb153, 0, none⟩ = some (.string t150) := (blk_cell BK153.out 0).trans rfl
           have hcz453_1 : w290.cell? ⟨gb153, 1, none⟩ = some (.int .i64 t151) := (blk_cell BK153.out 1).trans rfl
           have hfz453_0 := blk_frozen BK153.out 0
           have hfz453_1 := blk_frozen BK153.out 1
           go_wp2
           go_meet
           case rel => exact ⟨_, (true), (by first | rfl | (simp; done) | (simp [*]; done)), H', ⟨by have := HJ12.out; have := HJ20.out; have := HJ45.out; have := HJ65.out; have := HJ104.out; first | omega | exact Nat.le_refl _⟩, ⟨by apply_rules only [BK101.out, blk_drewN, blk_drew, blk_alloc]⟩, ⟨by apply_rules only [BK102.out, blk_drewN, blk_drew, blk_alloc]⟩, ⟨by apply_rules only [BK103.out, blk_drewN, blk_drew, blk_alloc]⟩, ⟨by apply_rules only [BK107.out, blk_drewN, blk_drew, blk_alloc]⟩, ⟨by apply_rules only [BK111.out, blk_drewN, blk_drew, blk_alloc]⟩, ⟨by apply_rules only [BK118.out, blk_drewN, blk_drew, blk_alloc]⟩, ⟨by apply_rules only [BK122.out, blk_drewN, blk_drew, blk_alloc]⟩, ⟨by apply_rules only [BK141.out, blk_drewN, blk_drew, blk_alloc]⟩, ⟨by apply_rules only [BK145.out, blk_drewN, blk_drew, blk_alloc]⟩, ⟨by apply_rules only [BK149.out, blk_drewN, blk_drew, blk_alloc]⟩, ⟨by apply_rules only [BK153.out, blk_drewN, blk_drew, blk_alloc]⟩, ⟨by apply_rules only [HB.out, below_alloc, pw_below_drewN, below_drew1, below_set, GE101.out, GE102.out, GE103.out, GE107.out, GE111.out, GE118.out, GE122.out, GE141.out, GE145.out, GE149.out, GE153.out]⟩⟩
          ·rw [if_neg c415] at H
           have c415b0 : (t159 != t161) = false := by simpa using c415
           (try (have c415b1 : decide (t159 = t161) = true := by simpa using c415))
           (try (have c415b2 : (t159 == t161) = true := by simpa using c415))
           clear c415
           have H' := Aside0.mk H
           clear H
           have hnb454 := NB141_101.out
           have hnc454 := NB101_141.out
           have hnb455 := NB141_102.out
           have hnc455 := NB102_141.out
           have hnb456 := NB141_103.out
           have hnc456 := NB103_141.out
           have hnb457 := NB141_107.out
           have hnc457 := NB107_141.out
           have hnb458 := NB141_111.out
           have hnc458 := NB111_141.out
           have hnb459 := NB141_118.out
           have hnc459 := NB118_141.out
           have hnb460 := NB141_122.out
           have hnc460 := NB122_141.out
           have hnb461 := NB141_145.out
           have hnc461 := NB145_141.out
           have hnb462 := NB141_149.out
           have hnc462 := NB149_141.out
           have hnb463 := NB141_153.out
           have hnc463 := NB153_141.out
           have hcz464_0 : w290.cell? ⟨gb141, 0, none⟩ = some (.string t138) := (blk_cell BK141.out 0).trans rfl
           have hcz464_1 : w290.cell? ⟨gb141, 1, none⟩ = some (.int .i64 t139) := (blk_cell BK141.out 1).trans rfl
           have hfz464_0 := blk_frozen BK141.out 0
           have hfz464_1 := blk_frozen BK141.out 1
           have hnb465 := NB145_101.out
           have hnc465 := NB101_145.out
           have hnb466 := NB145_102.out
           have hnc466 := NB102_145.out
           have hnb467 := NB145_103.out
           have hnc467 := NB103_145.out
           have hnb468 := NB145_107.out
           have hnc468 := NB107_145.out
           have hnb469 := NB145_111.out
           have hnc469 := NB111_145.out
           have hnb470 := NB145_118.out
           have hnc470 := NB118_145.out
           have hnb471 := NB145_122.out
           have hnc471 := NB122_145.out
           have hnb472 := NB145_149.out
           have hnc472 := NB149_145.out
           have hnb473 := NB145_153.out
           have hnc473 := NB153_145.out
           have hcz474_0 : w290.cell? ⟨gb145, 0, none⟩ = some (.string t142) := (blk_cell BK145.out 0).trans rfl
           have hcz474_1 : w290.cell? ⟨gb145, 1, none⟩ = some (.int .i64 t143) := (blk_cell BK145.out 1).trans rfl
           have hfz474_0 := blk_frozen BK145.out 0
           have hfz474_1 := blk_frozen BK145.out 1
           have hnb475 := NB149_101.out
           have hnc475 := NB101_149.out
           have hnb476 := NB149_102.out
           have hnc476 := NB102_149.out
           have hnb477 := NB149_103.out
           have hnc477 := NB103_149.out
           have hnb478 := NB149_107.out
           have hnc478 := NB107_149.out
           have hnb479 := NB149_111.out
           have hnc479 := NB111_149.out
           have hnb480 := NB149_118.out
           have hnc480 := NB118_149.out
           have hnb481 := NB149_122.out
           have hnc481 := NB122_149.out
           have hnb482 := NB149_153.out
           have hnc482 := NB153_149.out
           have hcz483_0 : w290.cell? ⟨gb149, 0, none⟩ = some (.string t146) := (blk_cell BK149.out 0).trans rfl
           have hcz483_1 : w290.cell? ⟨gb149, 1, none⟩ = some (.int .i64 t147) := (blk_cell BK149.out 1).trans rfl
           have hfz483_0 := blk_frozen BK149.out 0
           have hfz483_1 := blk_frozen BK149.out 1
           have hnb484 := NB153_101.out
           have hnc484 := NB101_153.out
           have hnb485 := NB153_102.out
           have hnc485 := NB102_153.out
           have hnb486 := NB153_103.out
           have hnc486 := NB103_153.out
           have hnb487 := NB153_107.out
           have hnc487 := NB107_153.out
           have hnb488 := NB153_111.out
           have hnc488 := NB111_153.out
           have hnb489 := NB153_118.out
           have hnc489 := NB118_153.out
           have hnb490 := NB153_122.out
           have hnc490 := NB122_153.out
           have hcz491_0 : w290.cell? ⟨gb153, 0, none⟩ = some (.string t150) := (blk_cell BK153.out 0).trans rfl
           have hcz491_1 : w290.cell? ⟨gb153, 1, none⟩ = some (.int .i64 t151) := (blk_cell BK153.out 1).trans rfl
           have hfz491_0 := blk_frozen BK153.out 0
           have hfz491_1 := blk_frozen BK153.out 1
           go_wp2
           go_meet
           case rel => exact ⟨_, ((t158.toList != t160.toList)), (by first | rfl | (simp; done) | (simp [*]; done)), H', ⟨by have := HJ12.out; have := HJ20.out; have := HJ45.out; have := HJ65.out; have := HJ104.out; first | omega | exact Nat.le_refl _⟩, ⟨by apply_rules only [BK101.out, blk_drewN, blk_drew, blk_alloc]⟩, ⟨by apply_rules only [BK102.out, blk_drewN, blk_drew, blk_alloc]⟩, ⟨by apply_rules only [BK103.out, blk_drewN, blk_drew, blk_alloc]⟩, ⟨by apply_rules only [BK107.out, blk_drewN, blk_drew, blk_alloc]⟩, ⟨by apply_rules only [BK111.out, blk_drewN, blk_drew, blk_alloc]⟩, ⟨by apply_rules only [BK118.out, blk_drewN, blk_drew, blk_alloc]⟩, ⟨by apply_rules only [BK122.out, blk_drewN, blk_drew, blk_alloc]⟩, ⟨by apply_rules only [BK141.out, blk_drewN, blk_drew, blk_alloc]⟩, ⟨by apply_rules only [BK145.out, blk_drewN, blk_drew, blk_alloc]⟩, ⟨by apply_rules only [BK149.out, blk_drewN, blk_drew, blk_alloc]⟩, ⟨by apply_rules only [BK153.out, blk_drewN, blk_drew, blk_alloc]⟩, ⟨by apply_rules only [HB.out, below_alloc, pw_below_drewN, below_drew1, below_set, GE101.out, GE102.out, GE103.out, GE107.out, GE111.out, GE118.out, GE122.out, GE141.out, GE145.out, GE149.out, GE153.out]⟩⟩
         ·rw [if_neg c414] at H
          have c414b0 : (t154 == t156) = false := beq_eq_false_iff_ne.mpr c414
          have c414b1 : (t154 != t156) = true := bne_iff_ne.mpr c414
          have H' := Aside0.mk H
          clear H
          have hnb492 := NB141_101.out
          have hnc492 := NB101_141.out
          have hnb493 := NB141_102.out
          have hnc493 := NB102_141.out
          have hnb494 := NB141_103.out
          have hnc494 := NB103_141.out
          have hnb495 := NB141_107.out
          have hnc495 := NB107_141.out
          have hnb496 := NB141_111.out
          have hnc496 := NB111_141.out
          have hnb497 := NB141_118.out
          have hnc497 := NB118_141.out
          have hnb498 := NB141_122.out
          have hnc498 := NB122_141.out
          have hnb499 := NB141_145.out
          have hnc499 := NB145_141.out
          have hnb500 := NB141_149.out
          have hnc500 := NB149_141.out
          have hnb501 := NB141_153.out
          have hnc501 := NB153_141.out
          have hcz502_0 : w290.cell? ⟨gb141, 0, none⟩ = some (.string t138) := (blk_cell BK141.out 0).trans rfl
          have hcz502_1 : w290.cell? ⟨gb141, 1, none⟩ = some (.int .i64 t139) := (blk_cell BK141.out 1).trans rfl
          have hfz502_0 := blk_frozen BK141.out 0
          have hfz502_1 := blk_frozen BK141.out 1
          have hnb503 := NB145_101.out
          have hnc503 := NB101_145.out
          have hnb504 := NB145_102.out
          have hnc504 := NB102_145.out
          have hnb505 := NB145_103.out
          have hnc505 := NB103_145.out
          have hnb506 := NB145_107.out
          have hnc506 := NB107_145.out
          have hnb507 := NB145_111.out
          have hnc507 := NB111_145.out
          have hnb508 := NB145_118.out
          have hnc508 := NB118_145.out
          have hnb509 := NB145_122.out
          have hnc509 := NB122_145.out
          have hnb510 := NB145_149.out
          have hnc510 := NB149_145.out
          have hnb511 := NB145_153.out
          have hnc511 := NB153_145.out
          have hcz512_0 : w290.cell? ⟨gb145, 0, none⟩ = some (.string t142) := (blk_cell BK145.out 0).trans rfl
          have hcz512_1 : w290.cell? ⟨gb145, 1, none⟩ = some (.int .i64 t143) := (blk_cell BK145.out 1).trans rfl
          have hfz512_0 := blk_frozen BK145.out 0
          have hfz512_1 := blk_frozen BK145.out 1
          have hnb513 := NB149_101.out
          have hnc513 := NB101_149.out
          have hnb514 := NB149_102.out
          have hnc514 := NB102_149.out
          have hnb515 := NB149_103.out
          have hnc515 := NB103_149.out
          have hnb516 := NB149_107.out
          have hnc516 := NB107_149.out
          have hnb517 := NB149_111.out
          have hnc517 := NB111_149.out
          have hnb518 := NB149_118.out
          have hnc518 := NB118_149.out
          have hnb519 := NB149_122.out
          have hnc519 := NB122_149.out
          have hnb520 := NB149_153.out
          have hnc520 := NB153_149.out
          have hcz521_0 : w290.cell? ⟨gb149, 0, none⟩ = some (.string t146) := (blk_cell BK149.out 0).trans rfl
          have hcz521_1 : w290.cell? ⟨gb149, 1, none⟩ = some (.int .i64 t147) := (blk_cell BK149.out 1).trans rfl
          have hfz521_0 := blk_frozen BK149.out 0
          have hfz521_1 := blk_frozen BK149.out 1
          have hnb522 := NB153_101.out
          have hnc522 := NB101_153.out
          have hnb523 := NB153_102.out
          have hnc523 := NB102_153.out
          have hnb524 := NB153_103.out
          have hnc524 := NB103_153.out
          have hnb525 := NB153_107.out
          have hnc525 := NB107_153.out
          have hnb526 := NB153_111.out
          have hnc526 := NB111_153.out
          have hnb527 := NB153_118.out
          have hnc527 := NB118_153.out
          have hnb528 := NB153_122.out
          have hnc528 := NB122_153.out
          have hcz529_0 : w290.cell? ⟨gb153, 0, none⟩ = some (.string t150) := (blk_cell BK153.out 0).trans rfl
          have hcz529_1 : w290.cell? ⟨gb153, 1, none⟩ = some (.int .i64 t151) := (blk_cell BK153.out 1).trans rfl
          have hfz529_0 := blk_frozen BK153.out 0
          have hfz529_1 := blk_frozen BK153.out 1
          go_wp2
          go_meet
          case rel => exact ⟨_, (true), (by first | rfl | (simp; done) | (simp [*]; done)), H', ⟨by have := HJ12.out; have := HJ20.out; have := HJ45.out; have := HJ65.out; have := HJ104.out; first | omega | exact Nat.le_refl _⟩, ⟨by apply_rules only [BK101.out, blk_drewN, blk_drew, blk_alloc]⟩, ⟨by apply_rules only [BK102.out, blk_drewN, blk_drew, blk_alloc]⟩, ⟨by apply_rules only [BK103.out, blk_drewN, blk_drew, blk_alloc]⟩, ⟨by apply_rules only [BK107.out, blk_drewN, blk_drew, blk_alloc]⟩, ⟨by apply_rules only [BK111.out, blk_drewN, blk_drew, blk_alloc]⟩, ⟨by apply_rules only [BK118.out, blk_drewN, blk_drew, blk_alloc]⟩, ⟨by apply_rules only [BK122.out, blk_drewN, blk_drew, blk_alloc]⟩, ⟨by apply_rules only [BK141.out, blk_drewN, blk_drew, blk_alloc]⟩, ⟨by apply_rules only [BK145.out, blk_drewN, blk_drew, blk_alloc]⟩, ⟨by apply_rules only [BK149.out, blk_drewN, blk_drew, blk_alloc]⟩, ⟨by apply_rules only [BK153.out, blk_drewN, blk_drew, blk_alloc]⟩, ⟨by apply_rules only [HB.out, below_alloc, pw_below_drewN, below_drew1, below_set, GE101.out, GE102.out, GE103.out, GE107.out, GE111.out, GE118.out, GE122.out, GE141.out, GE145.out, GE149.out, GE153.out]⟩⟩
   case rest =>
    clear HC225
    (try clear c45)
    obtain ⟨kq, x312_224, rfl, HA, HJ224, BK101, BK102, BK103, BK107, BK111, BK118, BK122, BK141, BK145, BK149, BK153, HB⟩ := hcut
    cases kq with
    | zero => exact absurd HA.out (by simp [laws_FnPuzzlesSievedOfAll.j7])
    | succ kj224 =>
     have H := HA.out
     clear HA
     simp only [laws_FnPuzzlesSievedOfAll.j7] at H
     by_cases c530 : x312_224 = true
     ·subst c530
      rw [if_pos rfl] at H
      exact absurd H (by simp)
     ·replace c530 := Bool.eq_false_iff.mpr c530
      subst c530
      rw [if_neg (show ¬ (false = true) by decide)] at H
      have HC531 := Aside0.mk H
      clear H
      go_upto_if 313 with (fail)
      go_cut [] from 313 to 313 (fun wc => ∃ (kq : Nat), Aside0 (laws_FnPuzzlesSievedOfAll.j8 kq a8 t148 a7_0 a7_1 t146 t147 = some true) ∧ Aside0 (kq ≤ kj224) ∧ Aside0 (wc.heap[gb101]? = some (.cells #[.string a3_0, .int .i64 a3_1] 28 (0, 0))) ∧ Aside0 (wc.heap[gb102]? = some (.cells #[.string a4_0, .int .i64 a4_1] 28 (0, 0))) ∧ Aside0 (wc.heap[gb103]? = some (.cells #[.string a7_0, .int .i64 a7_1] 28 (0, 0))) ∧ Aside0 (wc.heap[gb107]? = some (.cells #[.string t104, .int .i64 t105] 28 (0, 0))) ∧ Aside0 (wc.heap[gb111]? = some (.cells #[.string t108, .int .i64 t109] 28 (0, 0))) ∧ Aside0 (wc.heap[gb118]? = some (.cells #[.string t115, .int .i64 t116] 28 (0, 0))) ∧ Aside0 (wc.heap[gb122]? = some (.cells #[.string t119, .int .i64 t120] 28 (0, 0))) ∧ Aside0 (wc.heap[gb141]? = some (.cells #[.string t138, .int .i64 t139] 28 (0, 0))) ∧ Aside0 (wc.heap[gb145]? = some (.cells #[.string t142, .int .i64 t143] 28 (0, 0))) ∧ Aside0 (wc.heap[gb149]? = some (.cells #[.string t146, .int .i64 t147] 28 (0, 0))) ∧ Aside0 (wc.heap[gb153]? = some (.cells #[.string t150, .int .i64 t151] 28 (0, 0))) ∧ Aside0 (Below w.heap.size w wc))
      case first =>
       have H := HC531.out
       clear HC531
       by_cases c532 : t140 = true
       ·subst c532
        rw [if_pos rfl] at H
        replace H := Option.bind_eq_some_iff.mp H
        obtain ⟨⟨t162, t163, t164⟩, A5330, H⟩ := H
        (try dsimp only at H)
        have A533 := Aside0.mk A5330
        clear A5330
        by_cases c534 : t164 = true
        ·subst c534
         rw [if_pos rfl] at H
         by_cases c535 : (!(t162.toList == a4_0.toList) || (!(t163 == a4_1))) = true
         ·rw [if_pos c535] at H
          have c535b0 : (!(t162.toList == a4_0.toList) || (!(t163 == a4_1))) = true := c535
          clear c535
          (first | rw [c535b0] | rw [c535b1] | (simp only [i64_w, i32_w]; rw [c535b0]) | skip)
          exact absurd H (by simp)
         ·rw [if_neg c535] at H
          have c535b0 : (!(t162.toList == a4_0.toList) || (!(t163 == a4_1))) = false := by simpa using c535
          clear c535
          (first | rw [c535b0] | rw [c535b1] | (simp only [i64_w, i32_w]; rw [c535b0]) | skip)
          have H' := Aside0.mk H
          clear H
          have hnb536 := NB141_101.out
          have hnc536 := NB101_141.out
          have hnb537 := NB141_102.out
          have hnc537 := NB102_141.out
          have hnb538 := NB141_103.out
          have hnc538 := NB103_141.out
          have hnb539 := NB141_107.out
          have hnc539 := NB107_141.out
          have hnb540 := NB141_111.out
          have hnc540 := NB111_141.out
          have hnb541 := NB141_118.out
          have hnc541 := NB118_141.out
          have hnb542 := NB141_122.out
          have hnc542 := NB122_141.out
          have hnb543 := NB141_145.out
          have hnc543 := NB145_141.out
          have hnb544 := NB141_149.out
          have hnc544 := NB149_141.out
          have hnb545 := NB141_153.out
          have hnc545 := NB153_141.out
          have hcz546_0 : wc.cell? ⟨gb141, 0, none⟩ = some (.string t138) := (blk_cell BK141.out 0).trans rfl
          have hcz546_1 : wc.cell? ⟨gb141, 1, none⟩ = some (.int .i64 t139) := (blk_cell BK141.out 1).trans rfl
          have hfz546_0 := blk_frozen BK141.out 0
          have hfz546_1 := blk_frozen BK141.out 1
          go_wp2_with (first | ((with_reducible refine gate_callee (f := 29) rfl ?_); refine goesL_ (some 317) rfl rfl Tryd.func29 (by kernel_rfl) rfl #[.agg #[.string t138, .int .i64 t139], .int .i64 a5] rfl (by (try simp only [List.map_toArray, List.map_cons, List.map_nil]); first | done | rfl | (simp only [List.length_drop, List.length_take]; rfl)) ?_; (with_reducible refine (impl_HideNumber.calls t138 t139 a5 t162 t163 true _ A533.out).mono ?_); rintro e w547 ⟨rfl, hb⟩; refine ⟨_, rfl, ?_⟩; have n0_ := Aside0.mk (blk_below (by apply_rules only [BK101.out, blk_drewN, blk_drew, blk_alloc]) hb); have n1_ := Aside0.mk (blk_below (by apply_rules only [BK102.out, blk_drewN, blk_drew, blk_alloc]) hb); have n2_ := Aside0.mk (blk_below (by apply_rules only [BK103.out, blk_drewN, blk_drew, blk_alloc]) hb); have n3_ := Aside0.mk (blk_below (by apply_rules only [BK107.out, blk_drewN, blk_drew, blk_alloc]) hb); have n4_ := Aside0.mk (blk_below (by apply_rules only [BK111.out, blk_drewN, blk_drew, blk_alloc]) hb); have n5_ := Aside0.mk (blk_below (by apply_rules only [BK118.out, blk_drewN, blk_drew, blk_alloc]) hb); have n6_ := Aside0.mk (blk_below (by apply_rules only [BK122.out, blk_drewN, blk_drew, blk_alloc]) hb); have n7_ := Aside0.mk (blk_below (by apply_rules only [BK141.out, blk_drewN, blk_drew, blk_alloc]) hb); have n8_ := Aside0.mk (blk_below (by apply_rules only [BK145.out, blk_drewN, blk_drew, blk_alloc]) hb); have n9_ := Aside0.mk (blk_below (by apply_rules only [BK149.out, blk_drewN, blk_drew, blk_alloc]) hb); have n10_ := Aside0.mk (blk_below (by apply_rules only [BK153.out, blk_drewN, blk_drew, blk_alloc]) hb); have n11_ := Aside0.mk (below_step (by apply_rules only [HB.out, below_alloc, pw_below_drewN, below_drew1, below_set, GE101.out, GE102.out, GE103.out, GE107.out, GE111.out, GE118.out, GE122.out, GE141.out, GE145.out, GE149.out, GE153.out]) hb); clear BK101; clear BK102; clear BK103; clear BK107; clear BK111; clear BK118; clear BK122; clear BK141; clear BK145; clear BK149; clear BK153; clear HB; have BK101 := n0_; have BK102 := n1_; have BK103 := n2_; have BK107 := n3_; have BK111 := n4_; have BK118 := n5_; have BK122 := n6_; have BK141 := n7_; have BK145 := n8_; have BK149 := n9_; have BK153 := n10_; have HB := n11_; clear n0_ n1_ n2_ n3_ n4_ n5_ n6_ n7_ n8_ n9_ n10_ n11_; (try clear hb); (try clear hb2); (try clear hk); (try clear hi)) | ((with_reducible refine gate_dst (N := 60) rfl ?_); (try (refine gate_guard (by rfl) ?_; dsimp only)); refine box_event ?hg (N := 60) ?hd (cs := #[.string (⟨#[]⟩ : ByteArray), .int .i64 0]) (t := 28) ?hr ?_; (case hd => rfl); (case hg => rfl); (case hr => first | (go_simp; done) | (go_simp; rfl)); intro gb165 hg w548 hbox hb; have n0_ := Aside0.mk (blk_below (by apply_rules only [BK101.out, blk_drewN, blk_drew, blk_alloc]) hb); have n1_ := Aside0.mk (blk_below (by apply_rules only [BK102.out, blk_drewN, blk_drew, blk_alloc]) hb); have n2_ := Aside0.mk (blk_below (by apply_rules only [BK103.out, blk_drewN, blk_drew, blk_alloc]) hb); have n3_ := Aside0.mk (blk_below (by apply_rules only [BK107.out, blk_drewN, blk_drew, blk_alloc]) hb); have n4_ := Aside0.mk (blk_below (by apply_rules only [BK111.out, blk_drewN, blk_drew, blk_alloc]) hb); have n5_ := Aside0.mk (blk_below (by apply_rules only [BK118.out, blk_drewN, blk_drew, blk_alloc]) hb); have n6_ := Aside0.mk (blk_below (by apply_rules only [BK122.out, blk_drewN, blk_drew, blk_alloc]) hb); have n7_ := Aside0.mk (blk_below (by apply_rules only [BK141.out, blk_drewN, blk_drew, blk_alloc]) hb); have n8_ := Aside0.mk (blk_below (by apply_rules only [BK145.out, blk_drewN, blk_drew, blk_alloc]) hb); have n9_ := Aside0.mk (blk_below (by apply_rules only [BK149.out, blk_drewN, blk_drew, blk_alloc]) hb); have n10_ := Aside0.mk (blk_below (by apply_rules only [BK153.out, blk_drewN, blk_drew, blk_alloc]) hb); have n11_ := Aside0.mk (below_step (by apply_rules only [HB.out, below_alloc, pw_below_drewN, below_drew1, below_set, GE101.out, GE102.out, GE103.out, GE107.out, GE111.out, GE118.out, GE122.out, GE141.out, GE145.out, GE149.out, GE153.out]) hb); have n12_ := Aside0.mk (hbox); have n13_ := Aside0.mk ((by rw [hg]; exact (below_size (by apply_rules only [HB.out, below_alloc, pw_below_drewN, below_drew1, below_set, GE101.out, GE102.out, GE103.out, GE107.out, GE111.out, GE118.out, GE122.out, GE141.out, GE145.out, GE149.out, GE153.out])) : w.heap.size ≤ gb165)); have n14_ := Aside0.mk ((by rw [hg]; exact (below_size (by apply_rules only [HB.out, below_alloc, pw_below_drewN, below_drew1, below_set, GE101.out, GE102.out, GE103.out, GE107.out, GE111.out, GE118.out, GE122.out, GE141.out, GE145.out, GE149.out, GE153.out])) : w.heap.size ≤ gb165)); have n15_ := Aside0.mk ((by rw [hg]; exact Nat.ne_of_lt (blk_lt (g := gb101) (o := .cells #[.string a3_0, .int .i64 a3_1] 28 (0, 0)) (by apply_rules only [BK101.out, blk_drewN, blk_drew, blk_alloc])) : gb101 ≠ gb165)); have n16_ := Aside0.mk ((by rw [hg]; exact Nat.ne_of_gt (blk_lt (g := gb101) (o := .cells #[.string a3_0, .int .i64 a3_1] 28 (0, 0)) (by apply_rules only [BK101.out, blk_drewN, blk_drew, blk_alloc])) : gb165 ≠ gb101)); have n17_ := Aside0.mk ((by rw [hg]; exact Nat.ne_of_lt (blk_lt (g := gb102) (o := .cells #[.string a4_0, .int .i64 a4_1] 28 (0, 0)) (by apply_rules only [BK102.out, blk_drewN, blk_drew, blk_alloc])) : gb102 ≠ gb165)); have n18_ := Aside0.mk ((by rw [hg]; exact Nat.ne_of_gt (blk_lt (g := gb102) (o := .cells #[.string a4_0, .int .i64 a4_1] 28 (0, 0)) (by apply_rules only [BK102.out, blk_drewN, blk_drew, blk_alloc])) : gb165 ≠ gb102)); have n19_ := Aside0.mk ((by rw [hg]; exact Nat.ne_of_lt (blk_lt (g := gb103) (o := .cells #[.string a7_0, .int .i64 a7_1] 28 (0, 0)) (by apply_rules only [BK103.out, blk_drewN, blk_drew, blk_alloc])) : gb103 ≠ gb165)); have n20_ := Aside0.mk ((by rw [hg]; exact Nat.ne_of_gt (blk_lt (g := gb103) (o := .cells #[.string a7_0, .int .i64 a7_1] 28 (0, 0)) (by apply_rules only [BK103.out, blk_drewN, blk_drew, blk_alloc])) : gb165 ≠ gb103)); have n21_ := Aside0.mk ((by rw [hg]; exact Nat.ne_of_lt (blk_lt (g := gb107) (o := .cells #[.string t104, .int .i64 t105] 28 (0, 0)) (by apply_rules only [BK107.out, blk_drewN, blk_drew, blk_alloc])) : gb107 ≠ gb165)); have n22_ := Aside0.mk ((by rw [hg]; exact Nat.ne_of_gt (blk_lt (g := gb107) (o := .cells #[.string t104, .int .i64 t105] 28 (0, 0)) (by apply_rules only [BK107.out, blk_drewN, blk_drew, blk_alloc])) : gb165 ≠ gb107)); have n23_ := Aside0.mk ((by rw [hg]; exact Nat.ne_of_lt (blk_lt (g := gb111) (o := .cells #[.string t108, .int .i64 t109] 28 (0, 0)) (by apply_rules only [BK111.out, blk_drewN, blk_drew, blk_alloc])) : gb111 ≠ gb165)); have n24_ := Aside0.mk ((by rw [hg]; exact Nat.ne_of_gt (blk_lt (g := gb111) (o := .cells #[.string t108, .int .i64 t109] 28 (0, 0)) (by apply_rules only [BK111.out, blk_drewN, blk_drew, blk_alloc])) : gb165 ≠ gb111)); have n25_ := Aside0.mk ((by rw [hg]; exact Nat.ne_of_lt (blk_lt (g := gb118) (o := .cells #[.string t115, .int .i64 t116] 28 (0, 0)) (by apply_rules only [BK118.out, blk_drewN, blk_drew, blk_alloc])) : gb118 ≠ gb165)); have n26_ := Aside0.mk ((by rw [hg]; exact Nat.ne_of_gt (blk_lt (g := gb118) (o := .cells #[.string t115, .int .i64 t116] 28 (0, 0)) (by apply_rules only [BK118.out, blk_drewN, blk_drew, blk_alloc])) : gb165 ≠ gb118)); have n27_ := Aside0.mk ((by rw [hg]; exact Nat.ne_of_lt (blk_lt (g := gb122) (o := .cells #[.string t119, .int .i64 t120] 28 (0, 0)) (by apply_rules only [BK122.out, blk_drewN, blk_drew, blk_alloc])) : gb122 ≠ gb165)); have n28_ := Aside0.mk ((by rw [hg]; exact Nat.ne_of_gt (blk_lt (g := gb122) (o := .cells #[.string t119, .int .i64 t120] 28 (0, 0)) (by apply_rules only [BK122.out, blk_drewN, blk_drew, blk_alloc])) : gb165 ≠ gb122)); have n29_ := Aside0.mk ((by rw [hg]; exact Nat.ne_of_lt (blk_lt (g := gb141) (o := .cells #[.string t138, .int .i64 t139] 28 (0, 0)) (by apply_rules only [BK141.out, blk_drewN, blk_drew, blk_alloc])) : gb141 ≠ gb165)); have n30_ := Aside0.mk ((by rw [hg]; exact Nat.ne_of_gt (blk_lt (g := gb141) (o := .cells #[.string t138, .int .i64 t139] 28 (0, 0)) (by apply_rules only [BK141.out, blk_drewN, blk_drew, blk_alloc])) : gb165 ≠ gb141)); have n31_ := Aside0.mk ((by rw [hg]; exact Nat.ne_of_lt (blk_lt (g := gb145) (o := .cells #[.string t142, .int .i64 t143] 28 (0, 0)) (by apply_rules only [BK145.out, blk_drewN, blk_drew, blk_alloc])) : gb145 ≠ gb165)); have n32_ := Aside0.mk ((by rw [hg]; exact Nat.ne_of_gt (blk_lt (g := gb145) (o := .cells #[.string t142, .int .i64 t143] 28 (0, 0)) (by apply_rules only [BK145.out, blk_drewN, blk_drew, blk_alloc])) : gb165 ≠ gb145)); have n33_ := Aside0.mk ((by rw [hg]; exact Nat.ne_of_lt (blk_lt (g := gb149) (o := .cells #[.string t146, .int .i64 t147] 28 (0, 0)) (by apply_rules only [BK149.out, blk_drewN, blk_drew, blk_alloc])) : gb149 ≠ gb165)); have n34_ := Aside0.mk ((by rw [hg]; exact Nat.ne_of_gt (blk_lt (g := gb149) (o := .cells #[.string t146, .int .i64 t147] 28 (0, 0)) (by apply_rules only [BK149.out, blk_drewN, blk_drew, blk_alloc])) : gb165 ≠ gb149)); have n35_ := Aside0.mk ((by rw [hg]; exact Nat.ne_of_lt (blk_lt (g := gb153) (o := .cells #[.string t150, .int .i64 t151] 28 (0, 0)) (by apply_rules only [BK153.out, blk_drewN, blk_drew, blk_alloc])) : gb153 ≠ gb165)); have n36_ := Aside0.mk ((by rw [hg]; exact Nat.ne_of_gt (blk_lt (g := gb153) (o := .cells #[.string t150, .int .i64 t151] 28 (0, 0)) (by apply_rules only [BK153.out, blk_drewN, blk_drew, blk_alloc])) : gb165 ≠ gb153)); clear BK101; clear BK102; clear BK103; clear BK107; clear BK111; clear BK118; clear BK122; clear BK141; clear BK145; clear BK149; clear BK153; clear HB; have BK101 := n0_; have BK102 := n1_; have BK103 := n2_; have BK107 := n3_; have BK111 := n4_; have BK118 := n5_; have BK122 := n6_; have BK141 := n7_; have BK145 := n8_; have BK149 := n9_; have BK153 := n10_; have HB := n11_; have BK165 := n12_; have GW165 := n13_; have GE165 := n14_; have NB101_165 := n15_; have NB165_101 := n16_; have NB102_165 := n17_; have NB165_102 := n18_; have NB103_165 := n19_; have NB165_103 := n20_; have NB107_165 := n21_; have NB165_107 := n22_; have NB111_165 := n23_; have NB165_111 := n24_; have NB118_165 := n25_; have NB165_118 := n26_; have NB122_165 := n27_; have NB165_122 := n28_; have NB141_165 := n29_; have NB165_141 := n30_; have NB145_165 := n31_; have NB165_145 := n32_; have NB149_165 := n33_; have NB165_149 := n34_; have NB153_165 := n35_; have NB165_153 := n36_; clear n0_ n1_ n2_ n3_ n4_ n5_ n6_ n7_ n8_ n9_ n10_ n11_ n12_ n13_ n14_ n15_ n16_ n17_ n18_ n19_ n20_ n21_ n22_ n23_ n24_ n25_ n26_ n27_ n28_ n29_ n30_ n31_ n32_ n33_ n34_ n35_ n36_; clear hb hbox hg; have hnb549 := NB165_101.out; have hnc549 := NB101_165.out; have hnb550 := NB165_102.out; have hnc550 := NB102_165.out; have hnb551 := NB165_103.out; have hnc551 := NB103_165.out; have hnb552 := NB165_107.out; have hnc552 := NB107_165.out; have hnb553 := NB165_111.out; have hnc553 := NB111_165.out; have hnb554 := NB165_118.out; have hnc554 := NB118_165.out; have hnb555 := NB165_122.out; have hnc555 := NB122_165.out; have hnb556 := NB165_141.out; have hnc556 := NB141_165.out; have hnb557 := NB165_145.out; have hnc557 := NB145_165.out; have hnb558 := NB165_149.out; have hnc558 := NB149_165.out; have hnb559 := NB165_153.out; have hnc559 := NB153_165.out; have hcz560_0 : w548.cell? ⟨gb165, 0, none⟩ = some (.string (⟨#[]⟩ : ByteArray)) := (blk_cell BK165.out 0).trans rfl; have hcz560_1 : w548.cell? ⟨gb165, 1, none⟩ = some (.int .i64 0) := (blk_cell BK165.out 1).trans rfl; have hfz560_0 := blk_frozen BK165.out 0; have hfz560_1 := blk_frozen BK165.out 1; have hnb561 := NB102_101.out; have hnc561 := NB101_102.out; have hnb562 := NB102_103.out; have hnc562 := NB103_102.out; have hnb563 := NB102_107.out; have hnc563 := NB107_102.out; have hnb564 := NB102_111.out; have hnc564 := NB111_102.out; have hnb565 := NB102_118.out; have hnc565 := NB118_102.out; have hnb566 := NB102_122.out; have hnc566 := NB122_102.out; have hnb567 := NB102_145.out; have hnc567 := NB145_102.out; have hnb568 := NB102_149.out; have hnc568 := NB149_102.out; have hnb569 := NB102_153.out; have hnc569 := NB153_102.out; have hcz570_0 : w548.cell? ⟨gb102, 0, none⟩ = some (.string a4_0) := (blk_cell BK102.out 0).trans rfl; have hcz570_1 : w548.cell? ⟨gb102, 1, none⟩ = some (.int .i64 a4_1) := (blk_cell BK102.out 1).trans rfl; have hfz570_0 := blk_frozen BK102.out 0; have hfz570_1 := blk_frozen BK102.out 1))
          go_meet
          case rel => exact ⟨_, H', ⟨by have := HJ12.out; have := HJ20.out; have := HJ45.out; have := HJ65.out; have := HJ104.out; have := HJ224.out; first | omega | exact Nat.le_refl _⟩, ⟨by (with_reducible repeat (first | refine blk_drewN ?_ _ | refine blk_drew ?_ | refine blk_alloc ?_ _)); refine blk_far ?_ NB101_165.out _; (with_reducible repeat (first | refine blk_drewN ?_ _ | refine blk_drew ?_ | refine blk_alloc ?_ _)); refine blk_far ?_ NB101_165.out _; apply_rules only [BK101.out, blk_drewN, blk_drew, blk_alloc]⟩, ⟨by (with_reducible repeat (first | refine blk_drewN ?_ _ | refine blk_drew ?_ | refine blk_alloc ?_ _)); refine blk_far ?_ NB102_165.out _; (with_reducible repeat (first | refine blk_drewN ?_ _ | refine blk_drew ?_ | refine blk_alloc ?_ _)); refine blk_far ?_ NB102_165.out _; apply_rules only [BK102.out, blk_drewN, blk_drew, blk_alloc]⟩, ⟨by (with_reducible repeat (first | refine blk_drewN ?_ _ | refine blk_drew ?_ | refine blk_alloc ?_ _)); refine blk_far ?_ NB103_165.out _; (with_reducible repeat (first | refine blk_drewN ?_ _ | refine blk_drew ?_ | refine blk_alloc ?_ _)); refine blk_far ?_ NB103_165.out _; apply_rules only [BK103.out, blk_drewN, blk_drew, blk_alloc]⟩, ⟨by (with_reducible repeat (first | refine blk_drewN ?_ _ | refine blk_drew ?_ | refine blk_alloc ?_ _)); refine blk_far ?_ NB107_165.out _; (with_reducible repeat (first | refine blk_drewN ?_ _ | refine blk_drew ?_ | refine blk_alloc ?_ _)); refine blk_far ?_ NB107_165.out _; apply_rules only [BK107.out, blk_drewN, blk_drew, blk_alloc]⟩, ⟨by (with_reducible repeat (first | refine blk_drewN ?_ _ | refine blk_drew ?_ | refine blk_alloc ?_ _)); refine blk_far ?_ NB111_165.out _; (with_reducible repeat (first | refine blk_drewN ?_ _ | refine blk_drew ?_ | refine blk_alloc ?_ _)); refine blk_far ?_ NB111_165.out _; apply_rules only [BK111.out, blk_drewN, blk_drew, blk_alloc]⟩, ⟨by (with_reducible repeat (first | refine blk_drewN ?_ _ | refine blk_drew ?_ | refine blk_alloc ?_ _)); refine blk_far ?_ NB118_165.out _; (with_reducible repeat (first | refine blk_drewN ?_ _ | refine blk_drew ?_ | refine blk_alloc ?_ _)); refine blk_far ?_ NB118_165.out _; apply_rules only [BK118.out, blk_drewN, blk_drew, blk_alloc]⟩, ⟨by (with_reducible repeat (first | refine blk_drewN ?_ _ | refine blk_drew ?_ | refine blk_alloc ?_ _)); refine blk_far ?_ NB122_165.out _; (with_reducible repeat (first | refine blk_drewN ?_ _ | refine blk_drew ?_ | refine blk_alloc ?_ _)); refine blk_far ?_ NB122_165.out _; apply_rules only [BK122.out, blk_drewN, blk_drew, blk_alloc]⟩, ⟨by (with_reducible repeat (first | refine blk_drewN ?_ _ | refine blk_drew ?_ | refine blk_alloc ?_ _)); refine blk_far ?_ NB141_165.out _; (with_reducible repeat (first | refine blk_drewN ?_ _ | refine blk_drew ?_ | refine blk_alloc ?_ _)); refine blk_far ?_ NB141_165.out _; apply_rules only [BK141.out, blk_drewN, blk_drew, blk_alloc]⟩, ⟨by (with_reducible repeat (first | refine blk_drewN ?_ _ | refine blk_drew ?_ | refine blk_alloc ?_ _)); refine blk_far ?_ NB145_165.out _; (with_reducible repeat (first | refine blk_drewN ?_ _ | refine blk_drew ?_ | refine blk_alloc ?_ _)); refine blk_far ?_ NB145_165.out _; apply_rules only [BK145.out, blk_drewN, blk_drew, blk_alloc]⟩, ⟨by (with_reducible repeat (first | refine blk_drewN ?_ _ | refine blk_drew ?_ | refine blk_alloc ?_ _)); refine blk_far ?_ NB149_165.out _; (with_reducible repeat (first | refine blk_drewN ?_ _ | refine blk_drew ?_ | refine blk_alloc ?_ _)); refine blk_far ?_ NB149_165.out _; apply_rules only [BK149.out, blk_drewN, blk_drew, blk_alloc]⟩, ⟨by (with_reducible repeat (first | refine blk_drewN ?_ _ | refine blk_drew ?_ | refine blk_alloc ?_ _)); refine blk_far ?_ NB153_165.out _; (with_reducible repeat (first | refine blk_drewN ?_ _ | refine blk_drew ?_ | refine blk_alloc ?_ _)); refine blk_far ?_ NB153_165.out _; apply_rules only [BK153.out, blk_drewN, blk_drew, blk_alloc]⟩, ⟨by apply_rules only [HB.out, below_alloc, pw_below_drewN, below_drew1, below_set, GE101.out, GE102.out, GE103.out, GE107.out, GE111.out, GE118.out, GE122.out, GE141.out, GE145.out, GE149.out, GE153.out, GE165.out]⟩⟩
        ·replace c534 := Bool.eq_false_iff.mpr c534
         subst c534
         rw [if_neg (show ¬ (false = true) by decide)] at H
         exact absurd H (by simp)
       ·replace c532 := Bool.eq_false_iff.mpr c532
        subst c532
        rw [if_neg (show ¬ (false = true) by decide)] at H
        have H' := Aside0.mk H
        clear H
        go_wp2
        go_meet
        case rel => exact ⟨_, H', ⟨by have := HJ12.out; have := HJ20.out; have := HJ45.out; have := HJ65.out; have := HJ104.out; have := HJ224.out; first | omega | exact Nat.le_refl _⟩, ⟨by apply_rules only [BK101.out, blk_drewN, blk_drew, blk_alloc]⟩, ⟨by apply_rules only [BK102.out, blk_drewN, blk_drew, blk_alloc]⟩, ⟨by apply_rules only [BK103.out, blk_drewN, blk_drew, blk_alloc]⟩, ⟨by apply_rules only [BK107.out, blk_drewN, blk_drew, blk_alloc]⟩, ⟨by apply_rules only [BK111.out, blk_drewN, blk_drew, blk_alloc]⟩, ⟨by apply_rules only [BK118.out, blk_drewN, blk_drew, blk_alloc]⟩, ⟨by apply_rules only [BK122.out, blk_drewN, blk_drew, blk_alloc]⟩, ⟨by apply_rules only [BK141.out, blk_drewN, blk_drew, blk_alloc]⟩, ⟨by apply_rules only [BK145.out, blk_drewN, blk_drew, blk_alloc]⟩, ⟨by apply_rules only [BK149.out, blk_drewN, blk_drew, blk_alloc]⟩, ⟨by apply_rules only [BK153.out, blk_drewN, blk_drew, blk_alloc]⟩, ⟨by apply_rules only [HB.out, below_alloc, pw_below_drewN, below_drew1, below_set, GE101.out, GE102.out, GE103.out, GE107.out, GE111.out, GE118.out, GE122.out, GE141.out, GE145.out, GE149.out, GE153.out]⟩⟩
      case rest =>
       clear HC531
       (try clear c45); (try clear c530)
       obtain ⟨kq, HA, HJ530, BK101, BK102, BK103, BK107, BK111, BK118, BK122, BK141, BK145, BK149, BK153, HB⟩ := hcut
       cases kq with
       | zero => exact absurd HA.out (by simp [laws_FnPuzzlesSievedOfAll.j8])
       | succ kj530 =>
        have H := HA.out
        clear HA
        simp only [laws_FnPuzzlesSievedOfAll.j8] at H
        by_cases c571 : t148 = true
        ·subst c571
         rw [if_pos rfl] at H
         obtain ⟨ji572, hji572⟩ : ∃ j_ : Int, (wrap64 (a8 - 1)) = j_ := ⟨_, rfl⟩
         replace H : (if 0 ≤ (ji572) then (if (ji572) < (a7_0.size : Int) then ((impl_ShowNumber.f kj530 t146 t147 a8 ((bt a7_0 (ji572)) == 111)).bind fun bt166 => (if bt166.2.2 = true then (if (!(bt166.1.toList == a7_0.toList) || (!(bt166.2.1 == a7_1))) = true then (some false) else (some true)) else (some false))) else (none)) else (none)) = some true := by first | (rw [hji572] at H; exact H) | (simp only [hji572] at H ⊢; exact H)
         have hji572w : (IntKind.i64.wrap (a8 - 1)) = ji572 := (i64_w _).trans hji572
         by_cases c573 : 0 ≤ (ji572)
         ·rw [if_pos c573] at H
          have c573b0 : decide (0 ≤ (ji572)) = true := decide_eq_true c573
          clear c573
          by_cases c574 : (ji572) < (a7_0.size : Int)
          ·rw [if_pos c574] at H
           have c574b0 : decide ((ji572) < (a7_0.size : Int)) = true := decide_eq_true c574
           clear c574
           replace H := Option.bind_eq_some_iff.mp H
           obtain ⟨⟨t166, t167, t168⟩, A5760, H⟩ := H
           (try dsimp only at H)
           have A576 := Aside0.mk A5760
           clear A5760
           by_cases c577 : t168 = true
           ·subst c577
            rw [if_pos rfl] at H
            by_cases c578 : (!(t166.toList == a7_0.toList) || (!(t167 == a7_1))) = true
            ·rw [if_pos c578] at H
             have c578b0 : (!(t166.toList == a7_0.toList) || (!(t167 == a7_1))) = true := c578
             clear c578
             exact absurd H (by simp)
            ·rw [if_neg c578] at H
             have c578b0 : (!(t166.toList == a7_0.toList) || (!(t167 == a7_1))) = false := by simpa using c578
             clear c578
             clear H
             try go_wp2
             have n0_ := Aside0.mk (blk_drew BK101.out)
             have n1_ := Aside0.mk (blk_drew BK102.out)
             have n2_ := Aside0.mk (blk_drew BK103.out)
             have n3_ := Aside0.mk (blk_drew BK107.out)
             have n4_ := Aside0.mk (blk_drew BK111.out)
             have n5_ := Aside0.mk (blk_drew BK118.out)
             have n6_ := Aside0.mk (blk_drew BK122.out)
             have n7_ := Aside0.mk (blk_drew BK141.out)
             have n8_ := Aside0.mk (blk_drew BK145.out)
             have n9_ := Aside0.mk (blk_drew BK149.out)
             have n10_ := Aside0.mk (blk_drew BK153.out)
             have n11_ := Aside0.mk (below_drew1 HB.out)
             clear BK101
             clear BK102
             clear BK103
             clear BK107
             clear BK111
             clear BK118
             clear BK122
             clear BK141
             clear BK145
             clear BK149
             clear BK153
             clear HB
             have BK101 := n0_
             have BK102 := n1_
             have BK103 := n2_
             have BK107 := n3_
             have BK111 := n4_
             have BK118 := n5_
             have BK122 := n6_
             have BK141 := n7_
             have BK145 := n8_
             have BK149 := n9_
             have BK153 := n10_
             have HB := n11_
             clear n0_ n1_ n2_ n3_ n4_ n5_ n6_ n7_ n8_ n9_ n10_ n11_
             have p575 : 0 ≤ ((ji572) : Int) := of_decide_eq_true (by first | (with_reducible assumption) | assumption)
             have q575 : (ji572) < (a7_0.size : Int) := of_decide_eq_true (by first | (with_reducible assumption) | assumption)
             have hx575 := bt_at a7_0 (ji572)
             replace p575 := eq_true p575
             replace q575 := eq_true q575
             refine start_ (n := 15) (S := fun w' => w'.cell? ⟨gb149, 0, none⟩ = some (.string t146) ∧ w'.cell? ⟨gb149, 1, none⟩ = some (.int .i64 t147) ∧ w'.cell? ⟨gb103, 0, none⟩ = some (.string a7_0) ∧ w'.cell? ⟨gb103, 1, none⟩ = some (.int .i64 a7_1)) (ds := []) #[false, false, false, false, false, false, false, false, false, false, false, false, false, false, false] (by kernel_rfl) rfl rfl ⟨(blk_cell BK149.out 0).trans rfl, (blk_cell BK149.out 1).trans rfl, (blk_cell BK103.out 0).trans rfl, (blk_cell BK103.out 1).trans rfl⟩ (fun hHeld => ?_); refine with_tabW laws_FnPuzzlesSievedOfAll.tab43 laws_FnPuzzlesSievedOfAll.bits43 (fun HT_ HW_ => ?_)
             generalize wc.drew = w579 at BK101 BK102 BK103 BK107 BK111 BK118 BK122 BK141 BK145 BK149 BK153 HB hHeld ⊢
             refine pure_ (i := 1) (N := some 330) (v := ?_) (a' := ?_) #[false, true, false, false, false, false, false, false, false, false, false, false, false, false, false] rfl rfl (any_of HT_.out (by kernel_rfl)) (fun _ _ _ h => h) (Or.inl ⟨by rfl, ?_⟩) ?_ ?_
             rotate_left
             ·intro w'
              go_simp
              with_reducible rfl
             rotate_left
             ·simp only [Act.put, List.setIfInBounds_toArray, List.set_cons_zero, List.set_cons_succ, i64_w, i32_w]
              rfl
             refine pure_ (i := 2) (N := some 331) (v := ?_) (a' := ?_) #[false, true, true, false, false, false, false, false, false, false, false, false, false, false, false] rfl rfl (any_of HT_.out (by kernel_rfl)) (fun _ _ _ h => h) (Or.inl ⟨by rfl, ?_⟩) ?_ ?_
             rotate_left
             ·intro w'
              go_simp
              with_reducible rfl
             rotate_left
             ·simp only [Act.put, List.setIfInBounds_toArray, List.set_cons_zero, List.set_cons_succ, i64_w, i32_w]
              rfl
             refine pure_ (i := 4) (N := some 333) (v := ?_) (a' := ?_) #[false, true, true, false, true, false, false, false, false, false, false, false, false, false, false] rfl rfl (any_of HT_.out (by kernel_rfl)) (fun _ _ _ h => h) (Or.inl ⟨by rfl, ?_⟩) ?_ ?_
             rotate_left
             ·intro w'
              go_simp
              with_reducible rfl
             rotate_left
             ·simp only [Act.put, List.setIfInBounds_toArray, List.set_cons_zero, List.set_cons_succ, i64_w, i32_w]
              rfl
             refine pure_ (i := 5) (N := some 334) (v := ?_) (a' := ?_) #[false, true, true, false, true, true, false, false, false, false, false, false, false, false, false] rfl rfl (any_of HT_.out (by kernel_rfl)) (fun _ _ _ h => h) (Or.inl ⟨by rfl, ?_⟩) ?_ ?_
             rotate_left
             ·intro w'
              go_simp
              with_reducible rfl
             rotate_left
             ·simp only [Act.put, List.setIfInBounds_toArray, List.set_cons_zero, List.set_cons_succ, i64_w, i32_w]
              rfl
             refine take_ (i := 0) (N := some 329) (v := ?_) (a' := ?_) #[true, true, true, false, true, true, false, false, false, false, false, false, false, false, false] rfl rfl (take_ofW HT_.out HW_.out (by kernel_rfl)) (fun _ _ _ h => h) (Or.inl ⟨by rfl, ?_⟩) hHeld ?_ ?_
             rotate_left
             ·rintro w' ⟨s0, s1, s2, s3⟩
              go_simp
              with_reducible rfl
             rotate_left
             ·simp only [Act.put, List.setIfInBounds_toArray, List.set_cons_zero, List.set_cons_succ, i64_w, i32_w]
              rfl
             refine take_ (i := 3) (N := some 332) (v := ?_) (a' := ?_) #[true, true, true, true, true, true, false, false, false, false, false, false, false, false, false] rfl rfl (take_ofW HT_.out HW_.out (by kernel_rfl)) (fun _ _ _ h => h) (Or.inl ⟨by rfl, ?_⟩) hHeld ?_ ?_
             rotate_left
             ·rintro w' ⟨s0, s1, s2, s3⟩
              go_simp
              with_reducible rfl
             rotate_left
             ·simp only [Act.put, List.setIfInBounds_toArray, List.set_cons_zero, List.set_cons_succ, i64_w, i32_w]
              rfl
             refine take_ (i := 6) (N := some 335) (v := ?_) (a' := ?_) #[true, true, true, true, true, true, true, false, false, false, false, false, false, false, false] rfl rfl (take_ofW HT_.out HW_.out (by kernel_rfl)) (fun _ _ _ h => h) (Or.inl ⟨by rfl, ?_⟩) hHeld ?_ ?_
             rotate_left
             ·rintro w' ⟨s0, s1, s2, s3⟩
              go_simp
              with_reducible rfl
             rotate_left
             ·simp only [Act.put, List.setIfInBounds_toArray, List.set_cons_zero, List.set_cons_succ, i64_w, i32_w]
              rfl
             refine pure_ (i := 7) (N := some 336) (v := ?_) (a' := ?_) #[true, true, true, true, true, true, true, true, false, false, false, false, false, false, false] rfl rfl (any_of HT_.out (by kernel_rfl)) (fun _ _ _ h => h) (Or.inl ⟨by rfl, ?_⟩) ?_ ?_
             rotate_left
             ·intro w'
              go_simp
              with_reducible rfl
             rotate_left
             ·simp only [Act.put, List.setIfInBounds_toArray, List.set_cons_zero, List.set_cons_succ, i64_w, i32_w]
              rfl
             refine join_ (σ := Nat) 2 #[true, true, true, true, true, true, true, true, true, true, true, true, true, false, false] (fun s_ => [(337, .tuple #[.agg #[.string t166, .int .i64 t167], .bool true]), (62, .pointer (some ⟨s_, 0, none⟩)), (328, .tuple #[.agg #[.string t166, .int .i64 t167], .bool true]), (338, .agg #[.string t166, .int .i64 t167]), (339, .bool true)]) (fun s_ w' => (w'.cell? ⟨gb149, 0, none⟩ = some (.string t146) ∧ w'.cell? ⟨gb149, 1, none⟩ = some (.int .i64 t147) ∧ w'.cell? ⟨gb103, 0, none⟩ = some (.string a7_0) ∧ w'.cell? ⟨gb103, 1, none⟩ = some (.int .i64 a7_1)) ∧ (w'.heap[gb101]? = some (.cells #[.string a3_0, .int .i64 a3_1] 28 (0, 0))) ∧ (w'.heap[gb102]? = some (.cells #[.string a4_0, .int .i64 a4_1] 28 (0, 0))) ∧ (w'.heap[gb103]? = some (.cells #[.string a7_0, .int .i64 a7_1] 28 (0, 0))) ∧ (w'.heap[gb107]? = some (.cells #[.string t104, .int .i64 t105] 28 (0, 0))) ∧ (w'.heap[gb111]? = some (.cells #[.string t108, .int .i64 t109] 28 (0, 0))) ∧ (w'.heap[gb118]? = some (.cells #[.string t115, .int .i64 t116] 28 (0, 0))) ∧ (w'.heap[gb122]? = some (.cells #[.string t119, .int .i64 t120] 28 (0, 0))) ∧ (w'.heap[gb141]? = some (.cells #[.string t138, .int .i64 t139] 28 (0, 0))) ∧ (w'.heap[gb145]? = some (.cells #[.string t142, .int .i64 t143] 28 (0, 0))) ∧ (w'.heap[gb149]? = some (.cells #[.string t146, .int .i64 t147] 28 (0, 0))) ∧ (w'.heap[gb153]? = some (.cells #[.string t150, .int .i64 t151] 28 (0, 0))) ∧ (w'.heap[s_]? = some (.cells #[.string (⟨#[]⟩ : ByteArray), .int .i64 0] 28 (0, 0))) ∧ (w.heap.size ≤ s_) ∧ (w.heap.size ≤ s_) ∧ (gb101 ≠ s_) ∧ (s_ ≠ gb101) ∧ (gb102 ≠ s_) ∧ (s_ ≠ gb102) ∧ (gb103 ≠ s_) ∧ (s_ ≠ gb103) ∧ (gb107 ≠ s_) ∧ (s_ ≠ gb107) ∧ (gb111 ≠ s_) ∧ (s_ ≠ gb111) ∧ (gb118 ≠ s_) ∧ (s_ ≠ gb118) ∧ (gb122 ≠ s_) ∧ (s_ ≠ gb122) ∧ (gb141 ≠ s_) ∧ (s_ ≠ gb141) ∧ (gb145 ≠ s_) ∧ (s_ ≠ gb145) ∧ (gb149 ≠ s_) ∧ (s_ ≠ gb149) ∧ (gb153 ≠ s_) ∧ (s_ ≠ gb153) ∧ (Below w.heap.size w w')) ?_ ?_
             rotate_left
             ·intro hCont
              refine two_ (i := 8) (j := 12) (Ni := some 337) (Nj := some 62) #[true, true, true, true, true, true, true, true, true, false, false, false, false, false, false] #[true, true, true, true, true, true, true, true, false, false, false, false, true, false, false] rfl rfl rfl rfl (two_of HT_.out (by kernel_rfl)) (by decide) (by decide) (fun K hK => ?_) (fun K hK => ?_)
              ·skip
               refine goes_ Tryd.func31 (by kernel_rfl) rfl #[.agg #[.string t146, .int .i64 t147], .int .i64 a8, .bool ((bt a7_0 (ji572)) == 111)] (by rfl) rfl rfl (by (try simp only [List.map_toArray, List.map_cons, List.map_nil]); first | done | (simp only [hji572]; rfl) | rfl | (simp only [List.length_drop, List.length_take]; rfl)) ?_
               with_reducible refine (impl_ShowNumber.calls kj530 t146 t147 a8 ((bt a7_0 (ji572)) == 111) t166 t167 true _ A576.out).mono ?_
               rintro e w580 ⟨rfl, hb⟩
               refine ⟨_, rfl, ?_⟩
               have n0_ := Aside0.mk (blk_below (by apply_rules only [BK101.out, blk_drewN, blk_drew, blk_alloc]) hb)
               have n1_ := Aside0.mk (blk_below (by apply_rules only [BK102.out, blk_drewN, blk_drew, blk_alloc]) hb)
               have n2_ := Aside0.mk (blk_below (by apply_rules only [BK103.out, blk_drewN, blk_drew, blk_alloc]) hb)
               have n3_ := Aside0.mk (blk_below (by apply_rules only [BK107.out, blk_drewN, blk_drew, blk_alloc]) hb)
               have n4_ := Aside0.mk (blk_below (by apply_rules only [BK111.out, blk_drewN, blk_drew, blk_alloc]) hb)
               have n5_ := Aside0.mk (blk_below (by apply_rules only [BK118.out, blk_drewN, blk_drew, blk_alloc]) hb)
               have n6_ := Aside0.mk (blk_below (by apply_rules only [BK122.out, blk_drewN, blk_drew, blk_alloc]) hb)
               have n7_ := Aside0.mk (blk_below (by apply_rules only [BK141.out, blk_drewN, blk_drew, blk_alloc]) hb)
               have n8_ := Aside0.mk (blk_below (by apply_rules only [BK145.out, blk_drewN, blk_drew, blk_alloc]) hb)
               have n9_ := Aside0.mk (blk_below (by apply_rules only [BK149.out, blk_drewN, blk_drew, blk_alloc]) hb)
               have n10_ := Aside0.mk (blk_below (by apply_rules only [BK153.out, blk_drewN, blk_drew, blk_alloc]) hb)
               have n11_ := Aside0.mk (below_step (by apply_rules only [HB.out, below_alloc, pw_below_drewN, below_drew1, below_set, GE101.out, GE102.out, GE103.out, GE107.out, GE111.out, GE118.out, GE122.out, GE141.out, GE145.out, GE149.out, GE153.out]) hb)
               clear BK101
               clear BK102
               clear BK103
               clear BK107
               clear BK111
               clear BK118
               clear BK122
               clear BK141
               clear BK145
               clear BK149
               clear BK153
               clear HB
               have BK101 := n0_
               have BK102 := n1_
               have BK103 := n2_
               have BK107 := n3_
               have BK111 := n4_
               have BK118 := n5_
               have BK122 := n6_
               have BK141 := n7_
               have BK145 := n8_
               have BK149 := n9_
               have BK153 := n10_
               have HB := n11_
               clear n0_ n1_ n2_ n3_ n4_ n5_ n6_ n7_ n8_ n9_ n10_ n11_
               (try clear hb)
               (try clear hb2)
               (try clear hk)
               (try clear hi)
               refine hK.out _ _ ⟨(blk_cell BK149.out 0).trans rfl, (blk_cell BK149.out 1).trans rfl, (blk_cell BK103.out 0).trans rfl, (blk_cell BK103.out 1).trans rfl⟩ (fun hHeld => ?_)
               clear hK K
               refine norm_ (a' := ?_) ?_ ?_
               rotate_left
               ·show Act.put _ (some 337) _ = _
                simp only [Act.put, List.setIfInBounds_toArray, List.set_cons_zero, List.set_cons_succ, i64_w, i32_w]
                rfl
               refine pure_ (i := 9) (N := some 328) (v := ?_) (a' := ?_) #[true, true, true, true, true, true, true, true, true, true, false, false, false, false, false] rfl rfl (any_of HT_.out (by kernel_rfl)) (fun _ _ _ h => h) (Or.inl ⟨by rfl, ?_⟩) ?_ ?_
               rotate_left
               ·intro w'
                go_simp
                with_reducible rfl
               rotate_left
               ·simp only [Act.put, List.setIfInBounds_toArray, List.set_cons_zero, List.set_cons_succ, i64_w, i32_w]
                rfl
               refine pure_ (i := 10) (N := some 338) (v := ?_) (a' := ?_) #[true, true, true, true, true, true, true, true, true, true, true, false, false, false, false] rfl rfl (any_of HT_.out (by kernel_rfl)) (fun _ _ _ h => h) (Or.inl ⟨by rfl, ?_⟩) ?_ ?_
               rotate_left
               ·intro w'
                go_simp
                with_reducible rfl
               rotate_left
               ·simp only [Act.put, List.setIfInBounds_toArray, List.set_cons_zero, List.set_cons_succ, i64_w, i32_w]
                rfl
               refine pure_ (i := 11) (N := some 339) (v := ?_) (a' := ?_) #[true, true, true, true, true, true, true, true, true, true, true, true, false, false, false] rfl rfl (any_of HT_.out (by kernel_rfl)) (fun _ _ _ h => h) (Or.inl ⟨by rfl, ?_⟩) ?_ ?_
               rotate_left
               ·intro w'
                go_simp
                with_reducible rfl
               rotate_left
               ·simp only [Act.put, List.setIfInBounds_toArray, List.set_cons_zero, List.set_cons_succ, i64_w, i32_w]
                rfl
               refine one_ (i := 12) (N := some 62) #[true, true, true, true, true, true, true, true, true, true, true, true, true, false, false] rfl rfl (one_of HT_.out (by kernel_rfl)) (by decide) (fun K hK => ?_)
               refine box_step ?hg (N := 62) ?hd (cs := #[.string (⟨#[]⟩ : ByteArray), .int .i64 0]) (t := 28) ?hr ?_; (case hd => rfl); (case hg => rfl); (case hr => first | (go_simp; done) | (go_simp; rfl))
               intro gb169 hg w581 hbox hb
               have n0_ := Aside0.mk (blk_below (by apply_rules only [BK101.out, blk_drewN, blk_drew, blk_alloc]) hb)
               have n1_ := Aside0.mk (blk_below (by apply_rules only [BK102.out, blk_drewN, blk_drew, blk_alloc]) hb)
               have n2_ := Aside0.mk (blk_below (by apply_rules only [BK103.out, blk_drewN, blk_drew, blk_alloc]) hb)
               have n3_ := Aside0.mk (blk_below (by apply_rules only [BK107.out, blk_drewN, blk_drew, blk_alloc]) hb)
               have n4_ := Aside0.mk (blk_below (by apply_rules only [BK111.out, blk_drewN, blk_drew, blk_alloc]) hb)
               have n5_ := Aside0.mk (blk_below (by apply_rules only [BK118.out, blk_drewN, blk_drew, blk_alloc]) hb)
               have n6_ := Aside0.mk (blk_below (by apply_rules only [BK122.out, blk_drewN, blk_drew, blk_alloc]) hb)
               have n7_ := Aside0.mk (blk_below (by apply_rules only [BK141.out, blk_drewN, blk_drew, blk_alloc]) hb)
               have n8_ := Aside0.mk (blk_below (by apply_rules only [BK145.out, blk_drewN, blk_drew, blk_alloc]) hb)
               have n9_ := Aside0.mk (blk_below (by apply_rules only [BK149.out, blk_drewN, blk_drew, blk_alloc]) hb)
               have n10_ := Aside0.mk (blk_below (by apply_rules only [BK153.out, blk_drewN, blk_drew, blk_alloc]) hb)
               have n11_ := Aside0.mk (below_step (by apply_rules only [HB.out, below_alloc, pw_below_drewN, below_drew1, below_set, GE101.out, GE102.out, GE103.out, GE107.out, GE111.out, GE118.out, GE122.out, GE141.out, GE145.out, GE149.out, GE153.out]) hb)
               have n12_ := Aside0.mk (hbox)
               have n13_ := Aside0.mk ((by rw [hg]; exact (below_size (by apply_rules only [HB.out, below_alloc, pw_below_drewN, below_drew1, below_set, GE101.out, GE102.out, GE103.out, GE107.out, GE111.out, GE118.out, GE122.out, GE141.out, GE145.out, GE149.out, GE153.out])) : w.heap.size ≤ gb169))
               have n14_ := Aside0.mk ((by rw [hg]; exact (below_size (by apply_rules only [HB.out, below_alloc, pw_below_drewN, below_drew1, below_set, GE101.out, GE102.out, GE103.out, GE107.out, GE111.out, GE118.out, GE122.out, GE141.out, GE145.out, GE149.out, GE153.out])) : w.heap.size ≤ gb169))
               have n15_ := Aside0.mk ((by rw [hg]; exact Nat.ne_of_lt (blk_lt (g := gb101) (o := .cells #[.string a3_0, .int .i64 a3_1] 28 (0, 0)) (by apply_rules only [BK101.out, blk_drewN, blk_drew, blk_alloc])) : gb101 ≠ gb169))
               have n16_ := Aside0.mk ((by rw [hg]; exact Nat.ne_of_gt (blk_lt (g := gb101) (o := .cells #[.string a3_0, .int .i64 a3_1] 28 (0, 0)) (by apply_rules only [BK101.out, blk_drewN, blk_drew, blk_alloc])) : gb169 ≠ gb101))
               have n17_ := Aside0.mk ((by rw [hg]; exact Nat.ne_of_lt (blk_lt (g := gb102) (o := .cells #[.string a4_0, .int .i64 a4_1] 28 (0, 0)) (by apply_rules only [BK102.out, blk_drewN, blk_drew, blk_alloc])) : gb102 ≠ gb169))
               have n18_ := Aside0.mk ((by rw [hg]; exact Nat.ne_of_gt (blk_lt (g := gb102) (o := .cells #[.string a4_0, .int .i64 a4_1] 28 (0, 0)) (by apply_rules only [BK102.out, blk_drewN, blk_drew, blk_alloc])) : gb169 ≠ gb102))
               have n19_ := Aside0.mk ((by rw [hg]; exact Nat.ne_of_lt (blk_lt (g := gb103) (o := .cells #[.string a7_0, .int .i64 a7_1] 28 (0, 0)) (by apply_rules only [BK103.out, blk_drewN, blk_drew, blk_alloc])) : gb103 ≠ gb169))
               have n20_ := Aside0.mk ((by rw [hg]; exact Nat.ne_of_gt (blk_lt (g := gb103) (o := .cells #[.string a7_0, .int .i64 a7_1] 28 (0, 0)) (by apply_rules only [BK103.out, blk_drewN, blk_drew, blk_alloc])) : gb169 ≠ gb103))
               have n21_ := Aside0.mk ((by rw [hg]; exact Nat.ne_of_lt (blk_lt (g := gb107) (o := .cells #[.string t104, .int .i64 t105] 28 (0, 0)) (by apply_rules only [BK107.out, blk_drewN, blk_drew, blk_alloc])) : gb107 ≠ gb169))
               have n22_ := Aside0.mk ((by rw [hg]; exact Nat.ne_of_gt (blk_lt (g := gb107) (o := .cells #[.string t104, .int .i64 t105] 28 (0, 0)) (by apply_rules only [BK107.out, blk_drewN, blk_drew, blk_alloc])) : gb169 ≠ gb107))
               have n23_ := Aside0.mk ((by rw [hg]; exact Nat.ne_of_lt (blk_lt (g := gb111) (o := .cells #[.string t108, .int .i64 t109] 28 (0, 0)) (by apply_rules only [BK111.out, blk_drewN, blk_drew, blk_alloc])) : gb111 ≠ gb169))
               have n24_ := Aside0.mk ((by rw [hg]; exact Nat.ne_of_gt (blk_lt (g := gb111) (o := .cells #[.string t108, .int .i64 t109] 28 (0, 0)) (by apply_rules only [BK111.out, blk_drewN, blk_drew, blk_alloc])) : gb169 ≠ gb111))
               have n25_ := Aside0.mk ((by rw [hg]; exact Nat.ne_of_lt (blk_lt (g := gb118) (o := .cells #[.string t115, .int .i64 t116] 28 (0, 0)) (by apply_rules only [BK118.out, blk_drewN, blk_drew, blk_alloc])) : gb118 ≠ gb169))
               have n26_ := Aside0.mk ((by rw [hg]; exact Nat.ne_of_gt (blk_lt (g := gb118) (o := .cells #[.string t115, .int .i64 t116] 28 (0, 0)) (by apply_rules only [BK118.out, blk_drewN, blk_drew, blk_alloc])) : gb169 ≠ gb118))
               have n27_ := Aside0.mk ((by rw [hg]; exact Nat.ne_of_lt (blk_lt (g := gb122) (o := .cells #[.string t119, .int .i64 t120] 28 (0, 0)) (by apply_rules only [BK122.out, blk_drewN, blk_drew, blk_alloc])) : gb122 ≠ gb169))
               have n28_ := Aside0.mk ((by rw [hg]; exact Nat.ne_of_gt (blk_lt (g := gb122) (o := .cells #[.string t119, .int .i64 t120] 28 (0, 0)) (by apply_rules only [BK122.out, blk_drewN, blk_drew, blk_alloc])) : gb169 ≠ gb122))
               have n29_ := Aside0.mk ((by rw [hg]; exact Nat.ne_of_lt (blk_lt (g := gb141) (o := .cells #[.string t138, .int .i64 t139] 28 (0, 0)) (by apply_rules only [BK141.out, blk_drewN, blk_drew, blk_alloc])) : gb141 ≠ gb169))
               have n30_ := Aside0.mk ((by rw [hg]; exact Nat.ne_of_gt (blk_lt (g := gb141) (o := .cells #[.string t138, .int .i64 t139] 28 (0, 0)) (by apply_rules only [BK141.out, blk_drewN, blk_drew, blk_alloc])) : gb169 ≠ gb141))
               have n31_ := Aside0.mk ((by rw [hg]; exact Nat.ne_of_lt (blk_lt (g := gb145) (o := .cells #[.string t142, .int .i64 t143] 28 (0, 0)) (by apply_rules only [BK145.out, blk_drewN, blk_drew, blk_alloc])) : gb145 ≠ gb169))
               have n32_ := Aside0.mk ((by rw [hg]; exact Nat.ne_of_gt (blk_lt (g := gb145) (o := .cells #[.string t142, .int .i64 t143] 28 (0, 0)) (by apply_rules only [BK145.out, blk_drewN, blk_drew, blk_alloc])) : gb169 ≠ gb145))
               have n33_ := Aside0.mk ((by rw [hg]; exact Nat.ne_of_lt (blk_lt (g := gb149) (o := .cells #[.string t146, .int .i64 t147] 28 (0, 0)) (by apply_rules only [BK149.out, blk_drewN, blk_drew, blk_alloc])) : gb149 ≠ gb169))
               have n34_ := Aside0.mk ((by rw [hg]; exact Nat.ne_of_gt (blk_lt (g := gb149) (o := .cells #[.string t146, .int .i64 t147] 28 (0, 0)) (by apply_rules only [BK149.out, blk_drewN, blk_drew, blk_alloc])) : gb169 ≠ gb149))
               have n35_ := Aside0.mk ((by rw [hg]; exact Nat.ne_of_lt (blk_lt (g := gb153) (o := .cells #[.string t150, .int .i64 t151] 28 (0, 0)) (by apply_rules only [BK153.out, blk_drewN, blk_drew, blk_alloc])) : gb153 ≠ gb169))
               have n36_ := Aside0.mk ((by rw [hg]; exact Nat.ne_of_gt (blk_lt (g := gb153) (o := .cells #[.string t150, .int .i64 t151] 28 (0, 0)) (by apply_rules only [BK153.out, blk_drewN, blk_drew, blk_alloc])) : gb169 ≠ gb153))
               clear BK101
               clear BK102
               clear BK103
               clear BK107
               clear BK111
               clear BK118
               clear BK122
               clear BK141
               clear BK145
               clear BK149
               clear BK153
               clear HB
               have BK101 := n0_
               have BK102 := n1_
               have BK103 := n2_
               have BK107 := n3_
               have BK111 := n4_
               have BK118 := n5_
               have BK122 := n6_
               have BK141 := n7_
               have BK145 := n8_
               have BK149 := n9_
               have BK153 := n10_
               have HB := n11_
               have BK169 := n12_
               have GW169 := n13_
               have GE169 := n14_
               have NB101_169 := n15_
               have NB169_101 := n16_
               have NB102_169 := n17_
               have NB169_102 := n18_
               have NB103_169 := n19_
               have NB169_103 := n20_
               have NB107_169 := n21_
               have NB169_107 := n22_
               have NB111_169 := n23_
               have NB169_111 := n24_
               have NB118_169 := n25_
               have NB169_118 := n26_
               have NB122_169 := n27_
               have NB169_122 := n28_
               have NB141_169 := n29_
               have NB169_141 := n30_
               have NB145_169 := n31_
               have NB169_145 := n32_
               have NB149_169 := n33_
               have NB169_149 := n34_
               have NB153_169 := n35_
               have NB169_153 := n36_
               clear n0_ n1_ n2_ n3_ n4_ n5_ n6_ n7_ n8_ n9_ n10_ n11_ n12_ n13_ n14_ n15_ n16_ n17_ n18_ n19_ n20_ n21_ n22_ n23_ n24_ n25_ n26_ n27_ n28_ n29_ n30_ n31_ n32_ n33_ n34_ n35_ n36_
               clear hb hbox hg
               refine hK.out _ _ ⟨(blk_cell BK149.out 0).trans rfl, (blk_cell BK149.out 1).trans rfl, (blk_cell BK103.out 0).trans rfl, (blk_cell BK103.out 1).trans rfl⟩ (fun hHeld => ?_)
               clear hK K
               refine norm_ (a' := ?_) ?_ ?_
               rotate_left
               ·show Act.put _ (some 62) _ = _
                simp only [Act.put, List.setIfInBounds_toArray, List.set_cons_zero, List.set_cons_succ, i64_w, i32_w]
                rfl
               exact norm_ (by simp only [putAll, Act.put, List.setIfInBounds_toArray, List.set_cons_zero, List.set_cons_succ]) (hCont (gb169) _ ⟨hHeld, (by apply_rules only [BK101.out, blk_drewN, blk_drew, blk_alloc]), (by apply_rules only [BK102.out, blk_drewN, blk_drew, blk_alloc]), (by apply_rules only [BK103.out, blk_drewN, blk_drew, blk_alloc]), (by apply_rules only [BK107.out, blk_drewN, blk_drew, blk_alloc]), (by apply_rules only [BK111.out, blk_drewN, blk_drew, blk_alloc]), (by apply_rules only [BK118.out, blk_drewN, blk_drew, blk_alloc]), (by apply_rules only [BK122.out, blk_drewN, blk_drew, blk_alloc]), (by apply_rules only [BK141.out, blk_drewN, blk_drew, blk_alloc]), (by apply_rules only [BK145.out, blk_drewN, blk_drew, blk_alloc]), (by apply_rules only [BK149.out, blk_drewN, blk_drew, blk_alloc]), (by apply_rules only [BK153.out, blk_drewN, blk_drew, blk_alloc]), (by apply_rules only [BK169.out, blk_drewN, blk_drew, blk_alloc]), GW169.out, GE169.out, NB101_169.out, NB169_101.out, NB102_169.out, NB169_102.out, NB103_169.out, NB169_103.out, NB107_169.out, NB169_107.out, NB111_169.out, NB169_111.out, NB118_169.out, NB169_118.out, NB122_169.out, NB169_122.out, NB141_169.out, NB169_141.out, NB145_169.out, NB169_145.out, NB149_169.out, NB169_149.out, NB153_169.out, NB169_153.out, (by apply_rules only [HB.out, below_alloc, pw_below_drewN, below_drew1, below_set, GE101.out, GE102.out, GE103.out, GE107.out, GE111.out, GE118.out, GE122.out, GE141.out, GE145.out, GE149.out, GE153.out, GE169.out])⟩)
              ·skip
               refine box_step ?hg (N := 62) ?hd (cs := #[.string (⟨#[]⟩ : ByteArray), .int .i64 0]) (t := 28) ?hr ?_; (case hd => rfl); (case hg => rfl); (case hr => first | (go_simp; done) | (go_simp; rfl))
               intro gb169 hg w580 hbox hb
               have n0_ := Aside0.mk (blk_below (by apply_rules only [BK101.out, blk_drewN, blk_drew, blk_alloc]) hb)
               have n1_ := Aside0.mk (blk_below (by apply_rules only [BK102.out, blk_drewN, blk_drew, blk_alloc]) hb)
               have n2_ := Aside0.mk (blk_below (by apply_rules only [BK103.out, blk_drewN, blk_drew, blk_alloc]) hb)
               have n3_ := Aside0.mk (blk_below (by apply_rules only [BK107.out, blk_drewN, blk_drew, blk_alloc]) hb)
               have n4_ := Aside0.mk (blk_below (by apply_rules only [BK111.out, blk_drewN, blk_drew, blk_alloc]) hb)
               have n5_ := Aside0.mk (blk_below (by apply_rules only [BK118.out, blk_drewN, blk_drew, blk_alloc]) hb)
               have n6_ := Aside0.mk (blk_below (by apply_rules only [BK122.out, blk_drewN, blk_drew, blk_alloc]) hb)
               have n7_ := Aside0.mk (blk_below (by apply_rules only [BK141.out, blk_drewN, blk_drew, blk_alloc]) hb)
               have n8_ := Aside0.mk (blk_below (by apply_rules only [BK145.out, blk_drewN, blk_drew, blk_alloc]) hb)
               have n9_ := Aside0.mk (blk_below (by apply_rules only [BK149.out, blk_drewN, blk_drew, blk_alloc]) hb)
               have n10_ := Aside0.mk (blk_below (by apply_rules only [BK153.out, blk_drewN, blk_drew, blk_alloc]) hb)
               have n11_ := Aside0.mk (below_step (by apply_rules only [HB.out, below_alloc, pw_below_drewN, below_drew1, below_set, GE101.out, GE102.out, GE103.out, GE107.out, GE111.out, GE118.out, GE122.out, GE141.out, GE145.out, GE149.out, GE153.out]) hb)
               have n12_ := Aside0.mk (hbox)
               have n13_ := Aside0.mk ((by rw [hg]; exact (below_size (by apply_rules only [HB.out, below_alloc, pw_below_drewN, below_drew1, below_set, GE101.out, GE102.out, GE103.out, GE107.out, GE111.out, GE118.out, GE122.out, GE141.out, GE145.out, GE149.out, GE153.out])) : w.heap.size ≤ gb169))
               have n14_ := Aside0.mk ((by rw [hg]; exact (below_size (by apply_rules only [HB.out, below_alloc, pw_below_drewN, below_drew1, below_set, GE101.out, GE102.out, GE103.out, GE107.out, GE111.out, GE118.out, GE122.out, GE141.out, GE145.out, GE149.out, GE153.out])) : w.heap.size ≤ gb169))
               have n15_ := Aside0.mk ((by rw [hg]; exact Nat.ne_of_lt (blk_lt (g := gb101) (o := .cells #[.string a3_0, .int .i64 a3_1] 28 (0, 0)) (by apply_rules only [BK101.out, blk_drewN, blk_drew, blk_alloc])) : gb101 ≠ gb169))
               have n16_ := Aside0.mk ((by rw [hg]; exact Nat.ne_of_gt (blk_lt (g := gb101) (o := .cells #[.string a3_0, .int .i64 a3_1] 28 (0, 0)) (by apply_rules only [BK101.out, blk_drewN, blk_drew, blk_alloc])) : gb169 ≠ gb101))
               have n17_ := Aside0.mk ((by rw [hg]; exact Nat.ne_of_lt (blk_lt (g := gb102) (o := .cells #[.string a4_0, .int .i64 a4_1] 28 (0, 0)) (by apply_rules only [BK102.out, blk_drewN, blk_drew, blk_alloc])) : gb102 ≠ gb169))
               have n18_ := Aside0.mk ((by rw [hg]; exact Nat.ne_of_gt (blk_lt (g := gb102) (o := .cells #[.string a4_0, .int .i64 a4_1] 28 (0, 0)) (by apply_rules only [BK102.out, blk_drewN, blk_drew, blk_alloc])) : gb169 ≠ gb102))
               have n19_ := Aside0.mk ((by rw [hg]; exact Nat.ne_of_lt (blk_lt (g := gb103) (o := .cells #[.string a7_0, .int .i64 a7_1] 28 (0, 0)) (by apply_rules only [BK103.out, blk_drewN, blk_drew, blk_alloc])) : gb103 ≠ gb169))
               have n20_ := Aside0.mk ((by rw [hg]; exact Nat.ne_of_gt (blk_lt (g := gb103) (o := .cells #[.string a7_0, .int .i64 a7_1] 28 (0, 0)) (by apply_rules only [BK103.out, blk_drewN, blk_drew, blk_alloc])) : gb169 ≠ gb103))
               have n21_ := Aside0.mk ((by rw [hg]; exact Nat.ne_of_lt (blk_lt (g := gb107) (o := .cells #[.string t104, .int .i64 t105] 28 (0, 0)) (by apply_rules only [BK107.out, blk_drewN, blk_drew, blk_alloc])) : gb107 ≠ gb169))
               have n22_ := Aside0.mk ((by rw [hg]; exact Nat.ne_of_gt (blk_lt (g := gb107) (o := .cells #[.string t104, .int .i64 t105] 28 (0, 0)) (by apply_rules only [BK107.out, blk_drewN, blk_drew, blk_alloc])) : gb169 ≠ gb107))
               have n23_ := Aside0.mk ((by rw [hg]; exact Nat.ne_of_lt (blk_lt (g := gb111) (o := .cells #[.string t108, .int .i64 t109] 28 (0, 0)) (by apply_rules only [BK111.out, blk_drewN, blk_drew, blk_alloc])) : gb111 ≠ gb169))
               have n24_ := Aside0.mk ((by rw [hg]; exact Nat.ne_of_gt (blk_lt (g := gb111) (o := .cells #[.string t108, .int .i64 t109] 28 (0, 0)) (by apply_rules only [BK111.out, blk_drewN, blk_drew, blk_alloc])) : gb169 ≠ gb111))
               have n25_ := Aside0.mk ((by rw [hg]; exact Nat.ne_of_lt (blk_lt (g := gb118) (o := .cells #[.string t115, .int .i64 t116] 28 (0, 0)) (by apply_rules only [BK118.out, blk_drewN, blk_drew, blk_alloc])) : gb118 ≠ gb169))
               have n26_ := Aside0.mk ((by rw [hg]; exact Nat.ne_of_gt (blk_lt (g := gb118) (o := .cells #[.string t115, .int .i64 t116] 28 (0, 0)) (by apply_rules only [BK118.out, blk_drewN, blk_drew, blk_alloc])) : gb169 ≠ gb118))
               have n27_ := Aside0.mk ((by rw [hg]; exact Nat.ne_of_lt (blk_lt (g := gb122) (o := .cells #[.string t119, .int .i64 t120] 28 (0, 0)) (by apply_rules only [BK122.out, blk_drewN, blk_drew, blk_alloc])) : gb122 ≠ gb169))
               have n28_ := Aside0.mk ((by rw [hg]; exact Nat.ne_of_gt (blk_lt (g := gb122) (o := .cells #[.string t119, .int .i64 t120] 28 (0, 0)) (by apply_rules only [BK122.out, blk_drewN, blk_drew, blk_alloc])) : gb169 ≠ gb122))
               have n29_ := Aside0.mk ((by rw [hg]; exact Nat.ne_of_lt (blk_lt (g := gb141) (o := .cells #[.string t138, .int .i64 t139] 28 (0, 0)) (by apply_rules only [BK141.out, blk_drewN, blk_drew, blk_alloc])) : gb141 ≠ gb169))
               have n30_ := Aside0.mk ((by rw [hg]; exact Nat.ne_of_gt (blk_lt (g := gb141) (o := .cells #[.string t138, .int .i64 t139] 28 (0, 0)) (by apply_rules only [BK141.out, blk_drewN, blk_drew, blk_alloc])) : gb169 ≠ gb141))
               have n31_ := Aside0.mk ((by rw [hg]; exact Nat.ne_of_lt (blk_lt (g := gb145) (o := .cells #[.string t142, .int .i64 t143] 28 (0, 0)) (by apply_rules only [BK145.out, blk_drewN, blk_drew, blk_alloc])) : gb145 ≠ gb169))
               have n32_ := Aside0.mk ((by rw [hg]; exact Nat.ne_of_gt (blk_lt (g := gb145) (o := .cells #[.string t142, .int .i64 t143] 28 (0, 0)) (by apply_rules only [BK145.out, blk_drewN, blk_drew, blk_alloc])) : gb169 ≠ gb145))
               have n33_ := Aside0.mk ((by rw [hg]; exact Nat.ne_of_lt (blk_lt (g := gb149) (o := .cells #[.string t146, .int .i64 t147] 28 (0, 0)) (by apply_rules only [BK149.out, blk_drewN, blk_drew, blk_alloc])) : gb149 ≠ gb169))
               have n34_ := Aside0.mk ((by rw [hg]; exact Nat.ne_of_gt (blk_lt (g := gb149) (o := .cells #[.string t146, .int .i64 t147] 28 (0, 0)) (by apply_rules only [BK149.out, blk_drewN, blk_drew, blk_alloc])) : gb169 ≠ gb149))
               have n35_ := Aside0.mk ((by rw [hg]; exact Nat.ne_of_lt (blk_lt (g := gb153) (o := .cells #[.string t150, .int .i64 t151] 28 (0, 0)) (by apply_rules only [BK153.out, blk_drewN, blk_drew, blk_alloc])) : gb153 ≠ gb169))
               have n36_ := Aside0.mk ((by rw [hg]; exact Nat.ne_of_gt (blk_lt (g := gb153) (o := .cells #[.string t150, .int .i64 t151] 28 (0, 0)) (by apply_rules only [BK153.out, blk_drewN, blk_drew, blk_alloc])) : gb169 ≠ gb153))
               clear BK101
               clear BK102
               clear BK103
               clear BK107
               clear BK111
               clear BK118
               clear BK122
               clear BK141
               clear BK145
               clear BK149
               clear BK153
               clear HB
               have BK101 := n0_
               have BK102 := n1_
               have BK103 := n2_
               have BK107 := n3_
               have BK111 := n4_
               have BK118 := n5_
               have BK122 := n6_
               have BK141 := n7_
               have BK145 := n8_
               have BK149 := n9_
               have BK153 := n10_
               have HB := n11_
               have BK169 := n12_
               have GW169 := n13_
               have GE169 := n14_
               have NB101_169 := n15_
               have NB169_101 := n16_
               have NB102_169 := n17_
               have NB169_102 := n18_
               have NB103_169 := n19_
               have NB169_103 := n20_
               have NB107_169 := n21_
               have NB169_107 := n22_
               have NB111_169 := n23_
               have NB169_111 := n24_
               have NB118_169 := n25_
               have NB169_118 := n26_
               have NB122_169 := n27_
               have NB169_122 := n28_
               have NB141_169 := n29_
               have NB169_141 := n30_
               have NB145_169 := n31_
               have NB169_145 := n32_
               have NB149_169 := n33_
               have NB169_149 := n34_
               have NB153_169 := n35_
               have NB169_153 := n36_
               clear n0_ n1_ n2_ n3_ n4_ n5_ n6_ n7_ n8_ n9_ n10_ n11_ n12_ n13_ n14_ n15_ n16_ n17_ n18_ n19_ n20_ n21_ n22_ n23_ n24_ n25_ n26_ n27_ n28_ n29_ n30_ n31_ n32_ n33_ n34_ n35_ n36_
               clear hb hbox hg
               refine hK.out _ _ ⟨(blk_cell BK149.out 0).trans rfl, (blk_cell BK149.out 1).trans rfl, (blk_cell BK103.out 0).trans rfl, (blk_cell BK103.out 1).trans rfl⟩ (fun hHeld => ?_)
               clear hK K
               refine norm_ (a' := ?_) ?_ ?_
               rotate_left
               ·show Act.put _ (some 62) _ = _
                simp only [Act.put, List.setIfInBounds_toArray, List.set_cons_zero, List.set_cons_succ, i64_w, i32_w]
                rfl
               refine one_ (i := 8) (N := some 337) #[true, true, true, true, true, true, true, true, true, false, false, false, true, false, false] rfl rfl (one_of HT_.out (by kernel_rfl)) (by decide) (fun K hK => ?_)
               refine goes_ Tryd.func31 (by kernel_rfl) rfl #[.agg #[.string t146, .int .i64 t147], .int .i64 a8, .bool ((bt a7_0 (ji572)) == 111)] (by rfl) rfl rfl (by (try simp only [List.map_toArray, List.map_cons, List.map_nil]); first | done | (simp only [hji572]; rfl) | rfl | (simp only [List.length_drop, List.length_take]; rfl)) ?_
               with_reducible refine (impl_ShowNumber.calls kj530 t146 t147 a8 ((bt a7_0 (ji572)) == 111) t166 t167 true _ A576.out).mono ?_
               rintro e w581 ⟨rfl, hb⟩
               refine ⟨_, rfl, ?_⟩
               have n0_ := Aside0.mk (blk_below (by apply_rules only [BK101.out, blk_drewN, blk_drew, blk_alloc]) hb)
               have n1_ := Aside0.mk (blk_below (by apply_rules only [BK102.out, blk_drewN, blk_drew, blk_alloc]) hb)
               have n2_ := Aside0.mk (blk_below (by apply_rules only [BK103.out, blk_drewN, blk_drew, blk_alloc]) hb)
               have n3_ := Aside0.mk (blk_below (by apply_rules only [BK107.out, blk_drewN, blk_drew, blk_alloc]) hb)
               have n4_ := Aside0.mk (blk_below (by apply_rules only [BK111.out, blk_drewN, blk_drew, blk_alloc]) hb)
               have n5_ := Aside0.mk (blk_below (by apply_rules only [BK118.out, blk_drewN, blk_drew, blk_alloc]) hb)
               have n6_ := Aside0.mk (blk_below (by apply_rules only [BK122.out, blk_drewN, blk_drew, blk_alloc]) hb)
               have n7_ := Aside0.mk (blk_below (by apply_rules only [BK141.out, blk_drewN, blk_drew, blk_alloc]) hb)
               have n8_ := Aside0.mk (blk_below (by apply_rules only [BK145.out, blk_drewN, blk_drew, blk_alloc]) hb)
               have n9_ := Aside0.mk (blk_below (by apply_rules only [BK149.out, blk_drewN, blk_drew, blk_alloc]) hb)
               have n10_ := Aside0.mk (blk_below (by apply_rules only [BK153.out, blk_drewN, blk_drew, blk_alloc]) hb)
               have n11_ := Aside0.mk (blk_below (g := gb169) (o := .cells #[.string (⟨#[]⟩ : ByteArray), .int .i64 0] 28 (0, 0)) (by apply_rules only [BK169.out, blk_drewN, blk_drew, blk_alloc]) hb)
               have n12_ := Aside0.mk (below_step (by apply_rules only [HB.out, below_alloc, pw_below_drewN, below_drew1, below_set, GE101.out, GE102.out, GE103.out, GE107.out, GE111.out, GE118.out, GE122.out, GE141.out, GE145.out, GE149.out, GE153.out, GE169.out]) hb)
               clear BK101
               clear BK102
               clear BK103
               clear BK107
               clear BK111
               clear BK118
               clear BK122
               clear BK141
               clear BK145
               clear BK149
               clear BK153
               clear BK169
               clear HB
               have BK101 := n0_
               have BK102 := n1_
               have BK103 := n2_
               have BK107 := n3_
               have BK111 := n4_
               have BK118 := n5_
               have BK122 := n6_
               have BK141 := n7_
               have BK145 := n8_
               have BK149 := n9_
               have BK153 := n10_
               have BK169 := n11_
               have HB := n12_
               clear n0_ n1_ n2_ n3_ n4_ n5_ n6_ n7_ n8_ n9_ n10_ n11_ n12_
               (try clear hb)
               (try clear hb2)
               (try clear hk)
               (try clear hi)
               refine hK.out _ _ ⟨(blk_cell BK149.out 0).trans rfl, (blk_cell BK149.out 1).trans rfl, (blk_cell BK103.out 0).trans rfl, (blk_cell BK103.out 1).trans rfl⟩ (fun hHeld => ?_)
               clear hK K
               refine norm_ (a' := ?_) ?_ ?_
               rotate_left
               ·show Act.put _ (some 337) _ = _
                simp only [Act.put, List.setIfInBounds_toArray, List.set_cons_zero, List.set_cons_succ, i64_w, i32_w]
                rfl
               refine pure_ (i := 9) (N := some 328) (v := ?_) (a' := ?_) #[true, true, true, true, true, true, true, true, true, true, false, false, true, false, false] rfl rfl (any_of HT_.out (by kernel_rfl)) (fun _ _ _ h => h) (Or.inl ⟨by rfl, ?_⟩) ?_ ?_
               rotate_left
               ·intro w'
                go_simp
                with_reducible rfl
               rotate_left
               ·simp only [Act.put, List.setIfInBounds_toArray, List.set_cons_zero, List.set_cons_succ, i64_w, i32_w]
                rfl
               refine pure_ (i := 10) (N := some 338) (v := ?_) (a' := ?_) #[true, true, true, true, true, true, true, true, true, true, true, false, true, false, false] rfl rfl (any_of HT_.out (by kernel_rfl)) (fun _ _ _ h => h) (Or.inl ⟨by rfl, ?_⟩) ?_ ?_
               rotate_left
               ·intro w'
                go_simp
                with_reducible rfl
               rotate_left
               ·simp only [Act.put, List.setIfInBounds_toArray, List.set_cons_zero, List.set_cons_succ, i64_w, i32_w]
                rfl
               refine pure_ (i := 11) (N := some 339) (v := ?_) (a' := ?_) #[true, true, true, true, true, true, true, true, true, true, true, true, true, false, false] rfl rfl (any_of HT_.out (by kernel_rfl)) (fun _ _ _ h => h) (Or.inl ⟨by rfl, ?_⟩) ?_ ?_
               rotate_left
               ·intro w'
                go_simp
                with_reducible rfl
               rotate_left
               ·simp only [Act.put, List.setIfInBounds_toArray, List.set_cons_zero, List.set_cons_succ, i64_w, i32_w]
                rfl
               exact norm_ (by simp only [putAll, Act.put, List.setIfInBounds_toArray, List.set_cons_zero, List.set_cons_succ]) (hCont (gb169) _ ⟨hHeld, (by apply_rules only [BK101.out, blk_drewN, blk_drew, blk_alloc]), (by apply_rules only [BK102.out, blk_drewN, blk_drew, blk_alloc]), (by apply_rules only [BK103.out, blk_drewN, blk_drew, blk_alloc]), (by apply_rules only [BK107.out, blk_drewN, blk_drew, blk_alloc]), (by apply_rules only [BK111.out, blk_drewN, blk_drew, blk_alloc]), (by apply_rules only [BK118.out, blk_drewN, blk_drew, blk_alloc]), (by apply_rules only [BK122.out, blk_drewN, blk_drew, blk_alloc]), (by apply_rules only [BK141.out, blk_drewN, blk_drew, blk_alloc]), (by apply_rules only [BK145.out, blk_drewN, blk_drew, blk_alloc]), (by apply_rules only [BK149.out, blk_drewN, blk_drew, blk_alloc]), (by apply_rules only [BK153.out, blk_drewN, blk_drew, blk_alloc]), (by apply_rules only [BK169.out, blk_drewN, blk_drew, blk_alloc]), GW169.out, GE169.out, NB101_169.out, NB169_101.out, NB102_169.out, NB169_102.out, NB103_169.out, NB169_103.out, NB107_169.out, NB169_107.out, NB111_169.out, NB169_111.out, NB118_169.out, NB169_118.out, NB122_169.out, NB169_122.out, NB141_169.out, NB169_141.out, NB145_169.out, NB169_145.out, NB149_169.out, NB169_149.out, NB153_169.out, NB169_153.out, (by apply_rules only [HB.out, below_alloc, pw_below_drewN, below_drew1, below_set, GE101.out, GE102.out, GE103.out, GE107.out, GE111.out, GE118.out, GE122.out, GE141.out, GE145.out, GE149.out, GE153.out, GE169.out])⟩)
             rintro gb169 w582 ⟨hS_, h0_, h1_, h2_, h3_, h4_, h5_, h6_, h7_, h8_, h9_, h10_, h11_, h12_, h13_, h14_, h15_, h16_, h17_, h18_, h19_, h20_, h21_, h22_, h23_, h24_, h25_, h26_, h27_, h28_, h29_, h30_, h31_, h32_, h33_, h34_, h35_, h36_⟩
             have n0_ : Aside0 (w582.heap[gb101]? = some (.cells #[.string a3_0, .int .i64 a3_1] 28 (0, 0))) := ⟨h0_⟩
             have n1_ : Aside0 (w582.heap[gb102]? = some (.cells #[.string a4_0, .int .i64 a4_1] 28 (0, 0))) := ⟨h1_⟩
             have n2_ : Aside0 (w582.heap[gb103]? = some (.cells #[.string a7_0, .int .i64 a7_1] 28 (0, 0))) := ⟨h2_⟩
             have n3_ : Aside0 (w582.heap[gb107]? = some (.cells #[.string t104, .int .i64 t105] 28 (0, 0))) := ⟨h3_⟩
             have n4_ : Aside0 (w582.heap[gb111]? = some (.cells #[.string t108, .int .i64 t109] 28 (0, 0))) := ⟨h4_⟩
             have n5_ : Aside0 (w582.heap[gb118]? = some (.cells #[.string t115, .int .i64 t116] 28 (0, 0))) := ⟨h5_⟩
             have n6_ : Aside0 (w582.heap[gb122]? = some (.cells #[.string t119, .int .i64 t120] 28 (0, 0))) := ⟨h6_⟩
             have n7_ : Aside0 (w582.heap[gb141]? = some (.cells #[.string t138, .int .i64 t139] 28 (0, 0))) := ⟨h7_⟩
             have n8_ : Aside0 (w582.heap[gb145]? = some (.cells #[.string t142, .int .i64 t143] 28 (0, 0))) := ⟨h8_⟩
             have n9_ : Aside0 (w582.heap[gb149]? = some (.cells #[.string t146, .int .i64 t147] 28 (0, 0))) := ⟨h9_⟩
             have n10_ : Aside0 (w582.heap[gb153]? = some (.cells #[.string t150, .int .i64 t151] 28 (0, 0))) := ⟨h10_⟩
             have n11_ : Aside0 (w582.heap[gb169]? = some (.cells #[.string (⟨#[]⟩ : ByteArray), .int .i64 0] 28 (0, 0))) := ⟨h11_⟩
             have n12_ : Aside0 (w.heap.size ≤ gb169) := ⟨h12_⟩
             have n13_ : Aside0 (w.heap.size ≤ gb169) := ⟨h13_⟩
             have n14_ : Aside0 (gb101 ≠ gb169) := ⟨h14_⟩
             have n15_ : Aside0 (gb169 ≠ gb101) := ⟨h15_⟩
             have n16_ : Aside0 (gb102 ≠ gb169) := ⟨h16_⟩
             have n17_ : Aside0 (gb169 ≠ gb102) := ⟨h17_⟩
             have n18_ : Aside0 (gb103 ≠ gb169) := ⟨h18_⟩
             have n19_ : Aside0 (gb169 ≠ gb103) := ⟨h19_⟩
             have n20_ : Aside0 (gb107 ≠ gb169) := ⟨h20_⟩
             have n21_ : Aside0 (gb169 ≠ gb107) := ⟨h21_⟩
             have n22_ : Aside0 (gb111 ≠ gb169) := ⟨h22_⟩
             have n23_ : Aside0 (gb169 ≠ gb111) := ⟨h23_⟩
             have n24_ : Aside0 (gb118 ≠ gb169) := ⟨h24_⟩
             have n25_ : Aside0 (gb169 ≠ gb118) := ⟨h25_⟩
             have n26_ : Aside0 (gb122 ≠ gb169) := ⟨h26_⟩
             have n27_ : Aside0 (gb169 ≠ gb122) := ⟨h27_⟩
             have n28_ : Aside0 (gb141 ≠ gb169) := ⟨h28_⟩
             have n29_ : Aside0 (gb169 ≠ gb141) := ⟨h29_⟩
             have n30_ : Aside0 (gb145 ≠ gb169) := ⟨h30_⟩
             have n31_ : Aside0 (gb169 ≠ gb145) := ⟨h31_⟩
             have n32_ : Aside0 (gb149 ≠ gb169) := ⟨h32_⟩
             have n33_ : Aside0 (gb169 ≠ gb149) := ⟨h33_⟩
             have n34_ : Aside0 (gb153 ≠ gb169) := ⟨h34_⟩
             have n35_ : Aside0 (gb169 ≠ gb153) := ⟨h35_⟩
             have n36_ : Aside0 (Below w.heap.size w w582) := ⟨h36_⟩
             clear BK101
             clear BK102
             clear BK103
             clear BK107
             clear BK111
             clear BK118
             clear BK122
             clear BK141
             clear BK145
             clear BK149
             clear BK153
             clear HB
             clear h0_ h1_ h2_ h3_ h4_ h5_ h6_ h7_ h8_ h9_ h10_ h11_ h12_ h13_ h14_ h15_ h16_ h17_ h18_ h19_ h20_ h21_ h22_ h23_ h24_ h25_ h26_ h27_ h28_ h29_ h30_ h31_ h32_ h33_ h34_ h35_ h36_
             have BK101 := n0_
             have BK102 := n1_
             have BK103 := n2_
             have BK107 := n3_
             have BK111 := n4_
             have BK118 := n5_
             have BK122 := n6_
             have BK141 := n7_
             have BK145 := n8_
             have BK149 := n9_
             have BK153 := n10_
             have BK169 := n11_
             have GW169 := n12_
             have GE169 := n13_
             have NB101_169 := n14_
             have NB169_101 := n15_
             have NB102_169 := n16_
             have NB169_102 := n17_
             have NB103_169 := n18_
             have NB169_103 := n19_
             have NB107_169 := n20_
             have NB169_107 := n21_
             have NB111_169 := n22_
             have NB169_111 := n23_
             have NB118_169 := n24_
             have NB169_118 := n25_
             have NB122_169 := n26_
             have NB169_122 := n27_
             have NB141_169 := n28_
             have NB169_141 := n29_
             have NB145_169 := n30_
             have NB169_145 := n31_
             have NB149_169 := n32_
             have NB169_149 := n33_
             have NB153_169 := n34_
             have NB169_153 := n35_
             have HB := n36_
             clear n0_ n1_ n2_ n3_ n4_ n5_ n6_ n7_ n8_ n9_ n10_ n11_ n12_ n13_ n14_ n15_ n16_ n17_ n18_ n19_ n20_ n21_ n22_ n23_ n24_ n25_ n26_ n27_ n28_ n29_ n30_ n31_ n32_ n33_ n34_ n35_ n36_
             have hHeld : w582.cell? ⟨gb149, 0, none⟩ = some (.string t146) ∧ w582.cell? ⟨gb149, 1, none⟩ = some (.int .i64 t147) ∧ w582.cell? ⟨gb103, 0, none⟩ = some (.string a7_0) ∧ w582.cell? ⟨gb103, 1, none⟩ = some (.int .i64 a7_1) := hS_
             refine norm_ (a' := ?_) ?_ ?_
             rotate_left
             ·simp only [putAll, Act.put, List.setIfInBounds_toArray, List.set_cons_zero, List.set_cons_succ]
              rfl
             refine one_ (i := 13) (N := none) #[true, true, true, true, true, true, true, true, true, true, true, true, true, true, false] rfl rfl (one_of HT_.out (by kernel_rfl)) (by decide) (fun K hK => ?_)
             have hs583 : w582.cell? ⟨gb169, 0, none⟩ = some (.string (⟨#[]⟩ : ByteArray)) := (blk_cell BK169.out 0).trans rfl
             have hfs583 := blk_frozen BK169.out 0
             have hns583_0 := NB101_169.out
             have hns583_1 := NB102_169.out
             have hns583_2 := NB103_169.out
             have hns583_3 := NB107_169.out
             have hns583_4 := NB111_169.out
             have hns583_5 := NB118_169.out
             have hns583_6 := NB122_169.out
             have hns583_7 := NB141_169.out
             have hns583_8 := NB145_169.out
             have hns583_9 := NB149_169.out
             have hns583_10 := NB153_169.out
             have hms583_0 := NB169_101.out
             have hms583_1 := NB169_102.out
             have hms583_2 := NB169_103.out
             have hms583_3 := NB169_107.out
             have hms583_4 := NB169_111.out
             have hms583_5 := NB169_118.out
             have hms583_6 := NB169_122.out
             have hms583_7 := NB169_141.out
             have hms583_8 := NB169_145.out
             have hms583_9 := NB169_149.out
             have hms583_10 := NB169_153.out
             have hs584 : w582.cell? ⟨gb169, 1, none⟩ = some (.int .i64 0) := (blk_cell BK169.out 1).trans rfl
             have hfs584 := blk_frozen BK169.out 1
             have hns584_0 := NB101_169.out
             have hns584_1 := NB102_169.out
             have hns584_2 := NB103_169.out
             have hns584_3 := NB107_169.out
             have hns584_4 := NB111_169.out
             have hns584_5 := NB118_169.out
             have hns584_6 := NB122_169.out
             have hns584_7 := NB141_169.out
             have hns584_8 := NB145_169.out
             have hns584_9 := NB149_169.out
             have hns584_10 := NB153_169.out
             have hms584_0 := NB169_101.out
             have hms584_1 := NB169_102.out
             have hms584_2 := NB169_103.out
             have hms584_3 := NB169_107.out
             have hms584_4 := NB169_111.out
             have hms584_5 := NB169_118.out
             have hms584_6 := NB169_122.out
             have hms584_7 := NB169_141.out
             have hms584_8 := NB169_145.out
             have hms584_9 := NB169_149.out
             have hms584_10 := NB169_153.out
             refine skip_ (w1 := ?_) (by rfl) rfl ?_ ?_
             rotate_left
             ·go_simp
              rfl
             refine hK.out _ _ ⟨((cell_far (p := ⟨gb169, _, none⟩) NB149_169.out _).trans (((cell_far (p := ⟨gb169, _, none⟩) NB149_169.out _).trans (hHeld.1)))), ((cell_far (p := ⟨gb169, _, none⟩) NB149_169.out _).trans (((cell_far (p := ⟨gb169, _, none⟩) NB149_169.out _).trans (hHeld.2.1)))), ((cell_far (p := ⟨gb169, _, none⟩) NB103_169.out _).trans (((cell_far (p := ⟨gb169, _, none⟩) NB103_169.out _).trans (hHeld.2.2.1)))), ((cell_far (p := ⟨gb169, _, none⟩) NB103_169.out _).trans (((cell_far (p := ⟨gb169, _, none⟩) NB103_169.out _).trans (hHeld.2.2.2))))⟩ (fun hHeld => ?_)
             clear hK K
             refine pure_ (i := 14) (N := some 63) (v := ?_) (a' := ?_) #[true, true, true, true, true, true, true, true, true, true, true, true, true, true, true] rfl rfl (any_of HT_.out (by kernel_rfl)) (fun _ _ _ h => h) (Or.inl ⟨by rfl, ?_⟩) ?_ ?_
             rotate_left
             ·intro w'
              go_simp
              with_reducible rfl
             rotate_left
             ·simp only [Act.put, List.setIfInBounds_toArray, List.set_cons_zero, List.set_cons_succ, i64_w, i32_w]
              rfl
             refine done_ (done_of HT_.out (by kernel_rfl)) ?_
             have hnb585 := NB169_101.out
             have hnc585 := NB101_169.out
             have hnb586 := NB169_102.out
             have hnc586 := NB102_169.out
             have hnb587 := NB169_103.out
             have hnc587 := NB103_169.out
             have hnb588 := NB169_107.out
             have hnc588 := NB107_169.out
             have hnb589 := NB169_111.out
             have hnc589 := NB111_169.out
             have hnb590 := NB169_118.out
             have hnc590 := NB118_169.out
             have hnb591 := NB169_122.out
             have hnc591 := NB122_169.out
             have hnb592 := NB169_141.out
             have hnc592 := NB141_169.out
             have hnb593 := NB169_145.out
             have hnc593 := NB145_169.out
             have hnb594 := NB169_149.out
             have hnc594 := NB149_169.out
             have hnb595 := NB169_153.out
             have hnc595 := NB153_169.out
             have hcz596_0 : w582.cell? ⟨gb169, 0, none⟩ = some (.string (⟨#[]⟩ : ByteArray)) := (blk_cell BK169.out 0).trans rfl
             have hcz596_1 : w582.cell? ⟨gb169, 1, none⟩ = some (.int .i64 0) := (blk_cell BK169.out 1).trans rfl
             have hfz596_0 := blk_frozen BK169.out 0
             have hfz596_1 := blk_frozen BK169.out 1
             have hnb597 := NB103_101.out
             have hnc597 := NB101_103.out
             have hnb598 := NB103_102.out
             have hnc598 := NB102_103.out
             have hnb599 := NB103_107.out
             have hnc599 := NB107_103.out
             have hnb600 := NB103_111.out
             have hnc600 := NB111_103.out
             have hnb601 := NB103_118.out
             have hnc601 := NB118_103.out
             have hnb602 := NB103_122.out
             have hnc602 := NB122_103.out
             have hnb603 := NB103_141.out
             have hnc603 := NB141_103.out
             have hnb604 := NB103_145.out
             have hnc604 := NB145_103.out
             have hnb605 := NB103_149.out
             have hnc605 := NB149_103.out
             have hnb606 := NB103_153.out
             have hnc606 := NB153_103.out
             have hcz607_0 : w582.cell? ⟨gb103, 0, none⟩ = some (.string a7_0) := (blk_cell BK103.out 0).trans rfl
             have hcz607_1 : w582.cell? ⟨gb103, 1, none⟩ = some (.int .i64 a7_1) := (blk_cell BK103.out 1).trans rfl
             have hfz607_0 := blk_frozen BK103.out 0
             have hfz607_1 := blk_frozen BK103.out 1
             try go_wp2
             go_ret
             exact ⟨by first | rfl | (simp [errW_none, errW_some] <;> rfl) | (simp only [← hji572]; first | rfl | (simp [errW_none, errW_some] <;> rfl)) | (simp [*, errW_none, errW_some] <;> rfl), by apply_rules only [HB.out, below_alloc, pw_below_drewN, below_drew1, below_set, GE101.out, GE102.out, GE103.out, GE107.out, GE111.out, GE118.out, GE122.out, GE141.out, GE145.out, GE149.out, GE153.out, GE169.out]⟩
           ·replace c577 := Bool.eq_false_iff.mpr c577
            subst c577
            rw [if_neg (show ¬ (false = true) by decide)] at H
            exact absurd H (by simp)
          ·rw [if_neg c574] at H
           exact absurd H (by simp)
         ·rw [if_neg c573] at H
          exact absurd H (by simp)
        ·replace c571 := Bool.eq_false_iff.mpr c571
         subst c571
         have H1 : (some true) = some true := rfl
         clear H
         have H := H1
         clear H1
         clear H
         go_wp2
         go_ret
         exact ⟨by first | rfl | (simp [errW_none, errW_some] <;> rfl) | (simp [*, errW_none, errW_some] <;> rfl), by apply_rules only [HB.out, below_alloc, pw_below_drewN, below_drew1, below_set, GE101.out, GE102.out, GE103.out, GE107.out, GE111.out, GE118.out, GE122.out, GE141.out, GE145.out, GE149.out, GE153.out]⟩
end Go.Proofs.YtkloiiojigofpaaDoor.P
