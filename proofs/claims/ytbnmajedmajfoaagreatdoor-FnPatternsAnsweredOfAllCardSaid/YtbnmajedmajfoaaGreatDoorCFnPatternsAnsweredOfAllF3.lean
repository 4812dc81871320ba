/- What functions of the program answer. Proved in this text: its theorems. Conditions: as each theorem states them. -/
import Derived.Test.YtbnmajedmajfoaaGreatDoorCFnPatternsAnsweredOfAllP
import Derived.Test.YtbnmajedmajfoaaGreatDoorCFnPatternsAnsweredOfAllF0
import Derived.Test.YtbnmajedmajfoaaGreatDoorCFnPatternsAnsweredOfAllF1
import Derived.Test.YtbnmajedmajfoaaGreatDoorCFnPatternsAnsweredOfAllF2
namespace Go.Proofs.YtbnmajedmajfoaaGreatDoor.P
open Go.RowKit Go.Proofs.YtbnmajedmajfoaaGreatDoorW.PrintWords Go.Proofs.YtbnmajedmajfoaaGreatDoorW.PrintLast Go.Proofs.YtbnmajedmajfoaaGreatDoorW.PrintMore
attribute [local go_sem] max2_int min2_int max_two min_two max_three min_three max_four min_four
set_option linter.unusedVariables false
set_option linter.unusedSimpArgs false
attribute [local go_sem high] eqA23 eqA33
set_option maxHeartbeats 8000000 in
set_option maxRecDepth 100000 in
theorem laws_FnPatternsAnsweredOfAll.part1 (k : Nat) (a0_0 : ByteArray) (a0_1 : Int) (a1_0 : ByteArray) (a1_1 : Int) (A2 : Option Addr) (c2 : Nat) (l2 : List SRule) (a3 : ByteArray) (w : World) (hu23 : Tryz.prog.underlying 23 = some (TypeDesc.struct #[{ name := "Pattern", type := 9, offset := 0, embedded := false, tag := "", pkgPath := "", byteOffset := 0 }, { name := "Rules", type := 3, offset := 1, embedded := false, tag := "", pkgPath := "", byteOffset := 16 }])) (hu33 : Tryz.prog.underlying 33 = some (TypeDesc.struct #[{ name := "Every", type := 3, offset := 0, embedded := false, tag := "", pkgPath := "", byteOffset := 0 }, { name := "Rest", type := 3, offset := 1, embedded := false, tag := "", pkgPath := "", byteOffset := 8 }])) (HR2 : Aside0 (kRule.C w A2 l2.length l2)) (HC2 : Aside0 (l2.length ≤ c2)) (HG : Aside0 (GlobOk w)) (gb101 : Nat) (GW101 : Aside0 (w.heap.size ≤ gb101)) (GE101 : Aside0 (w.heap.size ≤ gb101)) (gb102 : Nat) (GW102 : Aside0 (w.heap.size ≤ gb102)) (GE102 : Aside0 (w.heap.size ≤ gb102)) (NB101_102 : Aside0 (gb101 ≠ gb102)) (NB102_101 : Aside0 (gb102 ≠ gb101)) (u64 : Value) (u65 : Value) (u66 : Value) (u67 : Value) (u68 : Value) (u69 : Value) (u70 : Value) (kj4 : Nat) (HJ4 : Aside0 (kj4 + 1 ≤ k)) (t103 : List (List SRule)) (t106 : Bool) (A10 : Aside0 (impl_Answers.f kj4 a0_0 a0_1 = some (t103, t106))) (t107 : List (List SRule)) (t110 : Bool) (A11 : Aside0 (spec_Answers.f kj4 a0_0 a0_1 = some (t107, t110))) (t111 : Int) (t112 : Bool) (A12 : Aside0 (impl_CountAnswers.f kj4 a0_0 a0_1 = some (t111, t112))) (t113 : Int) (t114 : Bool) (A13 : Aside0 (spec_CountAnswers.f kj4 a0_0 a0_1 = some (t113, t114))) (t115 : List SRule) (t118 : Bool) (A14 : Aside0 (impl_FirstAnswer.f kj4 a0_0 a0_1 = some (t115, t118))) (t119 : List SRule) (t122 : Bool) (A15 : Aside0 (spec_FirstAnswer.f kj4 a0_0 a0_1 = some (t119, t122))) (t123 : List SRule) (t126 : Bool) (A16 : Aside0 (impl_SureRules.f kj4 a0_0 a0_1 = some (t123, t126))) (t127 : List SRule) (t130 : Bool) (A17 : Aside0 (spec_SureRules.f kj4 a0_0 a0_1 = some (t127, t130))) (t131 : List SRule) (t134 : Bool) (A18 : Aside0 (impl_RulesThatFit.f kj4 a0_0 a0_1 = some (t131, t134))) (t135 : List SRule) (t138 : Bool) (A19 : Aside0 (spec_RulesThatFit.f kj4 a0_0 a0_1 = some (t135, t138))) (t139 : Int) (t140 : Int) (t141 : Int) (t142 : Bool) (A20 : Aside0 (impl_HintOf.f kj4 a0_0 a0_1 = some (t139, t140, t141, t142))) (t144 : Int) (t145 : Int) (t146 : Int) (t147 : Bool) (A21 : Aside0 (spec_HintOf.f kj4 a0_0 a0_1 = some (t144, t145, t146, t147))) (t149 : ByteArray) (t150 : Bool) (A22 : Aside0 (impl_PuzzleText.f a0_0 a0_1 = some (t149, t150))) (H : ((spec_PuzzleText.f kj4 a0_0 a0_1).bind fun bt151 => if (t106 != t110) = true then some false else (laws_gAnswers.f kj4 t103 t107).bind fun t153 => if t153 = true then if (t112 != t114) = true then some false else if t111 = t113 then if (t118 != t122) = true then some false else (laws_gRules.f kj4 t115 t119).bind fun t154 => if t154 = true then if (t126 != t130) = true then some false else (laws_gRules.f kj4 t123 t127).bind fun t155 => if t155 = true then if (t134 != t138) = true then some false else (laws_gRules.f kj4 t131 t135).bind fun t156 => if t156 = true then if (t142 != t147) = true then some false else if t139 = t144 then if (!t140 == t145 || !t141 == t146) = true then some false else if (t150 != bt151.snd) = true then some false else if t149.toList = bt151.fst.toList then if (t112 != t106) = true then some false else if t106 = true then if (t118 != decide (t111 > 0)) = true then some false else if (t126 != t118) = true then some false else (impl_IsPuzzle.f a0_0 a0_1).bind fun t157 => if (t134 != t157) = true then some false else (impl_IsPuzzle.f a0_0 a0_1).bind fun t158 => (spec_IsPuzzle.f kj4 a0_0 a0_1).bind fun t159 => if (t158 != t159) = true then some false else if (t150 != t134) = true then some false else j1 kj4 l2 a3 t103 t106 t111 t115 t118 t123 t131 t139 t142 t149 t150 (!t134) a0_0 a0_1 a1_0 a1_1 t140 t141 else if (t118 != false) = true then some false else if (t126 != t118) = true then some false else (impl_IsPuzzle.f a0_0 a0_1).bind fun t160 => if (t134 != t160) = true then some false else (impl_IsPuzzle.f a0_0 a0_1).bind fun t161 => (spec_IsPuzzle.f kj4 a0_0 a0_1).bind fun t162 => if (t161 != t162) = true then some false else if (t150 != t134) = true then some false else j1 kj4 l2 a3 t103 t106 t111 t115 t118 t123 t131 t139 t142 t149 t150 false a0_0 a0_1 a1_0 a1_1 t140 t141 else some false else some false else some false else some false else some false else some false else some false) = some true) (t151 : ByteArray) (t152 : Bool) (A23 : Aside0 (spec_PuzzleText.f kj4 a0_0 a0_1 = some (t151, t152))) (hnb25 : gb101 ≠ gb102) (hnc25 : gb102 ≠ gb101) (w27 : World) (v104 : Value) (hcz28_0 : w27.cell? { block := gb101, off := 0 } = some (Value.string a0_0)) (hcz28_1 : w27.cell? { block := gb101, off := 1 } = some (Value.int IntKind.i64 a0_1)) (hfz28_0 : w27.frozen? { block := gb101, off := 0 } = false) (hfz28_1 : w27.frozen? { block := gb101, off := 1 } = false) (w29 : World) (v108 : Value) (hcz30_0 : w29.cell? { block := gb101, off := 0 } = some (Value.string a0_0)) (hcz30_1 : w29.cell? { block := gb101, off := 1 } = some (Value.int IntKind.i64 a0_1)) (hfz30_0 : w29.frozen? { block := gb101, off := 0 } = false) (hfz30_1 : w29.frozen? { block := gb101, off := 1 } = false) (w31 : World) (hcz32_0 : w31.cell? { block := gb101, off := 0 } = some (Value.string a0_0)) (hcz32_1 : w31.cell? { block := gb101, off := 1 } = some (Value.int IntKind.i64 a0_1)) (hfz32_0 : w31.frozen? { block := gb101, off := 0 } = false) (hfz32_1 : w31.frozen? { block := gb101, off := 1 } = false) (w33 : World) (hcz34_0 : w33.cell? { block := gb101, off := 0 } = some (Value.string a0_0)) (hcz34_1 : w33.cell? { block := gb101, off := 1 } = some (Value.int IntKind.i64 a0_1)) (hfz34_0 : w33.frozen? { block := gb101, off := 0 } = false) (hfz34_1 : w33.frozen? { block := gb101, off := 1 } = false) (w35 : World) (v116 : Value) (hcz36_0 : w35.cell? { block := gb101, off := 0 } = some (Value.string a0_0)) (hcz36_1 : w35.cell? { block := gb101, off := 1 } = some (Value.int IntKind.i64 a0_1)) (hfz36_0 : w35.frozen? { block := gb101, off := 0 } = false) (hfz36_1 : w35.frozen? { block := gb101, off := 1 } = false) (w37 : World) (v120 : Value) (hcz38_0 : w37.cell? { block := gb101, off := 0 } = some (Value.string a0_0)) (hcz38_1 : w37.cell? { block := gb101, off := 1 } = some (Value.int IntKind.i64 a0_1)) (hfz38_0 : w37.frozen? { block := gb101, off := 0 } = false) (hfz38_1 : w37.frozen? { block := gb101, off := 1 } = false) (w39 : World) (v124 : Value) (hcz40_0 : w39.cell? { block := gb101, off := 0 } = some (Value.string a0_0)) (hcz40_1 : w39.cell? { block := gb101, off := 1 } = some (Value.int IntKind.i64 a0_1)) (hfz40_0 : w39.frozen? { block := gb101, off := 0 } = false) (hfz40_1 : w39.frozen? { block := gb101, off := 1 } = false) (w41 : World) (v128 : Value) (hcz42_0 : w41.cell? { block := gb101, off := 0 } = some (Value.string a0_0)) (hcz42_1 : w41.cell? { block := gb101, off := 1 } = some (Value.int IntKind.i64 a0_1)) (hfz42_0 : w41.frozen? { block := gb101, off := 0 } = false) (hfz42_1 : w41.frozen? { block := gb101, off := 1 } = false) (w43 : World) (v132 : Value) (hcz44_0 : w43.cell? { block := gb101, off := 0 } = some (Value.string a0_0)) (hcz44_1 : w43.cell? { block := gb101, off := 1 } = some (Value.int IntKind.i64 a0_1)) (hfz44_0 : w43.frozen? { block := gb101, off := 0 } = false) (hfz44_1 : w43.frozen? { block := gb101, off := 1 } = false) (w45 : World) (v136 : Value) (hcz46_0 : w45.cell? { block := gb101, off := 0 } = some (Value.string a0_0)) (hcz46_1 : w45.cell? { block := gb101, off := 1 } = some (Value.int IntKind.i64 a0_1)) (hfz46_0 : w45.frozen? { block := gb101, off := 0 } = false) (hfz46_1 : w45.frozen? { block := gb101, off := 1 } = false) (gb143 : Nat) (w48 : World) (GW143 : Aside0 (w.heap.size ≤ gb143)) (GE143 : Aside0 (w.heap.size ≤ gb143)) (NB101_143 : Aside0 (gb101 ≠ gb143)) (NB143_101 : Aside0 (gb143 ≠ gb101)) (NB102_143 : Aside0 (gb102 ≠ gb143)) (NB143_102 : Aside0 (gb143 ≠ gb102)) (hnb49 : gb143 ≠ gb101) (hnc49 : gb101 ≠ gb143) (hnb50 : gb143 ≠ gb102) (hnc50 : gb102 ≠ gb143) (hcz51_0 : w48.cell? { block := gb143, off := 0 } = some (Value.int IntKind.i64 0)) (hcz51_1 : w48.cell? { block := gb143, off := 1 } = some (Value.int IntKind.i64 0)) (hfz51_0 : w48.frozen? { block := gb143, off := 0 } = false) (hfz51_1 : w48.frozen? { block := gb143, off := 1 } = false) (hcz52_0 : w48.cell? { block := gb101, off := 0 } = some (Value.string a0_0)) (hcz52_1 : w48.cell? { block := gb101, off := 1 } = some (Value.int IntKind.i64 a0_1)) (hfz52_0 : w48.frozen? { block := gb101, off := 0 } = false) (hfz52_1 : w48.frozen? { block := gb101, off := 1 } = false) (gb148 : Nat) (w54 : World) (GW148 : Aside0 (w.heap.size ≤ gb148)) (GE148 : Aside0 (w.heap.size ≤ gb148)) (NB101_148 : Aside0 (gb101 ≠ gb148)) (NB148_101 : Aside0 (gb148 ≠ gb101)) (NB102_148 : Aside0 (gb102 ≠ gb148)) (NB148_102 : Aside0 (gb148 ≠ gb102)) (NB143_148 : Aside0 (gb143 ≠ gb148)) (NB148_143 : Aside0 (gb148 ≠ gb143)) (hnb55 : gb148 ≠ gb101) (hnc55 : gb101 ≠ gb148) (hnb56 : gb148 ≠ gb102) (hnc56 : gb102 ≠ gb148) (hnb57 : gb148 ≠ gb143) (hnc57 : gb143 ≠ gb148) (hcz58_0 : w54.cell? { block := gb148, off := 0 } = some (Value.int IntKind.i64 0)) (hcz58_1 : w54.cell? { block := gb148, off := 1 } = some (Value.int IntKind.i64 0)) (hfz58_0 : w54.frozen? { block := gb148, off := 0 } = false) (hfz58_1 : w54.frozen? { block := gb148, off := 1 } = false) (hcz59_0 : w54.cell? { block := gb101, off := 0 } = some (Value.string a0_0)) (hcz59_1 : w54.cell? { block := gb101, off := 1 } = some (Value.int IntKind.i64 a0_1)) (hfz59_0 : w54.frozen? { block := gb101, off := 0 } = false) (hfz59_1 : w54.frozen? { block := gb101, off := 1 } = false) (w60 : World) (hcz61_0 : w60.cell? { block := gb101, off := 0 } = some (Value.string a0_0)) (hcz61_1 : w60.cell? { block := gb101, off := 1 } = some (Value.int IntKind.i64 a0_1)) (hfz61_0 : w60.frozen? { block := gb101, off := 0 } = false) (hfz61_1 : w60.frozen? { block := gb101, off := 1 } = false) (w62 : World) (HO105 : Aside0 ((Kd.slice 33 kRule).S 24 w62 w.heap.size (fun x => ((((((((True ∧ some x ≠ v108.ownBlock) ∧ some x ≠ v116.ownBlock) ∧ some x ≠ v120.ownBlock) ∧ some x ≠ v124.ownBlock) ∧ some x ≠ v128.ownBlock) ∧ some x ≠ v132.ownBlock) ∧ some x ≠ v136.ownBlock) ∧ x ≠ gb143) ∧ x ≠ gb148) v104 t103)) (HO109 : Aside0 ((Kd.slice 33 kRule).S 24 w62 w.heap.size (fun x => ((((((((True ∧ some x ≠ v104.ownBlock) ∧ some x ≠ v116.ownBlock) ∧ some x ≠ v120.ownBlock) ∧ some x ≠ v124.ownBlock) ∧ some x ≠ v128.ownBlock) ∧ some x ≠ v132.ownBlock) ∧ some x ≠ v136.ownBlock) ∧ x ≠ gb143) ∧ x ≠ gb148) v108 t107)) (HO117 : Aside0 (kRule.R 33 w62 w.heap.size (fun x => ((((((True ∧ some x ≠ v120.ownBlock) ∧ some x ≠ v124.ownBlock) ∧ some x ≠ v128.ownBlock) ∧ some x ≠ v132.ownBlock) ∧ some x ≠ v136.ownBlock) ∧ x ≠ gb143) ∧ x ≠ gb148) v116 t115)) (HO121 : Aside0 (kRule.R 33 w62 w.heap.size (fun x => ((((((True ∧ some x ≠ v116.ownBlock) ∧ some x ≠ v124.ownBlock) ∧ some x ≠ v128.ownBlock) ∧ some x ≠ v132.ownBlock) ∧ some x ≠ v136.ownBlock) ∧ x ≠ gb143) ∧ x ≠ gb148) v120 t119)) (HO125 : Aside0 (kRule.R 33 w62 w.heap.size (fun x => ((((((True ∧ some x ≠ v116.ownBlock) ∧ some x ≠ v120.ownBlock) ∧ some x ≠ v128.ownBlock) ∧ some x ≠ v132.ownBlock) ∧ some x ≠ v136.ownBlock) ∧ x ≠ gb143) ∧ x ≠ gb148) v124 t123)) (HO129 : Aside0 (kRule.R 33 w62 w.heap.size (fun x => ((((((True ∧ some x ≠ v116.ownBlock) ∧ some x ≠ v120.ownBlock) ∧ some x ≠ v124.ownBlock) ∧ some x ≠ v132.ownBlock) ∧ some x ≠ v136.ownBlock) ∧ x ≠ gb143) ∧ x ≠ gb148) v128 t127)) (HO133 : Aside0 (kRule.R 33 w62 w.heap.size (fun x => ((((((True ∧ some x ≠ v116.ownBlock) ∧ some x ≠ v120.ownBlock) ∧ some x ≠ v124.ownBlock) ∧ some x ≠ v128.ownBlock) ∧ some x ≠ v136.ownBlock) ∧ x ≠ gb143) ∧ x ≠ gb148) v132 t131)) (HO137 : Aside0 (kRule.R 33 w62 w.heap.size (fun x => ((((((True ∧ some x ≠ v116.ownBlock) ∧ some x ≠ v120.ownBlock) ∧ some x ≠ v124.ownBlock) ∧ some x ≠ v128.ownBlock) ∧ some x ≠ v132.ownBlock) ∧ x ≠ gb143) ∧ x ≠ gb148) v136 t135)) (wc : World) (u72 : Value) (u73 : Value) (u74 : Value) (u75 : Value) (u76 : Value) (u77 : Value) (u78 : Value) (u79 : Value) (u80 : Value) (u81 : Value) (u82 : Value) (u83 : Value) (u84 : Value) (u85 : Value) (u86 : Value) (u87 : Value) (u88 : Value) (u89 : Value) (u90 : Value) (u91 : Value) (u92 : Value) (u93 : Value) (u94 : Value) (u95 : Value) (u96 : Value) (u97 : Value) (u98 : Value) (u99 : Value) (u100 : Value) (u101 : Value) (u102 : Value) (u103 : Value) (u104 : Value) (u105 : Value) (u106 : Value) (u107 : Value) (u108 : Value) (u109 : Value) (u110 : Value) (u111 : Value) (u112 : Value) (u113 : Value) (u114 : Value) (u115 : Value) (u116 : Value) (u117 : Value) (u118 : Value) (u119 : Value) (u120 : Value) (u121 : Value) (u122 : Value) (u123 : Value) (u124 : Value) (u125 : Value) (u126 : Value) (u127 : Value) (u128 : Value) (u129 : Value) (u130 : Value) (u131 : Value) (u132 : Value) (u133 : Value) (u134 : Value) (u135 : Value) (u136 : Value) (u137 : Value) (u138 : Value) (u139 : Value) (u140 : Value) (u141 : Value) (u142 : Value) (u143 : Value) (u144 : Value) (u145 : Value) (u146 : Value) (u147 : Value) (u148 : Value) (u149 : Value) (u150 : Value) (u151 : Value) (u152 : Value) (u153 : Value) (u154 : Value) (u155 : Value) (u156 : Value) (u157 : Value) (u158 : Value) (u159 : Value) (u160 : Value) (u161 : Value) (u162 : Value) (u163 : Value) (u164 : Value) (u165 : Value) (u166 : Value) (u167 : Value) (u168 : Value) (u169 : Value) (u170 : Value) (u171 : Value) (u172 : Value) (u173 : Value) (u174 : Value) (u175 : Value) (u176 : Value) (u177 : Value) (u178 : Value) (u179 : Value) (u180 : Value) (u181 : Value) (u182 : Value) (u183 : Value) (u184 : Value) (u185 : Value) (u186 : Value) (u187 : Value) (u188 : Value) (u189 : Value) (u190 : Value) (u191 : Value) (u192 : Value) (u193 : Value) (u194 : Value) (u195 : Value) (u196 : Value) (u197 : Value) (u198 : Value) (u199 : Value) (u200 : Value) (u201 : Value) (u202 : Value) (u203 : Value) (u204 : Value) (u205 : Value) (u206 : Value) (u207 : Value) (u208 : Value) (u209 : Value) (u210 : Value) (u211 : Value) (u212 : Value) (u213 : Value) (u214 : Value) (u215 : Value) (u216 : Value) (u217 : Value) (u218 : Value) (u219 : Value) (u220 : Value) (u221 : Value) (u222 : Value) (u223 : Value) (u224 : Value) (u225 : Value) (u226 : Value) (u227 : Value) (u228 : Value) (u229 : Value) (u230 : Value) (u231 : Value) (u232 : Value) (u233 : Value) (u234 : Value) (u235 : Value) (u236 : Value) (u237 : Value) (u238 : Value) (u239 : Value) (u240 : Value) (u241 : Value) (u242 : Value) (u243 : Value) (u244 : Value) (u245 : Value) (u246 : Value) (u247 : Value) (u248 : Value) (u249 : Value) (u250 : Value) (u251 : Value) (u252 : Value) (u253 : Value) (u254 : Value) (u255 : Value) (u256 : Value) (u257 : Value) (u258 : Value) (u259 : Value) (u260 : Value) (u261 : Value) (u262 : Value) (u263 : Value) (kq : Nat) (x264_23 : Bool) (HA : Aside0 (j1 kq l2 a3 t103 t106 t111 t115 t118 t123 t131 t139 t142 t149 t150 x264_23 a0_0 a0_1 a1_0 a1_1 t140 t141 = some true)) (HJ23 : Aside0 (kq ≤ kj4)) (HO_9 : Aside0 ((Kd.slice 33 kRule).S 24 wc w.heap.size (fun k_ => some k_ ≠ v116.ownBlock ∧ some k_ ≠ v124.ownBlock ∧ some k_ ≠ v132.ownBlock ∧ k_ ≠ gb143 ∧ k_ ≠ gb148) v104 t103)) (HO_17 : Aside0 (kRule.R 33 wc w.heap.size (fun k_ => some k_ ≠ v124.ownBlock ∧ some k_ ≠ v132.ownBlock ∧ k_ ≠ gb143 ∧ k_ ≠ gb148) v116 t115)) (HO_21 : Aside0 (kRule.R 33 wc w.heap.size (fun k_ => some k_ ≠ v116.ownBlock ∧ some k_ ≠ v132.ownBlock ∧ k_ ≠ gb143 ∧ k_ ≠ gb148) v124 t123)) (HO_25 : Aside0 (kRule.R 33 wc w.heap.size (fun k_ => some k_ ≠ v116.ownBlock ∧ some k_ ≠ v124.ownBlock ∧ k_ ≠ gb143 ∧ k_ ≠ gb148) v132 t131)) (BK101 : Aside0 (wc.heap[gb101]? = some (Obj.cells #[Value.string a0_0, Value.int IntKind.i64 a0_1] 23))) (BK102 : Aside0 (wc.heap[gb102]? = some (Obj.cells #[Value.string a1_0, Value.int IntKind.i64 a1_1] 23))) (BK143 : Aside0 (wc.heap[gb143]? = some (Obj.cells #[Value.int IntKind.i64 t140, Value.int IntKind.i64 t141] 33))) (BK148 : Aside0 (wc.heap[gb148]? = some (Obj.cells #[Value.int IntKind.i64 t145, Value.int IntKind.i64 t146] 33))) (HB : Aside0 (Below w.heap.size w wc)) (KX : Act → World → Prop) (hKX : ∀ a_ w_, Code.wp Tryz.prog (seqB (seqB (seqB (seqB (seqB (seqB (seqB (seqB (seqB (seqB (seqB (seqB (seqB (seqB (seqB (seqB (seqB (codeOf Tryz.f3.body)))))))))))))))))) (bodyPost Tryz.prog Tryz.f3 fun e w' => e = .returned (.bool true) ∧ Below w.heap.size w w') a_ w_ → KX a_ w_) : Code.wp Tryz.prog (seqB (seqA (seqB (seqB (seqB (seqB (seqB (seqB (seqB (seqB (seqB (seqB (seqB (seqB (seqB (seqB (seqB (seqB (codeOf Tryz.f3.body))))))))))))))))))) (Exit.then KX (bodyPost Tryz.prog Tryz.f3 fun e w' => e = .returned (.bool true) ∧ Below w.heap.size w w')) ⟨#[Value.agg #[Value.string a0_0, Value.int IntKind.i64 a0_1], Value.agg #[Value.string a1_0, Value.int IntKind.i64 a1_1], Value.slice A2 l2.length c2, Value.string a3, Value.pointer (some { block := gb101, off := 0 }), Value.pointer (some { block := gb102, off := 0 }), undef, undef, Value.bool false, v104, Value.bool t106, v108, Value.bool t110, Value.int IntKind.i64 t111, Value.bool t112, Value.int IntKind.i64 t113, Value.bool t114, v116, Value.bool t118, v120, Value.bool t122, v124, Value.bool t126, v128, Value.bool t130, v132, Value.bool t134, v136, Value.bool t138, Value.int IntKind.i64 t139, Value.pointer (some { block := gb143, off := 0 }), Value.bool t142, Value.int IntKind.i64 t144, Value.pointer (some { block := gb148, off := 0 }), Value.bool t147, Value.string t149, Value.bool t150, Value.string t151, Value.bool t152, undef, undef, undef, undef, undef, undef, undef, undef, undef, undef, undef, undef, undef, undef, undef, undef, undef, undef, undef, undef, undef, undef, undef, undef, undef, u64, u65, u66, u67, u68, u69, u70, Value.bool false, u72, u73, u74, u75, u76, u77, u78, u79, u80, u81, u82, u83, u84, u85, u86, u87, u88, u89, u90, u91, u92, u93, u94, u95, u96, u97, u98, u99, u100, u101, u102, u103, u104, u105, u106, u107, u108, u109, u110, u111, u112, u113, u114, u115, u116, u117, u118, u119, u120, u121, u122, u123, u124, u125, u126, u127, u128, u129, u130, u131, u132, u133, u134, u135, u136, u137, u138, u139, u140, u141, u142, u143, u144, u145, u146, u147, u148, u149, u150, u151, u152, u153, u154, u155, u156, u157, u158, u159, u160, u161, u162, u163, u164, u165, u166, u167, u168, u169, u170, u171, u172, u173, u174, u175, u176, u177, u178, u179, u180, u181, u182, u183, u184, u185, u186, u187, u188, u189, u190, u191, u192, u193, u194, u195, u196, u197, u198, u199, u200, u201, u202, u203, u204, u205, u206, u207, u208, u209, u210, u211, u212, u213, u214, u215, u216, u217, u218, u219, u220, u221, u222, u223, u224, u225, u226, u227, u228, u229, u230, u231, u232, u233, u234, u235, u236, u237, u238, u239, u240, u241, u242, u243, u244, u245, u246, u247, u248, u249, u250, u251, u252, u253, u254, u255, u256, u257, u258, u259, u260, u261, u262, u263, Value.bool x264_23, undef, undef, undef, undef, undef, undef, undef, undef, undef, undef, undef, undef, undef, undef, undef, undef, undef, undef, undef, undef, undef, undef, undef, undef, undef, undef, undef, undef, undef, undef, undef, undef, undef, undef, undef, undef, undef, undef, undef, undef, undef, undef, undef, undef, undef, undef, undef, undef, undef, undef, undef, undef, undef, undef, undef, undef, undef, undef, undef, undef, undef, undef, undef, undef, undef, undef, undef, undef, undef, undef, undef, undef, undef, undef, undef, undef, undef, undef, undef, undef, undef, undef, undef, undef, undef, undef, undef, undef, undef, undef, undef, undef, undef, undef, undef, undef, undef, undef, undef, undef, undef, undef, undef, undef, undef, undef, undef, undef, undef, undef, undef, undef, undef, undef, undef, undef, undef, undef, undef, undef, undef, undef, undef, undef, undef, undef, undef, undef, undef, undef, undef, undef, undef, undef, undef, undef, undef, undef, undef, undef, undef, undef, undef, undef, undef, undef, undef, undef, undef, undef, undef, undef, undef, undef, undef, undef, undef, undef, undef, undef, undef, undef, undef, undef, undef, undef, undef, undef, undef, undef, undef, undef, undef, undef, undef, undef, undef, undef, undef, undef, undef, undef, undef, undef, undef, undef, undef, undef, undef, undef, undef, undef, undef, undef, undef, undef, undef, undef, undef, undef, undef, undef, undef, undef, undef, undef, undef, undef, undef, undef, undef, undef, undef, undef, undef, undef], []⟩ wc := by
  revert hKX
  show (let Q'_ := bodyPost Tryz.prog Tryz.f3 fun e w' => e = .returned (.bool true) ∧ Below w.heap.size w w'; (∀ a w, Code.wp Tryz.prog (seqB (seqB (seqB (seqB (seqB (seqB (seqB (seqB (seqB (seqB (seqB (seqB (seqB (seqB (seqB (seqB (seqB (codeOf Tryz.f3.body)))))))))))))))))) Q'_ a w → KX a w) → Code.wp Tryz.prog _ (Exit.then KX Q'_) _ _)
  intro Q'_ hKX
  conv at hKX => intro a_ w_; lhs; arg 2; whnf
  conv => arg 2; whnf
  conv => arg 4; zeta
  cases kq with
  | zero => exact absurd HA.out (by simp [laws_FnPatternsAnsweredOfAll.j1])
  | succ kj23 =>
   have H := HA.out
   clear HA
   simp only [laws_FnPatternsAnsweredOfAll.j1] at H
   by_cases c124 : x264_23 = true
   ·subst c124
    rw [if_pos rfl] at H
    exact absurd H (by simp)
   ·replace c124 := Bool.eq_false_iff.mpr c124
    subst c124
    rw [if_neg (show ¬ (false = true) by decide)] at H
    have HC125 := Aside0.mk H
    clear H
    go_upto_if 265 with (fail)
    go_cut [] from 265 to 265 (fun wc => ∃ (kq : Nat), Aside0 (laws_FnPatternsAnsweredOfAll.j7 kq l2 a3 t131 t139 t142 t149 t150 a0_0 a0_1 a1_0 a1_1 t140 t141 = some true) ∧ Aside0 (kq ≤ kj23) ∧ Aside0 (Kd.R kRule 33 wc w.heap.size (fun k_ => k_ ≠ gb143 ∧ k_ ≠ gb148) v132 t131) ∧ Aside0 (wc.heap[gb101]? = some (.cells #[.string a0_0, .int .i64 a0_1] 23 (0, 0))) ∧ Aside0 (wc.heap[gb102]? = some (.cells #[.string a1_0, .int .i64 a1_1] 23 (0, 0))) ∧ Aside0 (wc.heap[gb143]? = some (.cells #[.int .i64 t140, .int .i64 t141] 33 (0, 0))) ∧ Aside0 (wc.heap[gb148]? = some (.cells #[.int .i64 t145, .int .i64 t146] 33 (0, 0))) ∧ Aside0 (Below w.heap.size w wc))
    case first =>
     have H := HC125.out
     clear HC125
     by_cases c126 : t106 = true
     ·subst c126
      rw [if_pos rfl] at H
      have HC127 := Aside0.mk H
      clear H
      go_upto_region 20 with (fail)
      go_cut [280] from 266 to 280 (fun v280 wc => ∃ (kq : Nat) (x280_126 : Bool), v280 = .bool x280_126 ∧ Aside0 (laws_FnPatternsAnsweredOfAll.j2 kq l2 a3 t103 t111 t123 t131 t139 t142 t149 t150 x280_126 a0_0 a0_1 a1_0 a1_1 t140 t141 = some true) ∧ Aside0 (kq ≤ kj23) ∧ Aside0 (Kd.S (Kd.slice 33 kRule) 24 wc w.heap.size (fun k_ => some k_ ≠ (v124 : Value).ownBlock ∧ some k_ ≠ (v132 : Value).ownBlock ∧ k_ ≠ gb143 ∧ k_ ≠ gb148) v104 t103) ∧ Aside0 (Kd.R kRule 33 wc w.heap.size (fun k_ => some k_ ≠ (v132 : Value).ownBlock ∧ k_ ≠ gb143 ∧ k_ ≠ gb148) v124 t123) ∧ Aside0 (Kd.R kRule 33 wc w.heap.size (fun k_ => some k_ ≠ (v124 : Value).ownBlock ∧ k_ ≠ gb143 ∧ k_ ≠ gb148) v132 t131) ∧ Aside0 (wc.heap[gb101]? = some (.cells #[.string a0_0, .int .i64 a0_1] 23 (0, 0))) ∧ Aside0 (wc.heap[gb102]? = some (.cells #[.string a1_0, .int .i64 a1_1] 23 (0, 0))) ∧ Aside0 (wc.heap[gb143]? = some (.cells #[.int .i64 t140, .int .i64 t141] 33 (0, 0))) ∧ Aside0 (wc.heap[gb148]? = some (.cells #[.int .i64 t145, .int .i64 t146] 33 (0, 0))) ∧ Aside0 (Below w.heap.size w wc))
      case first =>
       have H := HC127.out
       clear HC127
       by_cases c128 : (t103.length : Int) = t111
       ·rw [if_pos c128] at H
        have c128b0 : ((t103.length : Int) == t111) = true := beq_iff_eq.mpr c128
        have c128b1 : ((t103.length : Int) != t111) = false := bne_eq_false_iff_eq.mpr c128
        clear c128
        (first | rw [c128b0] | rw [c128b1] | (simp only [i64_w, i32_w]; rw [c128b0]) | skip)
        by_cases c129 : t118 = true
        ·subst c129
         rw [if_pos rfl] at H
         by_cases c130 : 0 < (t103.length : Int)
         ·rw [if_pos c130] at H
          have c130b0 : decide (0 < (t103.length : Int)) = true := decide_eq_true c130
          have c130b1 : decide (0 < t103.length) = true := decide_eq_true (by omega)
          clear c130
          obtain ⟨t164, A131, H⟩ := obnd_ H
          (try dsimp only at H)
          have H' := Aside0.mk H
          clear H
          obtain ⟨Ao132, co132, eo132⟩ := Kd.S_slice HO_9.out
          subst eo132
          have p163 : 0 ≤ (0 : Int) := (by omega)
          have q163 : 0 < (t103.length : Int) := of_decide_eq_true k91_
          obtain ⟨ad163, A163_0, c163_0, e163, hx163_0, hl163_0, hi163_0⟩ := at_Rules (Kd.S_reads' HO_9.out).2.2 0 p163 q163
          cases e163
          obtain ⟨ce163, hce163, hMe163, hcc163⟩ := Kd.S_get HO_9.out [] 0 p163 (by first | exact q163 | exact of_decide_eq_true k91_ | (have e_ := (Kd.S_reads' HO_9.out).1; omega))
          obtain ⟨ve163_0, rfl, ge163_0⟩ := hMe163
          have hv163_0 := hcc163 0 _ rfl
          rw [Nat.add_zero, show ((Kd.slice 33 kRule)).sz = 1 from rfl, Nat.mul_one] at hv163_0
          replace hv163_0 := Option.some.inj (hv163_0.symm.trans hx163_0)
          rw [hv163_0] at ge163_0
          have HL163_0 := Aside0.mk (show Kd.R kRule 33 _ _ _ _ (rd_Rules t103 0) from ge163_0)
          clear hv163_0 ge163_0
          clear hcc163 hce163
          have qi163 : (0 < t103.length) = True := eq_true (by omega)
          (try rw [show ((0 : Int)).toNat = 0 from rfl] at hx163_0)
          (try rw [Addr.add_zero'] at hx163_0)
          have HR163_0 := Aside0.mk hi163_0
          have HC163_0 := Aside0.mk hl163_0
          clear hi163_0 hl163_0
          replace p163 := eq_true p163
          replace q163 := eq_true q163
          obtain ⟨Ao133, co133, eo133⟩ := Kd.R_slice HO_17.out
          subst eo133
          go_wp2_with (first | (go_at_call 20; (with_reducible refine (laws_gRules.calls kj23 _ _ t115 _ _ (rd_Rules t103 0) t164 _ ?side1 ?side2 ?side3 ?side4 A131.out).mono ?_); (case side1 => repeat (first | exact (Kd.R_reads' HO_17.out).2.2 | (with_reducible refine Kd.C_alloc ?_ _) | (with_reducible refine Kd.C_drewN ?_ _) | (with_reducible refine Kd.C_drew ?_))); (case side2 => exact (Kd.R_reads' HO_17.out).2.1); (case side3 => repeat (first | exact (by repeat (first | (with_reducible exact HR163_0.out) | (with_reducible refine Kd.C_alloc ?_ _) | (with_reducible refine Kd.C_drewN ?_ _) | (with_reducible refine Kd.C_drew ?_) | exact HR163_0.out)) | (with_reducible refine Kd.C_alloc ?_ _) | (with_reducible refine Kd.C_drewN ?_ _) | (with_reducible refine Kd.C_drew ?_))); (case side4 => exact HC163_0.out); rintro e w' ⟨rfl, ⟨nd, rfl⟩⟩))
          go_meet
          case rel => exact ⟨_, (!t164), k92_, H', ⟨by have := HJ4.out; have := HJ23.out; first | omega | exact Nat.le_refl _⟩, ⟨by (with_reducible repeat (first | apply Kd.S_alloc | apply Kd.S_drewN | apply Kd.S_drew)); exact Kd.S_mono HO_9.out (fun _ hk => ⟨hk.2.1, ⟨hk.2.2.1, ⟨hk.2.2.2.1, hk.2.2.2.2⟩⟩⟩)⟩, ⟨by (with_reducible repeat (first | apply Kd.R_alloc | apply Kd.R_drewN | apply Kd.R_drew)); exact Kd.R_mono HO_21.out (fun _ hk => ⟨hk.2.1, ⟨hk.2.2.1, hk.2.2.2⟩⟩)⟩, ⟨by (with_reducible repeat (first | apply Kd.R_alloc | apply Kd.R_drewN | apply Kd.R_drew)); exact Kd.R_mono HO_25.out (fun _ hk => ⟨hk.2.1, ⟨hk.2.2.1, hk.2.2.2⟩⟩)⟩, ⟨k85_⟩, ⟨k86_⟩, ⟨k88_⟩, ⟨k89_⟩, ⟨k62_⟩⟩
         ·rw [if_neg c130] at H
          exact absurd H (by simp)
        ·replace c129 := Bool.eq_false_iff.mpr c129
         subst c129
         rw [if_neg (show ¬ (false = true) by decide)] at H
         have H' := Aside0.mk H
         clear H
         obtain ⟨Ao134, co134, eo134⟩ := Kd.S_slice HO_9.out
         subst eo134
         go_wp2
         go_meet
         case rel => exact ⟨_, (false), k92_, H', ⟨by have := HJ4.out; have := HJ23.out; first | omega | exact Nat.le_refl _⟩, ⟨by (with_reducible repeat (first | apply Kd.S_alloc | apply Kd.S_drewN | apply Kd.S_drew)); exact Kd.S_mono HO_9.out (fun _ hk => ⟨hk.2.1, ⟨hk.2.2.1, ⟨hk.2.2.2.1, hk.2.2.2.2⟩⟩⟩)⟩, ⟨by (with_reducible repeat (first | apply Kd.R_alloc | apply Kd.R_drewN | apply Kd.R_drew)); exact Kd.R_mono HO_21.out (fun _ hk => ⟨hk.2.1, ⟨hk.2.2.1, hk.2.2.2⟩⟩)⟩, ⟨by (with_reducible repeat (first | apply Kd.R_alloc | apply Kd.R_drewN | apply Kd.R_drew)); exact Kd.R_mono HO_25.out (fun _ hk => ⟨hk.2.1, ⟨hk.2.2.1, hk.2.2.2⟩⟩)⟩, ⟨k85_⟩, ⟨k86_⟩, ⟨k88_⟩, ⟨k89_⟩, ⟨k62_⟩⟩
       ·rw [if_neg c128] at H
        have c128b0 : ((t103.length : Int) == t111) = false := beq_eq_false_iff_ne.mpr c128
        have c128b1 : ((t103.length : Int) != t111) = true := bne_iff_ne.mpr c128
        (first | rw [c128b0] | rw [c128b1] | (simp only [i64_w, i32_w]; rw [c128b0]) | skip)
        exact absurd H (by simp)
      case rest =>
       clear HC127
       skip
       obtain ⟨kq, x280_126, rfl, HA, HJ126, HO_9, HO_21, HO_25, BK101, BK102, BK143, BK148, HB⟩ := hcut
       cases kq with
       | zero => exact absurd HA.out (by simp [laws_FnPatternsAnsweredOfAll.j2])
       | succ kj126 =>
        have H := HA.out
        clear HA
        simp only [laws_FnPatternsAnsweredOfAll.j2] at H
        by_cases c135 : x280_126 = true
        ·subst c135
         rw [if_pos rfl] at H
         exact absurd H (by simp)
        ·replace c135 := Bool.eq_false_iff.mpr c135
         subst c135
         rw [if_neg (show ¬ (false = true) by decide)] at H
         have H' := Aside0.mk H
         clear H
         obtain ⟨Ao136, co136, eo136⟩ := Kd.S_slice HO_9.out
         subst eo136
         go_wp2
         go_loopg [283] kj126 (fun kq v283 w' => ∃ (x283_4 : Int), v283 = .int .i64 x283_4 ∧ Aside0 (laws_FnPatternsAnsweredOfAll.l0 kq l2 a3 t111 t123 t131 t139 t142 t149 t150 t103 (t103.length : Int) x283_4 a0_0 a0_1 a1_0 a1_1 t140 t141 = some true) ∧ Aside0 (kq ≤ kj126) ∧ Aside0 (Kd.R kRule 33 w' w.heap.size (fun k_ => some k_ ≠ (v132 : Value).ownBlock ∧ k_ ≠ gb143 ∧ k_ ≠ gb148) v124 t123) ∧ Aside0 (Kd.R kRule 33 w' w.heap.size (fun k_ => some k_ ≠ (v124 : Value).ownBlock ∧ k_ ≠ gb143 ∧ k_ ≠ gb148) v132 t131) ∧ Aside0 (Kd.S (Kd.slice 33 kRule) 24 w' w.heap.size (fun k_ => some k_ ≠ (v124 : Value).ownBlock ∧ some k_ ≠ (v132 : Value).ownBlock ∧ k_ ≠ gb143 ∧ k_ ≠ gb148) (.slice Ao136 t103.length co136) t103) ∧ Aside0 (w'.heap[gb101]? = some (.cells #[.string a0_0, .int .i64 a0_1] 23 (0, 0))) ∧ Aside0 (w'.heap[gb102]? = some (.cells #[.string a1_0, .int .i64 a1_1] 23 (0, 0))) ∧ Aside0 (w'.heap[gb143]? = some (.cells #[.int .i64 t140, .int .i64 t141] 33 (0, 0))) ∧ Aside0 (w'.heap[gb148]? = some (.cells #[.int .i64 t145, .int .i64 t146] 33 (0, 0))) ∧ Aside0 (Below w.heap.size w w'))
         case atStart => exact ⟨(0), k92_, H', ⟨Nat.le_refl _⟩, ⟨k82_⟩, ⟨k83_⟩, ⟨by apply_rules only [HO_9.out, Kd.S_alloc, Kd.S_drewN, Kd.S_drew]⟩, ⟨k85_⟩, ⟨k86_⟩, ⟨k88_⟩, ⟨k89_⟩, ⟨k62_⟩⟩
         case round =>
          clear H'
          skip
          obtain ⟨x283_4, rfl, HA, HK4, HO_21, HO_25, HO_281, BK101, BK102, BK143, BK148, HB⟩ := hrel
          cases gk with
          | zero => exact absurd HA.out (by simp [laws_FnPatternsAnsweredOfAll.l0])
          | succ k4 =>
           have H := HA.out
           clear HA
           simp only [laws_FnPatternsAnsweredOfAll.l0] at H
           by_cases c137 : x283_4 < (t103.length : Int)
           ·rw [if_pos c137] at H
            have c137b0 : decide (x283_4 < (t103.length : Int)) = true := decide_eq_true c137
            clear c137
            by_cases c138 : 0 ≤ x283_4
            ·rw [if_pos c138] at H
             have c138b0 : decide (0 ≤ x283_4) = true := decide_eq_true c138
             clear c138
             by_cases c139 : x283_4 < (t103.length : Int)
             ·rw [if_pos c139] at H
              have c139b0 : decide (x283_4 < (t103.length : Int)) = true := decide_eq_true c139
              clear c139
              obtain ⟨⟨t168, t169⟩, A140, H⟩ := obnd_ H
              (try dsimp only at H)
              obtain ⟨⟨t170, t171⟩, A141, H⟩ := obnd_ H
              (try dsimp only at H)
              by_cases c142 : t169 = true
              ·subst c142
               rw [if_pos rfl] at H
               by_cases c143 : t168 = true
               ·subst c143
                rw [if_pos rfl] at H
                by_cases c144 : ((rd_Rules t103 x283_4).length : Int) = a0_1
                ·rw [if_pos c144] at H
                 have c144b0 : (((rd_Rules t103 x283_4).length : Int) == a0_1) = true := beq_iff_eq.mpr c144
                 have c144b1 : (((rd_Rules t103 x283_4).length : Int) != a0_1) = false := bne_eq_false_iff_eq.mpr c144
                 clear c144
                 by_cases c145 : t171 = true
                 ·subst c145
                  rw [if_pos rfl] at H
                  have H' := Aside0.mk H
                  clear H
                  have p167 : 0 ≤ (x283_4 : Int) := of_decide_eq_true k91_
                  have q167 : x283_4 < (t103.length : Int) := of_decide_eq_true k91_
                  obtain ⟨ad167, A167_0, c167_0, e167, hx167_0, hl167_0, hi167_0⟩ := at_Rules (Kd.S_reads' HO_281.out).2.2 x283_4 p167 q167
                  cases e167
                  obtain ⟨ce167, hce167, hMe167, hcc167⟩ := Kd.S_get HO_281.out [] x283_4 p167 (by first | exact q167 | exact of_decide_eq_true k91_ | (have e_ := (Kd.S_reads' HO_281.out).1; omega))
                  obtain ⟨ve167_0, rfl, ge167_0⟩ := hMe167
                  have hv167_0 := hcc167 0 _ rfl
                  rw [Nat.add_zero, show ((Kd.slice 33 kRule)).sz = 1 from rfl, Nat.mul_one] at hv167_0
                  replace hv167_0 := Option.some.inj (hv167_0.symm.trans hx167_0)
                  rw [hv167_0] at ge167_0
                  have HL167_0 := Aside0.mk (show Kd.R kRule 33 _ _ _ _ (rd_Rules t103 x283_4) from ge167_0)
                  clear hv167_0 ge167_0
                  clear hcc167 hce167
                  have HR167_0 := Aside0.mk hi167_0
                  have HC167_0 := Aside0.mk hl167_0
                  clear hi167_0 hl167_0
                  replace p167 := eq_true p167
                  replace q167 := eq_true q167
                  have hnb146 := NB101_102.out
                  have hnc146 := NB102_101.out
                  have hnb147 := NB101_143.out
                  have hnc147 := NB143_101.out
                  have hnb148 := NB101_148.out
                  have hnc148 := NB148_101.out
                  have hcz149_0 : wr.cell? ⟨gb101, 0, none⟩ = some (.string a0_0) := (blk_cell BK101.out 0).trans rfl
                  have hcz149_1 : wr.cell? ⟨gb101, 1, none⟩ = some (.int .i64 a0_1) := (blk_cell BK101.out 1).trans rfl
                  have hfz149_0 := blk_frozen BK101.out 0
                  have hfz149_1 := blk_frozen BK101.out 1
                  go_wp2_with (first | ((with_reducible refine gate_callee (f := 23) rfl ?_); refine goesL_ (some 290) rfl rfl Tryz.func23 (by kernel_rfl) rfl #[.agg #[.string a0_0, .int .i64 a0_1], .slice A167_0 (rd_Rules t103 x283_4).length c167_0] rfl k59_ ?_; (with_reducible refine (impl_IsAnswer.calls k4 a0_0 a0_1 _ _ (rd_Rules t103 x283_4) true true _ ?side1 ?side2 A140.out).mono ?_); (case side1 => exact k17_); (case side2 => exact HC167_0.out); rintro e w150 ⟨rfl, hb⟩; refine ⟨_, rfl, ?_⟩; replace HO_21 := HO_21.mw hb; replace HO_25 := HO_25.mw hb; replace HO_281 := HO_281.mw hb; replace HL167_0 := HL167_0.mw hb; replace BK101 := BK101.mw hb; replace BK102 := BK102.mw hb; replace BK143 := BK143.mw hb; replace BK148 := BK148.mw hb; replace HR167_0 := Aside0.mk (Kd.C_below k43_ hb); replace HB := Aside0.mk (below_step k62_ hb); (try clear hb); have hcz151_0 : w150.cell? ⟨gb101, 0, none⟩ = some (.string a0_0) := (blk_cell BK101.out 0).trans rfl; have hcz151_1 : w150.cell? ⟨gb101, 1, none⟩ = some (.int .i64 a0_1) := (blk_cell BK101.out 1).trans rfl; have hfz151_0 := blk_frozen BK101.out 0; have hfz151_1 := blk_frozen BK101.out 1) | ((with_reducible refine gate_callee (f := 24) rfl ?_); refine goesL_ (some 298) rfl rfl Tryz.func24 (by kernel_rfl) rfl #[.slice A167_0 (rd_Rules t103 x283_4).length c167_0, .int .i64 (a0_0.size : Int)] rfl k59_ ?_; (with_reducible refine (impl_PatternOf.calls k4 _ _ (rd_Rules t103 x283_4) (a0_0.size : Int) t170 true _ ?side1 ?side2 A141.out).mono ?_); (case side1 => exact k17_); (case side2 => exact HC167_0.out); rintro e w152 ⟨rfl, hb⟩; refine ⟨_, rfl, ?_⟩; replace HO_21 := HO_21.mw hb; replace HO_25 := HO_25.mw hb; replace HO_281 := HO_281.mw hb; replace HL167_0 := HL167_0.mw hb; replace BK101 := BK101.mw hb; replace BK102 := BK102.mw hb; replace BK143 := BK143.mw hb; replace BK148 := BK148.mw hb; replace HR167_0 := Aside0.mk (Kd.C_below k43_ hb); replace HB := Aside0.mk (below_step k62_ hb); (try clear hb); have hcz153_0 : w152.cell? ⟨gb101, 0, none⟩ = some (.string a0_0) := (blk_cell BK101.out 0).trans rfl; have hcz153_1 : w152.cell? ⟨gb101, 1, none⟩ = some (.int .i64 a0_1) := (blk_cell BK101.out 1).trans rfl; have hfz153_0 := blk_frozen BK101.out 0; have hfz153_1 := blk_frozen BK101.out 1))
                  go_loopg [] k4 (fun kq w' => ∃ (pn : Nat), Aside0 (w'.heap[w152.heap.size]? = some (.stringIter t170 pn)) ∧ Aside0 (laws_FnPatternsAnsweredOfAll.l1 kq l2 a3 t111 t123 t131 t139 t142 t149 t150 (rd_Rules t103 x283_4) t170 t103 (t103.length : Int) x283_4 (t170.size : Int) (pn : Int) a0_0 a0_1 a1_0 a1_1 t140 t141 = some true) ∧ Aside0 (kq ≤ k4) ∧ Aside0 (Below w152.heap.size w152 w'))
                  case atStart => exact ⟨0, ⟨World.iter_heap w152 t170 0⟩, H', ⟨Nat.le_refl _⟩, ⟨(Below.refl _ w152).alloc (Nat.le_refl _) _⟩⟩
                  case round =>
                   clear H'
                   skip
                   obtain ⟨pn, HIT, HA, HK5, HBA⟩ := hrel
                   obtain ⟨x320_5, hpn⟩ : ∃ z : Int, z = (pn : Int) := ⟨_, rfl⟩
                   rw [← hpn] at HA
                   cases gk with
                   | zero => exact absurd HA.out (by simp [laws_FnPatternsAnsweredOfAll.l1])
                   | succ k5 =>
                    have H := HA.out
                    clear HA
                    simp only [laws_FnPatternsAnsweredOfAll.l1] at H
                    by_cases c154 : x320_5 < (t170.size : Int)
                    ·rw [if_pos c154] at H
                     by_cases cAsc : (bt t170 x320_5) < 128
                     ·rw [if_pos cAsc] at H
                      have hps : pn < t170.size := by omega
                      have hnx : ∀ ty, (Instr.next (.pointer (some ⟨w152.heap.size, 0, none⟩)) true ty).run Tryz.prog wr = _ := fun ty => Lib.run_next_ascii_at wr w152.heap.size t170 pn ty HIT.out hps (by have h_ := bt_get t170 pn hps; rw [← hpn] at h_; omega)
                      replace HBA := Aside0.mk (Lib.below_iterAt HBA.out (Nat.le_refl _) t170 (pn + 1))
                      replace HIT := Aside0.mk (Lib.iterAt_heap wr w152.heap.size t170 pn (pn + 1) HIT.out)
                      generalize wr.iterAt w152.heap.size t170 (pn + 1) = wX at hnx HBA HIT
                      rw [← hpn] at hnx
                      have HPN := Aside0.mk hpn
                      clear hpn cAsc
                      replace HO_21 := HO_21.mw HBA.out
                      replace HO_25 := HO_25.mw HBA.out
                      replace HO_281 := HO_281.mw HBA.out
                      replace BK101 := BK101.mw HBA.out
                      replace BK102 := BK102.mw HBA.out
                      replace BK143 := BK143.mw HBA.out
                      replace BK148 := BK148.mw HBA.out
                      replace HR167_0 := Aside0.mk (Kd.C_below HR167_0.out HBA.out)
                      replace HB := Aside0.mk (below_step HB.out HBA.out)
                      have c154b0 : decide (x320_5 < (t170.size : Int)) = true := decide_eq_true c154
                      clear c154
                      by_cases c155 : 0 ≤ x320_5
                      ·rw [if_pos c155] at H
                       have c155b0 : decide (0 ≤ x320_5) = true := decide_eq_true c155
                       clear c155
                       by_cases c156 : x320_5 < (a0_0.size : Int)
                       ·rw [if_pos c156] at H
                        have c156b0 : decide (x320_5 < (a0_0.size : Int)) = true := decide_eq_true c156
                        clear c156
                        by_cases c158 : (bt a0_0 x320_5) = 63
                        ·rw [if_pos c158] at H
                         have c158b0 : ((bt a0_0 x320_5) == 63) = true := beq_iff_eq.mpr c158
                         have c158b1 : ((bt a0_0 x320_5) != 63) = false := bne_eq_false_iff_eq.mpr c158
                         clear c158
                         have H' := Aside0.mk H
                         clear H
                         try go_wp2
                         replace HO_21 := Aside0.mk (Kd.R_drew HO_21.out)
                         replace HO_25 := Aside0.mk (Kd.R_drew HO_25.out)
                         replace HO_281 := Aside0.mk (Kd.S_drew HO_281.out)
                         replace BK101 := Aside0.mk (blk_drew BK101.out)
                         replace BK102 := Aside0.mk (blk_drew BK102.out)
                         replace BK143 := Aside0.mk (blk_drew BK143.out)
                         replace BK148 := Aside0.mk (blk_drew BK148.out)
                         replace HR167_0 := Aside0.mk (Kd.C_drew HR167_0.out)
                         replace HB := Aside0.mk (below_drew1 HB.out)
                         replace HIT := Aside0.mk (blk_drew HIT.out)
                         replace HBA := Aside0.mk (below_drew1 HBA.out)
                         have p157 : 0 ≤ (x320_5 : Int) := of_decide_eq_true k91_
                         have q157 : x320_5 < (a0_0.size : Int) := of_decide_eq_true k91_
                         have hx157 := bt_at a0_0 x320_5
                         replace p157 := eq_true p157
                         replace q157 := eq_true q157
                         refine start_ (n := 15) (S := fun w' => w'.cell? ⟨gb101, 0, none⟩ = some (.string a0_0) ∧ w'.cell? ⟨gb101, 1, none⟩ = some (.int .i64 a0_1)) (ds := []) (rA_ [0, 15]) (by kernel_rfl) rfl rfl ⟨(blk_cell BK101.out 0).trans rfl, (blk_cell BK101.out 1).trans rfl⟩ (fun hHeld => ?_); refine with_tabW laws_FnPatternsAnsweredOfAll.tab32 laws_FnPatternsAnsweredOfAll.bits32 (fun HT_ HW_ => ?_)
                         generalize wX.drew = w159 at HO_21 HO_25 HO_281 BK101 BK102 BK143 BK148 HR167_0 HB HIT HBA hHeld ⊢
                         refine pu_ 0 323 [1, 14] ?_
                         refine pu_ 2 325 [1, 1, 1, 12] ?_
                         refine ta2_ 1 324 [3, 12] ?_
                         refine ta2_ 3 326 [4, 11] ?_
                         refine pu_ 4 327 [5, 10] ?_
                         refine pu_ 5 328 [6, 9] ?_
                         refine pz_ 6 329 [7, 8] ?_
                         refine pz_ 7 330 [8, 7] ?_
                         refine pz_ 8 331 [9, 6] ?_
                         refine pz_ 9 332 [10, 5] ?_
                         refine pz_ 10 333 [11, 4] ?_
                         refine pz_ 11 334 [12, 3] ?_
                         refine pz_ 12 335 [13, 2] ?_
                         refine pz_ 13 336 [14, 1] ?_
                         refine pu_ 14 337 [15] ?_
                         refine done_ (done_of HT_.out (by kernel_rfl)) ?_
                         try go_wp2
                         go_roundg k5
                         case measure => have := HJ4.out; have := HJ23.out; have := HJ126.out; have := HK4.out; have := HK5.out; omega
                         case rel => exact ⟨pn + 1, HIT, (by have h_ := H'.out; rw [HPN.out, show ((pn : Int) + 1) = ((pn + 1 : Nat) : Int) by omega] at h_; exact ⟨h_⟩), ⟨by have := HJ4.out; have := HJ23.out; have := HJ126.out; have := HK4.out; have := HK5.out; omega⟩, HBA⟩
                        ·rw [if_neg c158] at H
                         have c158b0 : ((bt a0_0 x320_5) == 63) = false := beq_eq_false_iff_ne.mpr c158
                         have c158b1 : ((bt a0_0 x320_5) != 63) = true := bne_iff_ne.mpr c158
                         by_cases c161 : x320_5 < (t170.size : Int)
                         ·rw [if_pos c161] at H
                          have c161b0 : decide (x320_5 < (t170.size : Int)) = true := decide_eq_true c161
                          clear c161
                          by_cases c163 : (bt a0_0 x320_5) = (bt t170 x320_5)
                          ·rw [if_pos c163] at H
                           have c163b0 : ((bt a0_0 x320_5) == (bt t170 x320_5)) = true := beq_iff_eq.mpr c163
                           have c163b1 : ((bt a0_0 x320_5) != (bt t170 x320_5)) = false := bne_eq_false_iff_eq.mpr c163
                           clear c163
                           have H' := Aside0.mk H
                           clear H
                           try go_wp2
                           replace HO_21 := Aside0.mk (Kd.R_drew HO_21.out)
                           replace HO_25 := Aside0.mk (Kd.R_drew HO_25.out)
                           replace HO_281 := Aside0.mk (Kd.S_drew HO_281.out)
                           replace BK101 := Aside0.mk (blk_drew BK101.out)
                           replace BK102 := Aside0.mk (blk_drew BK102.out)
                           replace BK143 := Aside0.mk (blk_drew BK143.out)
                           replace BK148 := Aside0.mk (blk_drew BK148.out)
                           replace HR167_0 := Aside0.mk (Kd.C_drew HR167_0.out)
                           replace HB := Aside0.mk (below_drew1 HB.out)
                           replace HIT := Aside0.mk (blk_drew HIT.out)
                           replace HBA := Aside0.mk (below_drew1 HBA.out)
                           have p157 : 0 ≤ (x320_5 : Int) := of_decide_eq_true k91_
                           have q157 : x320_5 < (a0_0.size : Int) := of_decide_eq_true k91_
                           have hx157 := bt_at a0_0 x320_5
                           replace p157 := eq_true p157
                           replace q157 := eq_true q157
                           have p160 : 0 ≤ (x320_5 : Int) := of_decide_eq_true k91_
                           have q160 : x320_5 < (a0_0.size : Int) := of_decide_eq_true k91_
                           have hx160 := bt_at a0_0 x320_5
                           replace p160 := eq_true p160
                           replace q160 := eq_true q160
                           have p162 : 0 ≤ (x320_5 : Int) := of_decide_eq_true k91_
                           have q162 : x320_5 < (t170.size : Int) := of_decide_eq_true k91_
                           have hx162 := bt_at t170 x320_5
                           replace p162 := eq_true p162
                           replace q162 := eq_true q162
                           refine start_ (n := 15) (S := fun w' => w'.cell? ⟨gb101, 0, none⟩ = some (.string a0_0) ∧ w'.cell? ⟨gb101, 1, none⟩ = some (.int .i64 a0_1)) (ds := []) (rA_ [0, 15]) (by kernel_rfl) rfl rfl ⟨(blk_cell BK101.out 0).trans rfl, (blk_cell BK101.out 1).trans rfl⟩ (fun hHeld => ?_); refine with_tabW laws_FnPatternsAnsweredOfAll.tab32 laws_FnPatternsAnsweredOfAll.bits32 (fun HT_ HW_ => ?_)
                           generalize wX.drew = w164 at HO_21 HO_25 HO_281 BK101 BK102 BK143 BK148 HR167_0 HB HIT HBA hHeld ⊢
                           refine pu_ 0 323 [1, 14] ?_
                           refine pu_ 2 325 [1, 1, 1, 12] ?_
                           refine ta2_ 1 324 [3, 12] ?_
                           refine ta2_ 3 326 [4, 11] ?_
                           refine pu_ 4 327 [5, 10] ?_
                           refine pu_ 5 328 [6, 9] ?_
                           refine pu_ 6 329 [7, 8] ?_
                           refine pu_ 8 331 [7, 1, 1, 6] ?_
                           refine pu_ 10 333 [7, 1, 1, 1, 1, 4] ?_
                           refine pu_ 11 334 [7, 1, 1, 1, 2, 3] ?_
                           refine ta2_ 7 330 [9, 1, 2, 3] ?_
                           refine ta2_ 9 332 [12, 3] ?_
                           refine ta2_ 12 335 [13, 2] ?_
                           refine pu_ 13 336 [14, 1] ?_
                           refine pu_ 14 337 [15] ?_
                           refine done_ (done_of HT_.out (by kernel_rfl)) ?_
                           try go_wp2
                           go_roundg k5
                           case measure => have := HJ4.out; have := HJ23.out; have := HJ126.out; have := HK4.out; have := HK5.out; omega
                           case rel => exact ⟨pn + 1, HIT, (by have h_ := H'.out; rw [HPN.out, show ((pn : Int) + 1) = ((pn + 1 : Nat) : Int) by omega] at h_; exact ⟨h_⟩), ⟨by have := HJ4.out; have := HJ23.out; have := HJ126.out; have := HK4.out; have := HK5.out; omega⟩, HBA⟩
                          ·rw [if_neg c163] at H
                           have c163b0 : ((bt a0_0 x320_5) == (bt t170 x320_5)) = false := beq_eq_false_iff_ne.mpr c163
                           have c163b1 : ((bt a0_0 x320_5) != (bt t170 x320_5)) = true := bne_iff_ne.mpr c163
                           exact absurd H (by simp)
                         ·rw [if_neg c161] at H
                          exact absurd H (by simp)
                       ·rw [if_neg c156] at H
                        exact absurd H (by simp)
                      ·rw [if_neg c155] at H
                       exact absurd H (by simp)
                     ·rw [if_neg cAsc] at H
                      exact absurd H (by simp)
                    ·rw [if_neg c154] at H
                     have c154b0 : decide (x320_5 < (t170.size : Int)) = false := decide_eq_false c154
                     have hps : ¬ pn < t170.size := by omega
                     have hnx : ∀ ty, (Instr.next (.pointer (some ⟨w152.heap.size, 0, none⟩)) true ty).run Tryz.prog wr = _ := fun ty => Lib.run_next_end_at wr w152.heap.size t170 pn ty HIT.out hps
                     replace HO_21 := HO_21.mw HBA.out
                     replace HO_25 := HO_25.mw HBA.out
                     replace HO_281 := HO_281.mw HBA.out
                     replace BK101 := BK101.mw HBA.out
                     replace BK102 := BK102.mw HBA.out
                     replace BK143 := BK143.mw HBA.out
                     replace BK148 := BK148.mw HBA.out
                     replace HB := Aside0.mk (below_step HB.out HBA.out)
                     clear c154
                     have H' := Aside0.mk H
                     clear H
                     go_wp2
                     go_loopg [340] k5 (fun kq v340 w' => ∃ (x340_6 : Int), v340 = .int .i64 x340_6 ∧ Aside0 (laws_FnPatternsAnsweredOfAll.l2 kq l2 a3 t111 t123 t131 t139 t142 t149 t150 (rd_Rules t103 x283_4) t103 (t103.length : Int) x283_4 (rd_Rules t103 x283_4) ((rd_Rules t103 x283_4).length : Int) x340_6 a0_0 a0_1 a1_0 a1_1 t140 t141 = some true) ∧ Aside0 (kq ≤ k5) ∧ Aside0 (Kd.R kRule 33 w' w.heap.size (fun k_ => some k_ ≠ (v132 : Value).ownBlock ∧ k_ ≠ gb143 ∧ k_ ≠ gb148) v124 t123) ∧ Aside0 (Kd.R kRule 33 w' w.heap.size (fun k_ => some k_ ≠ (v124 : Value).ownBlock ∧ k_ ≠ gb143 ∧ k_ ≠ gb148) v132 t131) ∧ Aside0 (Kd.S (Kd.slice 33 kRule) 24 w' w.heap.size (fun k_ => some k_ ≠ (v124 : Value).ownBlock ∧ some k_ ≠ (v132 : Value).ownBlock ∧ k_ ≠ gb143 ∧ k_ ≠ gb148) (.slice (some ad167) t103.length co136) t103) ∧ Aside0 (w'.heap[gb101]? = some (.cells #[.string a0_0, .int .i64 a0_1] 23 (0, 0))) ∧ Aside0 (w'.heap[gb102]? = some (.cells #[.string a1_0, .int .i64 a1_1] 23 (0, 0))) ∧ Aside0 (w'.heap[gb143]? = some (.cells #[.int .i64 t140, .int .i64 t141] 33 (0, 0))) ∧ Aside0 (w'.heap[gb148]? = some (.cells #[.int .i64 t145, .int .i64 t146] 33 (0, 0))) ∧ Aside0 (Below w.heap.size w w') ∧ Aside0 (Below w152.heap.size w152 w'))
                     case atStart => exact ⟨(0), k92_, H', ⟨Nat.le_refl _⟩, ⟨k82_⟩, ⟨k83_⟩, ⟨k75_⟩, ⟨k85_⟩, ⟨k86_⟩, ⟨k88_⟩, ⟨k89_⟩, ⟨k62_⟩, ⟨(by first | exact HBA.out | (apply_rules only [HBA.out, below_alloc, pw_below_drewN, below_drew1]; done) | (apply_rules only [HBA.out, below_alloc, pw_below_drewN, below_drew1, below_set, GQ0_.out]; done))⟩⟩
                     case round =>
                      clear H'
                      (try clear c124); (try clear c126); (try clear c135); (try clear c137); (try clear c137b0); (try clear c138); (try clear c138b0); (try clear c139); (try clear c139b0); (try clear c142); (try clear c143); (try clear c144); (try clear c144b0); (try clear c144b1); (try clear c145); (try clear c154); (try clear c154b0); (try clear hcz149_0); (try clear hcz149_1); (try clear hcz151_0); (try clear hcz151_1); (try clear hcz153_0); (try clear hcz153_1); (try clear hfz149_0); (try clear hfz149_1); (try clear hfz151_0); (try clear hfz151_1); (try clear hfz153_0); (try clear hfz153_1); (try clear hx167_0); (try clear p167); (try clear q167)
                      obtain ⟨x340_6, rfl, HA, HK6, HO_21, HO_25, HO_281, BK101, BK102, BK143, BK148, HB, HBA⟩ := hrel
                      cases gk with
                      | zero => exact absurd HA.out (by simp [laws_FnPatternsAnsweredOfAll.l2])
                      | succ k6 =>
                       have H := HA.out
                       clear HA
                       simp only [laws_FnPatternsAnsweredOfAll.l2] at H
                       by_cases c165 : x340_6 < ((rd_Rules t103 x283_4).length : Int)
                       ·rw [if_pos c165] at H
                        have c165b0 : decide (x340_6 < ((rd_Rules t103 x283_4).length : Int)) = true := decide_eq_true c165
                        clear c165
                        by_cases c166 : 0 ≤ x340_6
                        ·rw [if_pos c166] at H
                         have c166b0 : decide (0 ≤ x340_6) = true := decide_eq_true c166
                         clear c166
                         by_cases c167 : x340_6 < ((rd_Rules t103 x283_4).length : Int)
                         ·rw [if_pos c167] at H
                          have c167b0 : decide (x340_6 < ((rd_Rules t103 x283_4).length : Int)) = true := decide_eq_true c167
                          clear c167
                          by_cases c168 : x340_6 > 0
                          ·rw [if_pos c168] at H
                           have c168b0 : decide (0 < x340_6) = true := decide_eq_true c168
                           clear c168
                           obtain ⟨ji169, hji169⟩ : ∃ j_ : Int, (wrap64 (x340_6 - 1)) = j_ := ⟨_, rfl⟩
                           replace H : (if 0 ≤ (ji169) then (if (ji169) < ((rd_Rules t103 x283_4).length : Int) then ((laws_gRuleBefore.f ((rd_Rule (rd_Rules t103 x283_4) (ji169)).f0) ((rd_Rule (rd_Rules t103 x283_4) (ji169)).f1) ((rd_Rule (rd_Rules t103 x283_4) x340_6).f0) ((rd_Rule (rd_Rules t103 x283_4) x340_6).f1)).bind fun t175 => (if t175 = true then ((laws_gIn.f k6 t131 ((rd_Rule (rd_Rules t103 x283_4) x340_6).f0) ((rd_Rule (rd_Rules t103 x283_4) x340_6).f1)).bind fun t176 => (if t176 = true then (laws_FnPatternsAnsweredOfAll.l2 k6 l2 a3 t111 t123 t131 t139 t142 t149 t150 (rd_Rules t103 x283_4) t103 (t103.length : Int) x283_4 (rd_Rules t103 x283_4) ((rd_Rules t103 x283_4).length : Int) (wrap64 (x340_6 + 1)) a0_0 a0_1 a1_0 a1_1 t140 t141) else (some false))) else (some false))) else (none)) else (none)) = some true := by first | (rw [hji169] at H; exact H) | (simp only [hji169] at H ⊢; exact H)
                           have hji169w : (IntKind.i64.wrap (x340_6 - 1)) = ji169 := (i64_w _).trans hji169
                           by_cases c170 : 0 ≤ (ji169)
                           ·rw [if_pos c170] at H
                            have c170b0 : decide (0 ≤ (ji169)) = true := decide_eq_true c170
                            clear c170
                            by_cases c171 : (ji169) < ((rd_Rules t103 x283_4).length : Int)
                            ·rw [if_pos c171] at H
                             have c171b0 : decide ((ji169) < ((rd_Rules t103 x283_4).length : Int)) = true := decide_eq_true c171
                             clear c171
                             obtain ⟨t175, A172, H⟩ := obnd_ H
                             (try dsimp only at H)
                             by_cases c173 : t175 = true
                             ·subst c173
                              rw [if_pos rfl] at H
                              obtain ⟨t176, A174, H⟩ := obnd_ H
                              (try dsimp only at H)
                              by_cases c175 : t176 = true
                              ·subst c175
                               rw [if_pos rfl] at H
                               have H' := Aside0.mk H
                               clear H
                               have p172 : 0 ≤ (x340_6 : Int) := of_decide_eq_true k91_
                               have q172 : x340_6 < ((rd_Rules t103 x283_4).length : Int) := of_decide_eq_true k91_
                               obtain ⟨ad172, e172, hx172_0, hx172_1⟩ := at_Rule HR167_0.out x340_6 p172 q172
                               cases e172
                               replace hx172_0 := (HBA.out.cell (World.block_lt_of_cell? w152 _ hx172_0)).trans hx172_0
                               replace hx172_1 := (HBA.out.cell (World.block_lt_of_cell? w152 _ hx172_1)).trans hx172_1
                               replace p172 := eq_true p172
                               replace q172 := eq_true q172
                               try go_wp2_with (first | ((with_reducible refine gate_dst (N := 47) rfl ?_); (try (refine gate_guard (by rfl) ?_; dsimp only)); refine box_event ?hg (N := 47) ?hd (cs := #[.int .i64 0, .int .i64 0]) (t := 33) ?hr ?_; (case hd => rfl); (case hg => rfl); (case hr => exact k94_); intro gb173 hg w176 hbox hb; replace HO_21 := Aside0.mk (Kd.R_below (Kd.R_elderB k82_ gb173 (Nat.le_of_eq hg.symm)) hb); replace HO_25 := Aside0.mk (Kd.R_below (Kd.R_elderB k83_ gb173 (Nat.le_of_eq hg.symm)) hb); replace HO_281 := Aside0.mk (Kd.S_below (Kd.S_elderB k75_ gb173 (Nat.le_of_eq hg.symm)) hb); have BK173 := Aside0.mk (hbox); have GW173 := Aside0.mk ((by rw [hg]; exact (below_size k62_) : w.heap.size ≤ gb173)); have GE173 := Aside0.mk ((by rw [hg]; exact (below_size k62_) : w.heap.size ≤ gb173)); have GQ0_ := Aside0.mk ((by rw [hg]; exact (below_size (by first | exact HBA.out | (apply_rules only [HBA.out, below_alloc, pw_below_drewN, below_drew1]; done) | (apply_rules only [HBA.out, below_alloc, pw_below_drewN, below_drew1, below_set, GQ0_.out]; done))) : w152.heap.size ≤ gb173)); replace HB := Aside0.mk (below_step k62_ hb); replace HBA := Aside0.mk (below_step (by first | exact HBA.out | (apply_rules only [HBA.out, below_alloc, pw_below_drewN, below_drew1]; done) | (apply_rules only [HBA.out, below_alloc, pw_below_drewN, below_drew1, below_set, GQ0_.out]; done)) hb); have NB101_173 := Aside0.mk (BK101.ne hg); have NB173_101 := Aside0.mk (BK101.ne hg).symm; replace BK101 := BK101.mw hb; have NB102_173 := Aside0.mk (BK102.ne hg); have NB173_102 := Aside0.mk (BK102.ne hg).symm; replace BK102 := BK102.mw hb; have NB143_173 := Aside0.mk (BK143.ne hg); have NB173_143 := Aside0.mk (BK143.ne hg).symm; replace BK143 := BK143.mw hb; have NB148_173 := Aside0.mk (BK148.ne hg); have NB173_148 := Aside0.mk (BK148.ne hg).symm; replace BK148 := BK148.mw hb; clear hb hbox hg; have hnb177 := NB173_101.out; have hnc177 := NB101_173.out; have hnb178 := NB173_102.out; have hnc178 := NB102_173.out; have hnb179 := NB173_143.out; have hnc179 := NB143_173.out; have hnb180 := NB173_148.out; have hnc180 := NB148_173.out; have hcz181_0 : w176.cell? ⟨gb173, 0, none⟩ = some (.int .i64 0) := (blk_cell BK173.out 0).trans rfl; have hcz181_1 : w176.cell? ⟨gb173, 1, none⟩ = some (.int .i64 0) := (blk_cell BK173.out 1).trans rfl; have hfz181_0 := blk_frozen BK173.out 0; have hfz181_1 := blk_frozen BK173.out 1))
                               have n0_ : Aside0 (Kd.R kRule 33 ((w176.setCell ⟨gb173, 0, none⟩ (.int .i64 ((rd_Rule (rd_Rules t103 x283_4) x340_6).f0))).setCell ⟨gb173, 1, none⟩ (.int .i64 ((rd_Rule (rd_Rules t103 x283_4) x340_6).f1))) w.heap.size (fun k_ => some k_ ≠ (v132 : Value).ownBlock ∧ k_ ≠ gb143 ∧ k_ ≠ gb148 ∧ k_ ≠ gb173) v124 t123) := ⟨k3_⟩
                               have n1_ : Aside0 (Kd.R kRule 33 ((w176.setCell ⟨gb173, 0, none⟩ (.int .i64 ((rd_Rule (rd_Rules t103 x283_4) x340_6).f0))).setCell ⟨gb173, 1, none⟩ (.int .i64 ((rd_Rule (rd_Rules t103 x283_4) x340_6).f1))) w.heap.size (fun k_ => some k_ ≠ (v124 : Value).ownBlock ∧ k_ ≠ gb143 ∧ k_ ≠ gb148 ∧ k_ ≠ gb173) v132 t131) := ⟨k4_⟩
                               have n2_ : Aside0 (Kd.S (Kd.slice 33 kRule) 24 ((w176.setCell ⟨gb173, 0, none⟩ (.int .i64 ((rd_Rule (rd_Rules t103 x283_4) x340_6).f0))).setCell ⟨gb173, 1, none⟩ (.int .i64 ((rd_Rule (rd_Rules t103 x283_4) x340_6).f1))) w.heap.size (fun k_ => some k_ ≠ (v124 : Value).ownBlock ∧ some k_ ≠ (v132 : Value).ownBlock ∧ k_ ≠ gb143 ∧ k_ ≠ gb148 ∧ k_ ≠ gb173) (.slice (some ad167) t103.length co136) t103) := ⟨k1_⟩
                               have n3_ : Aside0 (((w176.setCell ⟨gb173, 0, none⟩ (.int .i64 ((rd_Rule (rd_Rules t103 x283_4) x340_6).f0))).setCell ⟨gb173, 1, none⟩ (.int .i64 ((rd_Rule (rd_Rules t103 x283_4) x340_6).f1))).heap[gb101]? = some (.cells #[.string a0_0, .int .i64 a0_1] 23 (0, 0))) := ⟨k24_⟩
                               have n4_ : Aside0 (((w176.setCell ⟨gb173, 0, none⟩ (.int .i64 ((rd_Rule (rd_Rules t103 x283_4) x340_6).f0))).setCell ⟨gb173, 1, none⟩ (.int .i64 ((rd_Rule (rd_Rules t103 x283_4) x340_6).f1))).heap[gb102]? = some (.cells #[.string a1_0, .int .i64 a1_1] 23 (0, 0))) := ⟨k26_⟩
                               have n5_ : Aside0 (((w176.setCell ⟨gb173, 0, none⟩ (.int .i64 ((rd_Rule (rd_Rules t103 x283_4) x340_6).f0))).setCell ⟨gb173, 1, none⟩ (.int .i64 ((rd_Rule (rd_Rules t103 x283_4) x340_6).f1))).heap[gb143]? = some (.cells #[.int .i64 t140, .int .i64 t141] 33 (0, 0))) := ⟨k28_⟩
                               have n6_ : Aside0 (((w176.setCell ⟨gb173, 0, none⟩ (.int .i64 ((rd_Rule (rd_Rules t103 x283_4) x340_6).f0))).setCell ⟨gb173, 1, none⟩ (.int .i64 ((rd_Rule (rd_Rules t103 x283_4) x340_6).f1))).heap[gb148]? = some (.cells #[.int .i64 t145, .int .i64 t146] 33 (0, 0))) := ⟨k30_⟩
                               have n7_ : Aside0 (((w176.setCell ⟨gb173, 0, none⟩ (.int .i64 ((rd_Rule (rd_Rules t103 x283_4) x340_6).f0))).setCell ⟨gb173, 1, none⟩ (.int .i64 ((rd_Rule (rd_Rules t103 x283_4) x340_6).f1))).heap[gb173]? = some (.cells #[.int .i64 ((rd_Rule (rd_Rules t103 x283_4) x340_6).f0), .int .i64 ((rd_Rule (rd_Rules t103 x283_4) x340_6).f1)] 33 (0, 0))) := ⟨k5_⟩
                               have n8_ : Aside0 (Below w.heap.size w ((w176.setCell ⟨gb173, 0, none⟩ (.int .i64 ((rd_Rule (rd_Rules t103 x283_4) x340_6).f0))).setCell ⟨gb173, 1, none⟩ (.int .i64 ((rd_Rule (rd_Rules t103 x283_4) x340_6).f1)))) := ⟨k60_⟩
                               have nA_ : Aside0 (Below w152.heap.size w152 ((w176.setCell ⟨gb173, 0, none⟩ (.int .i64 ((rd_Rule (rd_Rules t103 x283_4) x340_6).f0))).setCell ⟨gb173, 1, none⟩ (.int .i64 ((rd_Rule (rd_Rules t103 x283_4) x340_6).f1)))) := ⟨(by first | exact HBA.out | (apply_rules only [HBA.out, below_alloc, pw_below_drewN, below_drew1]; done) | (apply_rules only [HBA.out, below_alloc, pw_below_drewN, below_drew1, below_set, GQ0_.out]; done))⟩
                               (try clear HO_21)
                               (try clear HO_25)
                               (try clear HO_281)
                               (try clear BK101)
                               (try clear BK102)
                               (try clear BK143)
                               (try clear BK148)
                               (try clear BK173)
                               (try clear HB)
                               generalize ((w176.setCell ⟨gb173, 0, none⟩ (.int .i64 ((rd_Rule (rd_Rules t103 x283_4) x340_6).f0))).setCell ⟨gb173, 1, none⟩ (.int .i64 ((rd_Rule (rd_Rules t103 x283_4) x340_6).f1))) = w182 at n0_ n1_ n2_ n3_ n4_ n5_ n6_ n7_ n8_ nA_ ⊢
                               have HO_21 := n0_
                               have HO_25 := n1_
                               have HO_281 := n2_
                               have BK101 := n3_
                               have BK102 := n4_
                               have BK143 := n5_
                               have BK148 := n6_
                               have BK173 := n7_
                               have HB := n8_
                               replace HBA := nA_
                               clear nA_
                               clear n0_ n1_ n2_ n3_ n4_ n5_ n6_ n7_ n8_
                               replace HO_21 := Aside0.mk (Kd.R_drew HO_21.out)
                               replace HO_25 := Aside0.mk (Kd.R_drew HO_25.out)
                               replace HO_281 := Aside0.mk (Kd.S_drew HO_281.out)
                               replace BK101 := Aside0.mk (blk_drew BK101.out)
                               replace BK102 := Aside0.mk (blk_drew BK102.out)
                               replace BK143 := Aside0.mk (blk_drew BK143.out)
                               replace BK148 := Aside0.mk (blk_drew BK148.out)
                               replace BK173 := Aside0.mk (blk_drew BK173.out)
                               replace HB := Aside0.mk (below_drew1 HB.out); replace HBA := Aside0.mk (below_drew1 HBA.out)
                               have p174 : 0 ≤ ((ji169) : Int) := of_decide_eq_true k91_
                               have q174 : (ji169) < ((rd_Rules t103 x283_4).length : Int) := of_decide_eq_true k91_
                               obtain ⟨ad174, e174, hx174_0, hx174_1⟩ := at_Rule HR167_0.out (ji169) p174 q174
                               have hw174_1 := hx174_1
                               have hw174_0 := hx174_0
                               obtain rfl : ad172 = ad174 := (by injection e174)
                               replace hx174_0 := (HBA.out.cell (World.block_lt_of_cell? w152 _ hx174_0)).trans hx174_0
                               replace hx174_1 := (HBA.out.cell (World.block_lt_of_cell? w152 _ hx174_1)).trans hx174_1
                               replace p174 := eq_true p174
                               replace q174 := eq_true q174
                               refine start_ (n := 18) (S := fun w' => w'.cell? ⟨gb173, 0, none⟩ = some (.int .i64 ((rd_Rule (rd_Rules t103 x283_4) x340_6).f0)) ∧ w'.cell? ⟨gb173, 1, none⟩ = some (.int .i64 ((rd_Rule (rd_Rules t103 x283_4) x340_6).f1)) ∧ w'.cell? (ad172.add (((ji169)).toNat * 2)) = some (.int .i64 ((rd_Rule (rd_Rules t103 x283_4) (ji169)).f0)) ∧ w'.cell? ⟨(ad172.add (((ji169)).toNat * 2)).block, (ad172.add (((ji169)).toNat * 2)).off + 1, none⟩ = some (.int .i64 ((rd_Rule (rd_Rules t103 x283_4) (ji169)).f1))) (ds := []) (rA_ [0, 18]) (by kernel_rfl) rfl rfl ⟨(blk_cell BK173.out 0).trans rfl, (blk_cell BK173.out 1).trans rfl, ((HBA.out.cell (World.block_lt_of_cell? w152 _ hw174_0)).trans hw174_0), ((HBA.out.cell (World.block_lt_of_cell? w152 _ hw174_1)).trans hw174_1)⟩ (fun hHeld => ?_); refine with_tabW laws_FnPatternsAnsweredOfAll.tab37 laws_FnPatternsAnsweredOfAll.bits37 (fun HT_ HW_ => ?_)
                               generalize w182.drew = w183 at HO_21 HO_25 HO_281 BK101 BK102 BK143 BK148 BK173 HB HBA hx174_0 hx174_1 hHeld ⊢
                               refine pu_ 0 345 [1, 17] ?_
                               refine pu_ 1 346 [2, 16] ?_
                               refine pu_ 2 347 [3, 15] ?_
                               refine pu_ 3 348 [4, 14] ?_
                               refine pu_ 4 349 [5, 13] ?_
                               refine pu_ 5 350 [6, 12] ?_
                               refine pu_ 6 351 [7, 11] ?_
                               refine ta4_ 7 352 [8, 10] ?_
                               refine ta4_ 8 353 [9, 9] ?_
                               refine one_ (i := 9) (N := some 354) (rA_ [10, 8]) rfl rfl (one_of HT_.out (by kernel_rfl)) (by decide) (fun K hK => ?_)
                               refine goes_ Tryz.func25 (by kernel_rfl) rfl #[.agg #[.int .i64 ((rd_Rule (rd_Rules t103 x283_4) (ji169)).f0), .int .i64 ((rd_Rule (rd_Rules t103 x283_4) (ji169)).f1)], .agg #[.int .i64 ((rd_Rule (rd_Rules t103 x283_4) x340_6).f0), .int .i64 ((rd_Rule (rd_Rules t103 x283_4) x340_6).f1)]] (by rfl) rfl rfl (by (try simp only [List.map_toArray, List.map_cons, List.map_nil]); first | done | (simp only [hji169]; rfl) | rfl | (simp only [List.length_drop, List.length_take]; rfl)) ?_
                               with_reducible refine (laws_gRuleBefore.calls ((rd_Rule (rd_Rules t103 x283_4) (ji169)).f0) ((rd_Rule (rd_Rules t103 x283_4) (ji169)).f1) ((rd_Rule (rd_Rules t103 x283_4) x340_6).f0) ((rd_Rule (rd_Rules t103 x283_4) x340_6).f1) true _ A172.out).mono ?_
                               rintro e w184 ⟨rfl, hb⟩
                               refine ⟨_, rfl, ?_⟩
                               replace HO_21 := HO_21.mw hb
                               replace HO_25 := HO_25.mw hb
                               replace HO_281 := HO_281.mw hb
                               replace BK101 := BK101.mw hb
                               replace BK102 := BK102.mw hb
                               replace BK143 := BK143.mw hb
                               replace BK148 := BK148.mw hb
                               replace BK173 := BK173.mw hb
                               replace HB := Aside0.mk (below_step k60_ hb); replace HBA := Aside0.mk (below_step (by first | exact HBA.out | (apply_rules only [HBA.out, below_alloc, pw_below_drewN, below_drew1]; done) | (apply_rules only [HBA.out, below_alloc, pw_below_drewN, below_drew1, below_set, GQ0_.out]; done)) hb)
                               (try clear hb)
                               (try clear hb2)
                               (try clear hk)
                               (try clear hi)
                               obtain ⟨Ao185, co185, eo185⟩ := Kd.R_slice HO_25.out
                               (first | subst eo185 | (injection eo185 with f1_ f2_ f3_; have f4_ := f1_.symm; have f5_ := f3_.symm; clear f1_ f2_ f3_; subst f4_; subst f5_))
                               refine hK.out _ _ ⟨(blk_cell BK173.out 0).trans rfl, (blk_cell BK173.out 1).trans rfl, ((HBA.out.cell (World.block_lt_of_cell? w152 _ hw174_0)).trans hw174_0), ((HBA.out.cell (World.block_lt_of_cell? w152 _ hw174_1)).trans hw174_1)⟩ (fun hHeld => ?_)
                               clear hK K
                               refine nm_ 354 ?_
                               refine pu_ 10 355 [11, 7] ?_
                               refine pu_ 11 356 [12, 6] ?_
                               refine pu_ 12 357 [13, 5] ?_
                               refine pu_ 13 358 [14, 4] ?_
                               refine ta4_ 14 359 [15, 3] ?_
                               refine one_ (i := 15) (N := some 360) (rA_ [16, 2]) rfl rfl (one_of HT_.out (by kernel_rfl)) (by decide) (fun K hK => ?_)
                               refine goes_ Tryz.func26 (by kernel_rfl) rfl #[.slice Ao185 t131.length co185, .agg #[.int .i64 ((rd_Rule (rd_Rules t103 x283_4) x340_6).f0), .int .i64 ((rd_Rule (rd_Rules t103 x283_4) x340_6).f1)]] (by rfl) rfl rfl k59_ ?_
                               with_reducible refine (laws_gIn.calls k6 _ _ t131 ((rd_Rule (rd_Rules t103 x283_4) x340_6).f0) ((rd_Rule (rd_Rules t103 x283_4) x340_6).f1) true _ ?side1 ?side2 A174.out).mono ?_
                               (case side1 => exact k51_)
                               (case side2 => exact (Kd.R_reads' HO_25.out).2.1)
                               rintro e w186 ⟨rfl, hb⟩
                               refine ⟨_, rfl, ?_⟩
                               replace HO_21 := HO_21.mw hb
                               replace HO_25 := HO_25.mw hb
                               replace HO_281 := HO_281.mw hb
                               replace BK101 := BK101.mw hb
                               replace BK102 := BK102.mw hb
                               replace BK143 := BK143.mw hb
                               replace BK148 := BK148.mw hb
                               replace BK173 := BK173.mw hb
                               replace HB := Aside0.mk (below_step k60_ hb); replace HBA := Aside0.mk (below_step (by first | exact HBA.out | (apply_rules only [HBA.out, below_alloc, pw_below_drewN, below_drew1]; done) | (apply_rules only [HBA.out, below_alloc, pw_below_drewN, below_drew1, below_set, GQ0_.out]; done)) hb)
                               (try clear hb)
                               (try clear hb2)
                               (try clear hk)
                               (try clear hi)
                               refine hK.out _ _ ⟨(blk_cell BK173.out 0).trans rfl, (blk_cell BK173.out 1).trans rfl, ((HBA.out.cell (World.block_lt_of_cell? w152 _ hw174_0)).trans hw174_0), ((HBA.out.cell (World.block_lt_of_cell? w152 _ hw174_1)).trans hw174_1)⟩ (fun hHeld => ?_)
                               clear hK K
                               refine nm_ 360 ?_
                               refine pu_ 16 361 [17, 1] ?_
                               refine pu_ 17 362 [18] ?_
                               refine done_ (done_of HT_.out (by kernel_rfl)) ?_
                               try go_wp2
                               go_roundg k6
                               case measure => have := HJ4.out; have := HJ23.out; have := HJ126.out; have := HK4.out; have := HK5.out; have := HK6.out; omega
                               case rel => exact ⟨(wrap64 (x340_6 + 1)), k92_, H', ⟨by have := HJ4.out; have := HJ23.out; have := HJ126.out; have := HK4.out; have := HK5.out; have := HK6.out; omega⟩, ⟨by (with_reducible repeat (first | apply Kd.R_alloc | apply Kd.R_drewN | apply Kd.R_drew)); exact Kd.R_mono HO_21.out (fun _ hk => ⟨hk.1, ⟨hk.2.1, hk.2.2.1⟩⟩)⟩, ⟨by (with_reducible repeat (first | apply Kd.R_alloc | apply Kd.R_drewN | apply Kd.R_drew)); exact Kd.R_mono HO_25.out (fun _ hk => ⟨hk.1, ⟨hk.2.1, hk.2.2.1⟩⟩)⟩, ⟨by (with_reducible repeat (first | apply Kd.S_alloc | apply Kd.S_drewN | apply Kd.S_drew)); exact Kd.S_mono HO_281.out (fun _ hk => ⟨hk.1, ⟨hk.2.1, ⟨hk.2.2.1, hk.2.2.2.1⟩⟩⟩)⟩, ⟨k85_⟩, ⟨k86_⟩, ⟨k88_⟩, ⟨k89_⟩, ⟨k60_⟩, ⟨(by first | exact HBA.out | (apply_rules only [HBA.out, below_alloc, pw_below_drewN, below_drew1]; done) | (apply_rules only [HBA.out, below_alloc, pw_below_drewN, below_drew1, below_set, GQ0_.out]; done))⟩⟩
                              ·replace c175 := Bool.eq_false_iff.mpr c175
                               subst c175
                               rw [if_neg (show ¬ (false = true) by decide)] at H
                               exact absurd H (by simp)
                             ·replace c173 := Bool.eq_false_iff.mpr c173
                              subst c173
                              rw [if_neg (show ¬ (false = true) by decide)] at H
                              exact absurd H (by simp)
                            ·rw [if_neg c171] at H
                             exact absurd H (by simp)
                           ·rw [if_neg c170] at H
                            exact absurd H (by simp)
                          ·rw [if_neg c168] at H
                           have c168b0 : decide (0 < x340_6) = false := decide_eq_false c168
                           clear c168
                           obtain ⟨t177, A187, H⟩ := obnd_ H
                           (try dsimp only at H)
                           by_cases c188 : t177 = true
                           ·subst c188
                            rw [if_pos rfl] at H
                            have H' := Aside0.mk H
                            clear H
                            have p172 : 0 ≤ (x340_6 : Int) := of_decide_eq_true k91_
                            have q172 : x340_6 < ((rd_Rules t103 x283_4).length : Int) := of_decide_eq_true k91_
                            obtain ⟨ad172, e172, hx172_0, hx172_1⟩ := at_Rule HR167_0.out x340_6 p172 q172
                            cases e172
                            replace hx172_0 := (HBA.out.cell (World.block_lt_of_cell? w152 _ hx172_0)).trans hx172_0
                            replace hx172_1 := (HBA.out.cell (World.block_lt_of_cell? w152 _ hx172_1)).trans hx172_1
                            replace p172 := eq_true p172
                            replace q172 := eq_true q172
                            try go_wp2_with (first | ((with_reducible refine gate_dst (N := 47) rfl ?_); (try (refine gate_guard (by rfl) ?_; dsimp only)); refine box_event ?hg (N := 47) ?hd (cs := #[.int .i64 0, .int .i64 0]) (t := 33) ?hr ?_; (case hd => rfl); (case hg => rfl); (case hr => exact k94_); intro gb173 hg w189 hbox hb; replace HO_21 := Aside0.mk (Kd.R_below (Kd.R_elderB k82_ gb173 (Nat.le_of_eq hg.symm)) hb); replace HO_25 := Aside0.mk (Kd.R_below (Kd.R_elderB k83_ gb173 (Nat.le_of_eq hg.symm)) hb); replace HO_281 := Aside0.mk (Kd.S_below (Kd.S_elderB k75_ gb173 (Nat.le_of_eq hg.symm)) hb); have BK173 := Aside0.mk (hbox); have GW173 := Aside0.mk ((by rw [hg]; exact (below_size k62_) : w.heap.size ≤ gb173)); have GE173 := Aside0.mk ((by rw [hg]; exact (below_size k62_) : w.heap.size ≤ gb173)); have GQ0_ := Aside0.mk ((by rw [hg]; exact (below_size (by first | exact HBA.out | (apply_rules only [HBA.out, below_alloc, pw_below_drewN, below_drew1]; done) | (apply_rules only [HBA.out, below_alloc, pw_below_drewN, below_drew1, below_set, GQ0_.out]; done))) : w152.heap.size ≤ gb173)); replace HB := Aside0.mk (below_step k62_ hb); replace HBA := Aside0.mk (below_step (by first | exact HBA.out | (apply_rules only [HBA.out, below_alloc, pw_below_drewN, below_drew1]; done) | (apply_rules only [HBA.out, below_alloc, pw_below_drewN, below_drew1, below_set, GQ0_.out]; done)) hb); have NB101_173 := Aside0.mk (BK101.ne hg); have NB173_101 := Aside0.mk (BK101.ne hg).symm; replace BK101 := BK101.mw hb; have NB102_173 := Aside0.mk (BK102.ne hg); have NB173_102 := Aside0.mk (BK102.ne hg).symm; replace BK102 := BK102.mw hb; have NB143_173 := Aside0.mk (BK143.ne hg); have NB173_143 := Aside0.mk (BK143.ne hg).symm; replace BK143 := BK143.mw hb; have NB148_173 := Aside0.mk (BK148.ne hg); have NB173_148 := Aside0.mk (BK148.ne hg).symm; replace BK148 := BK148.mw hb; clear hb hbox hg; have hnb190 := NB173_101.out; have hnc190 := NB101_173.out; have hnb191 := NB173_102.out; have hnc191 := NB102_173.out; have hnb192 := NB173_143.out; have hnc192 := NB143_173.out; have hnb193 := NB173_148.out; have hnc193 := NB148_173.out; have hcz194_0 : w189.cell? ⟨gb173, 0, none⟩ = some (.int .i64 0) := (blk_cell BK173.out 0).trans rfl; have hcz194_1 : w189.cell? ⟨gb173, 1, none⟩ = some (.int .i64 0) := (blk_cell BK173.out 1).trans rfl; have hfz194_0 := blk_frozen BK173.out 0; have hfz194_1 := blk_frozen BK173.out 1))
                            have n0_ : Aside0 (Kd.R kRule 33 ((w189.setCell ⟨gb173, 0, none⟩ (.int .i64 ((rd_Rule (rd_Rules t103 x283_4) x340_6).f0))).setCell ⟨gb173, 1, none⟩ (.int .i64 ((rd_Rule (rd_Rules t103 x283_4) x340_6).f1))) w.heap.size (fun k_ => some k_ ≠ (v132 : Value).ownBlock ∧ k_ ≠ gb143 ∧ k_ ≠ gb148 ∧ k_ ≠ gb173) v124 t123) := ⟨k3_⟩
                            have n1_ : Aside0 (Kd.R kRule 33 ((w189.setCell ⟨gb173, 0, none⟩ (.int .i64 ((rd_Rule (rd_Rules t103 x283_4) x340_6).f0))).setCell ⟨gb173, 1, none⟩ (.int .i64 ((rd_Rule (rd_Rules t103 x283_4) x340_6).f1))) w.heap.size (fun k_ => some k_ ≠ (v124 : Value).ownBlock ∧ k_ ≠ gb143 ∧ k_ ≠ gb148 ∧ k_ ≠ gb173) v132 t131) := ⟨k4_⟩
                            have n2_ : Aside0 (Kd.S (Kd.slice 33 kRule) 24 ((w189.setCell ⟨gb173, 0, none⟩ (.int .i64 ((rd_Rule (rd_Rules t103 x283_4) x340_6).f0))).setCell ⟨gb173, 1, none⟩ (.int .i64 ((rd_Rule (rd_Rules t103 x283_4) x340_6).f1))) w.heap.size (fun k_ => some k_ ≠ (v124 : Value).ownBlock ∧ some k_ ≠ (v132 : Value).ownBlock ∧ k_ ≠ gb143 ∧ k_ ≠ gb148 ∧ k_ ≠ gb173) (.slice (some ad167) t103.length co136) t103) := ⟨k1_⟩
                            have n3_ : Aside0 (((w189.setCell ⟨gb173, 0, none⟩ (.int .i64 ((rd_Rule (rd_Rules t103 x283_4) x340_6).f0))).setCell ⟨gb173, 1, none⟩ (.int .i64 ((rd_Rule (rd_Rules t103 x283_4) x340_6).f1))).heap[gb101]? = some (.cells #[.string a0_0, .int .i64 a0_1] 23 (0, 0))) := ⟨k24_⟩
                            have n4_ : Aside0 (((w189.setCell ⟨gb173, 0, none⟩ (.int .i64 ((rd_Rule (rd_Rules t103 x283_4) x340_6).f0))).setCell ⟨gb173, 1, none⟩ (.int .i64 ((rd_Rule (rd_Rules t103 x283_4) x340_6).f1))).heap[gb102]? = some (.cells #[.string a1_0, .int .i64 a1_1] 23 (0, 0))) := ⟨k26_⟩
                            have n5_ : Aside0 (((w189.setCell ⟨gb173, 0, none⟩ (.int .i64 ((rd_Rule (rd_Rules t103 x283_4) x340_6).f0))).setCell ⟨gb173, 1, none⟩ (.int .i64 ((rd_Rule (rd_Rules t103 x283_4) x340_6).f1))).heap[gb143]? = some (.cells #[.int .i64 t140, .int .i64 t141] 33 (0, 0))) := ⟨k28_⟩
                            have n6_ : Aside0 (((w189.setCell ⟨gb173, 0, none⟩ (.int .i64 ((rd_Rule (rd_Rules t103 x283_4) x340_6).f0))).setCell ⟨gb173, 1, none⟩ (.int .i64 ((rd_Rule (rd_Rules t103 x283_4) x340_6).f1))).heap[gb148]? = some (.cells #[.int .i64 t145, .int .i64 t146] 33 (0, 0))) := ⟨k30_⟩
                            have n7_ : Aside0 (((w189.setCell ⟨gb173, 0, none⟩ (.int .i64 ((rd_Rule (rd_Rules t103 x283_4) x340_6).f0))).setCell ⟨gb173, 1, none⟩ (.int .i64 ((rd_Rule (rd_Rules t103 x283_4) x340_6).f1))).heap[gb173]? = some (.cells #[.int .i64 ((rd_Rule (rd_Rules t103 x283_4) x340_6).f0), .int .i64 ((rd_Rule (rd_Rules t103 x283_4) x340_6).f1)] 33 (0, 0))) := ⟨k5_⟩
                            have n8_ : Aside0 (Below w.heap.size w ((w189.setCell ⟨gb173, 0, none⟩ (.int .i64 ((rd_Rule (rd_Rules t103 x283_4) x340_6).f0))).setCell ⟨gb173, 1, none⟩ (.int .i64 ((rd_Rule (rd_Rules t103 x283_4) x340_6).f1)))) := ⟨k60_⟩
                            have nA_ : Aside0 (Below w152.heap.size w152 ((w189.setCell ⟨gb173, 0, none⟩ (.int .i64 ((rd_Rule (rd_Rules t103 x283_4) x340_6).f0))).setCell ⟨gb173, 1, none⟩ (.int .i64 ((rd_Rule (rd_Rules t103 x283_4) x340_6).f1)))) := ⟨(by first | exact HBA.out | (apply_rules only [HBA.out, below_alloc, pw_below_drewN, below_drew1]; done) | (apply_rules only [HBA.out, below_alloc, pw_below_drewN, below_drew1, below_set, GQ0_.out]; done))⟩
                            (try clear HO_21)
                            (try clear HO_25)
                            (try clear HO_281)
                            (try clear BK101)
                            (try clear BK102)
                            (try clear BK143)
                            (try clear BK148)
                            (try clear BK173)
                            (try clear HB)
                            generalize ((w189.setCell ⟨gb173, 0, none⟩ (.int .i64 ((rd_Rule (rd_Rules t103 x283_4) x340_6).f0))).setCell ⟨gb173, 1, none⟩ (.int .i64 ((rd_Rule (rd_Rules t103 x283_4) x340_6).f1))) = w195 at n0_ n1_ n2_ n3_ n4_ n5_ n6_ n7_ n8_ nA_ ⊢
                            have HO_21 := n0_
                            have HO_25 := n1_
                            have HO_281 := n2_
                            have BK101 := n3_
                            have BK102 := n4_
                            have BK143 := n5_
                            have BK148 := n6_
                            have BK173 := n7_
                            have HB := n8_
                            replace HBA := nA_
                            clear nA_
                            clear n0_ n1_ n2_ n3_ n4_ n5_ n6_ n7_ n8_
                            replace HO_21 := Aside0.mk (Kd.R_drew HO_21.out)
                            replace HO_25 := Aside0.mk (Kd.R_drew HO_25.out)
                            replace HO_281 := Aside0.mk (Kd.S_drew HO_281.out)
                            replace BK101 := Aside0.mk (blk_drew BK101.out)
                            replace BK102 := Aside0.mk (blk_drew BK102.out)
                            replace BK143 := Aside0.mk (blk_drew BK143.out)
                            replace BK148 := Aside0.mk (blk_drew BK148.out)
                            replace BK173 := Aside0.mk (blk_drew BK173.out)
                            replace HB := Aside0.mk (below_drew1 HB.out); replace HBA := Aside0.mk (below_drew1 HBA.out)
                            obtain ⟨Ao197, co197, eo197⟩ := Kd.R_slice HO_25.out
                            (first | subst eo197 | (injection eo197 with f1_ f2_ f3_; have f4_ := f1_.symm; have f5_ := f3_.symm; clear f1_ f2_ f3_; subst f4_; subst f5_))
                            refine start_ (n := 18) (S := fun w' => w'.cell? ⟨gb173, 0, none⟩ = some (.int .i64 ((rd_Rule (rd_Rules t103 x283_4) x340_6).f0)) ∧ w'.cell? ⟨gb173, 1, none⟩ = some (.int .i64 ((rd_Rule (rd_Rules t103 x283_4) x340_6).f1))) (ds := []) (rA_ [0, 18]) (by kernel_rfl) rfl rfl ⟨(blk_cell BK173.out 0).trans rfl, (blk_cell BK173.out 1).trans rfl⟩ (fun hHeld => ?_); refine with_tabW laws_FnPatternsAnsweredOfAll.tab37 laws_FnPatternsAnsweredOfAll.bits37 (fun HT_ HW_ => ?_)
                            generalize w195.drew = w196 at HO_21 HO_25 HO_281 BK101 BK102 BK143 BK148 BK173 HB HBA hHeld ⊢
                            refine pu_ 0 345 [1, 17] ?_
                            refine pu_ 1 346 [2, 16] ?_
                            refine pu_ 2 347 [3, 15] ?_
                            refine pz_ 3 348 [4, 14] ?_
                            refine pz_ 4 349 [5, 13] ?_
                            refine pz_ 5 350 [6, 12] ?_
                            refine pz_ 6 351 [7, 11] ?_
                            refine pz_ 7 352 [8, 10] ?_
                            refine pz_ 8 353 [9, 9] ?_
                            refine pz_ 9 354 [10, 8] ?_
                            refine pz_ 10 355 [11, 7] ?_
                            refine pu_ 11 356 [12, 6] ?_
                            refine pu_ 12 357 [13, 5] ?_
                            refine pu_ 13 358 [14, 4] ?_
                            refine ta2_ 14 359 [15, 3] ?_
                            refine one_ (i := 15) (N := some 360) (rA_ [16, 2]) rfl rfl (one_of HT_.out (by kernel_rfl)) (by decide) (fun K hK => ?_)
                            refine goes_ Tryz.func26 (by kernel_rfl) rfl #[.slice Ao197 t131.length co197, .agg #[.int .i64 ((rd_Rule (rd_Rules t103 x283_4) x340_6).f0), .int .i64 ((rd_Rule (rd_Rules t103 x283_4) x340_6).f1)]] (by rfl) rfl rfl k59_ ?_
                            with_reducible refine (laws_gIn.calls k6 _ _ t131 ((rd_Rule (rd_Rules t103 x283_4) x340_6).f0) ((rd_Rule (rd_Rules t103 x283_4) x340_6).f1) true _ ?side1 ?side2 A187.out).mono ?_
                            (case side1 => exact k51_)
                            (case side2 => exact (Kd.R_reads' HO_25.out).2.1)
                            rintro e w198 ⟨rfl, hb⟩
                            refine ⟨_, rfl, ?_⟩
                            replace HO_21 := HO_21.mw hb
                            replace HO_25 := HO_25.mw hb
                            replace HO_281 := HO_281.mw hb
                            replace BK101 := BK101.mw hb
                            replace BK102 := BK102.mw hb
                            replace BK143 := BK143.mw hb
                            replace BK148 := BK148.mw hb
                            replace BK173 := BK173.mw hb
                            replace HB := Aside0.mk (below_step k60_ hb); replace HBA := Aside0.mk (below_step (by first | exact HBA.out | (apply_rules only [HBA.out, below_alloc, pw_below_drewN, below_drew1]; done) | (apply_rules only [HBA.out, below_alloc, pw_below_drewN, below_drew1, below_set, GQ0_.out]; done)) hb)
                            (try clear hb)
                            (try clear hb2)
                            (try clear hk)
                            (try clear hi)
                            refine hK.out _ _ ⟨(blk_cell BK173.out 0).trans rfl, (blk_cell BK173.out 1).trans rfl⟩ (fun hHeld => ?_)
                            clear hK K
                            refine nm_ 360 ?_
                            refine pu_ 16 361 [17, 1] ?_
                            refine pu_ 17 362 [18] ?_
                            refine done_ (done_of HT_.out (by kernel_rfl)) ?_
                            try go_wp2
                            go_roundg k6
                            case measure => have := HJ4.out; have := HJ23.out; have := HJ126.out; have := HK4.out; have := HK5.out; have := HK6.out; omega
                            case rel => exact ⟨(wrap64 (x340_6 + 1)), k92_, H', ⟨by have := HJ4.out; have := HJ23.out; have := HJ126.out; have := HK4.out; have := HK5.out; have := HK6.out; omega⟩, ⟨by (with_reducible repeat (first | apply Kd.R_alloc | apply Kd.R_drewN | apply Kd.R_drew)); exact Kd.R_mono HO_21.out (fun _ hk => ⟨hk.1, ⟨hk.2.1, hk.2.2.1⟩⟩)⟩, ⟨by (with_reducible repeat (first | apply Kd.R_alloc | apply Kd.R_drewN | apply Kd.R_drew)); exact Kd.R_mono HO_25.out (fun _ hk => ⟨hk.1, ⟨hk.2.1, hk.2.2.1⟩⟩)⟩, ⟨by (with_reducible repeat (first | apply Kd.S_alloc | apply Kd.S_drewN | apply Kd.S_drew)); exact Kd.S_mono HO_281.out (fun _ hk => ⟨hk.1, ⟨hk.2.1, ⟨hk.2.2.1, hk.2.2.2.1⟩⟩⟩)⟩, ⟨k85_⟩, ⟨k86_⟩, ⟨k88_⟩, ⟨k89_⟩, ⟨k60_⟩, ⟨(by first | exact HBA.out | (apply_rules only [HBA.out, below_alloc, pw_below_drewN, below_drew1]; done) | (apply_rules only [HBA.out, below_alloc, pw_below_drewN, below_drew1, below_set, GQ0_.out]; done))⟩⟩
                           ·replace c188 := Bool.eq_false_iff.mpr c188
                            subst c188
                            rw [if_neg (show ¬ (false = true) by decide)] at H
                            exact absurd H (by simp)
                         ·rw [if_neg c167] at H
                          exact absurd H (by simp)
                        ·rw [if_neg c166] at H
                         exact absurd H (by simp)
                       ·rw [if_neg c165] at H
                        have c165b0 : decide (x340_6 < ((rd_Rules t103 x283_4).length : Int)) = false := decide_eq_false c165
                        clear c165
                        have H' := Aside0.mk H
                        clear H
                        obtain ⟨Ao199, co199, eo199⟩ := Kd.R_slice HO_21.out
                        subst eo199
                        go_wp2
                        go_loopg [366] k6 (fun kq v366 w' => ∃ (x366_7 : Int), v366 = .int .i64 x366_7 ∧ Aside0 (laws_FnPatternsAnsweredOfAll.l3 kq l2 a3 t111 t123 t131 t139 t142 t149 t150 (rd_Rules t103 x283_4) t103 (t103.length : Int) x283_4 t123 (t123.length : Int) x366_7 a0_0 a0_1 a1_0 a1_1 t140 t141 = some true) ∧ Aside0 (kq ≤ k6) ∧ Aside0 (Kd.R kRule 33 w' w.heap.size (fun k_ => some k_ ≠ (v132 : Value).ownBlock ∧ k_ ≠ gb143 ∧ k_ ≠ gb148) (.slice Ao199 t123.length co199) t123) ∧ Aside0 (Kd.R kRule 33 w' w.heap.size (fun k_ => some k_ ≠ ((.slice Ao199 t123.length co199) : Value).ownBlock ∧ some k_ ≠ ((.slice Ao199 t123.length co199) : Value).ownBlock ∧ k_ ≠ gb143 ∧ k_ ≠ gb148) v132 t131) ∧ Aside0 (Kd.S (Kd.slice 33 kRule) 24 w' w.heap.size (fun k_ => some k_ ≠ ((.slice Ao199 t123.length co199) : Value).ownBlock ∧ some k_ ≠ (v132 : Value).ownBlock ∧ some k_ ≠ ((.slice Ao199 t123.length co199) : Value).ownBlock ∧ k_ ≠ gb143 ∧ k_ ≠ gb148) (.slice (some ad167) t103.length co136) t103) ∧ Aside0 (Kd.R kRule 33 w' w.heap.size (fun k_ => some k_ ≠ (v132 : Value).ownBlock ∧ k_ ≠ gb143 ∧ k_ ≠ gb148) (.slice Ao199 t123.length co199) t123) ∧ Aside0 (w'.heap[gb101]? = some (.cells #[.string a0_0, .int .i64 a0_1] 23 (0, 0))) ∧ Aside0 (w'.heap[gb102]? = some (.cells #[.string a1_0, .int .i64 a1_1] 23 (0, 0))) ∧ Aside0 (w'.heap[gb143]? = some (.cells #[.int .i64 t140, .int .i64 t141] 33 (0, 0))) ∧ Aside0 (w'.heap[gb148]? = some (.cells #[.int .i64 t145, .int .i64 t146] 33 (0, 0))) ∧ Aside0 (Below w.heap.size w w') ∧ Aside0 (Below w152.heap.size w152 w'))
                        case atStart => exact ⟨(0), k92_, H', ⟨Nat.le_refl _⟩, ⟨k82_⟩, ⟨by (with_reducible repeat (first | apply Kd.R_alloc | apply Kd.R_drewN | apply Kd.R_drew)); exact Kd.R_mono HO_25.out (fun _ hk => ⟨hk.1, ⟨hk.1, ⟨hk.2.1, hk.2.2⟩⟩⟩)⟩, ⟨by (with_reducible repeat (first | apply Kd.S_alloc | apply Kd.S_drewN | apply Kd.S_drew)); exact Kd.S_mono HO_281.out (fun _ hk => ⟨hk.1, ⟨hk.2.1, ⟨hk.1, ⟨hk.2.2.1, hk.2.2.2⟩⟩⟩⟩)⟩, ⟨k82_⟩, ⟨k85_⟩, ⟨k86_⟩, ⟨k88_⟩, ⟨k89_⟩, ⟨k62_⟩, ⟨(by first | exact HBA.out | (apply_rules only [HBA.out, below_alloc, pw_below_drewN, below_drew1]; done) | (apply_rules only [HBA.out, below_alloc, pw_below_drewN, below_drew1, below_set, GQ0_.out]; done))⟩⟩
                        case round =>
                         clear H'
                         (try clear c165); (try clear c165b0)
                         obtain ⟨x366_7, rfl, HA, HK7, HO_21, HO_25, HO_281, HO_364, BK101, BK102, BK143, BK148, HB, HBA⟩ := hrel
                         cases gk with
                         | zero => exact absurd HA.out (by simp [laws_FnPatternsAnsweredOfAll.l3])
                         | succ k7 =>
                          have H := HA.out
                          clear HA
                          simp only [laws_FnPatternsAnsweredOfAll.l3] at H
                          by_cases c200 : x366_7 < (t123.length : Int)
                          ·rw [if_pos c200] at H
                           have c200b0 : decide (x366_7 < (t123.length : Int)) = true := decide_eq_true c200
                           clear c200
                           by_cases c201 : 0 ≤ x366_7
                           ·rw [if_pos c201] at H
                            have c201b0 : decide (0 ≤ x366_7) = true := decide_eq_true c201
                            clear c201
                            by_cases c202 : x366_7 < (t123.length : Int)
                            ·rw [if_pos c202] at H
                             have c202b0 : decide (x366_7 < (t123.length : Int)) = true := decide_eq_true c202
                             clear c202
                             obtain ⟨t180, A203, H⟩ := obnd_ H
                             (try dsimp only at H)
                             by_cases c204 : t180 = true
                             ·subst c204
                              rw [if_pos rfl] at H
                              have H' := Aside0.mk H
                              clear H
                              have p178 : 0 ≤ (x366_7 : Int) := of_decide_eq_true k91_
                              have q178 : x366_7 < (t123.length : Int) := of_decide_eq_true k91_
                              obtain ⟨ad178, e178, hx178_0, hx178_1⟩ := at_Rule (Kd.R_reads' HO_364.out).2.2 x366_7 p178 q178
                              cases e178
                              replace p178 := eq_true p178
                              replace q178 := eq_true q178
                              go_wp2_with (first | ((with_reducible refine gate_dst (N := 49) rfl ?_); (try (refine gate_guard (by rfl) ?_; dsimp only)); refine box_event ?hg (N := 49) ?hd (cs := #[.int .i64 0, .int .i64 0]) (t := 33) ?hr ?_; (case hd => rfl); (case hg => rfl); (case hr => exact k94_); intro gb179 hg w205 hbox hb; replace HO_21 := Aside0.mk (Kd.R_below (Kd.R_elderB k82_ gb179 (Nat.le_of_eq hg.symm)) hb); replace HO_25 := Aside0.mk (Kd.R_below (Kd.R_elderB k83_ gb179 (Nat.le_of_eq hg.symm)) hb); replace HO_281 := Aside0.mk (Kd.S_below (Kd.S_elderB k75_ gb179 (Nat.le_of_eq hg.symm)) hb); replace HO_364 := Aside0.mk (Kd.R_below (Kd.R_elderB (by apply_rules only [HO_364.out, Kd.R_alloc, Kd.R_drewN, Kd.R_drew]) gb179 (Nat.le_of_eq hg.symm)) hb); have BK179 := Aside0.mk (hbox); have GW179 := Aside0.mk ((by rw [hg]; exact (below_size k62_) : w.heap.size ≤ gb179)); have GE179 := Aside0.mk ((by rw [hg]; exact (below_size k62_) : w.heap.size ≤ gb179)); have GQ0_ := Aside0.mk ((by rw [hg]; exact (below_size (by first | exact HBA.out | (apply_rules only [HBA.out, below_alloc, pw_below_drewN, below_drew1]; done) | (apply_rules only [HBA.out, below_alloc, pw_below_drewN, below_drew1, below_set, GQ0_.out]; done))) : w152.heap.size ≤ gb179)); replace HB := Aside0.mk (below_step k62_ hb); replace HBA := Aside0.mk (below_step (by first | exact HBA.out | (apply_rules only [HBA.out, below_alloc, pw_below_drewN, below_drew1]; done) | (apply_rules only [HBA.out, below_alloc, pw_below_drewN, below_drew1, below_set, GQ0_.out]; done)) hb); have NB101_179 := Aside0.mk (BK101.ne hg); have NB179_101 := Aside0.mk (BK101.ne hg).symm; replace BK101 := BK101.mw hb; have NB102_179 := Aside0.mk (BK102.ne hg); have NB179_102 := Aside0.mk (BK102.ne hg).symm; replace BK102 := BK102.mw hb; have NB143_179 := Aside0.mk (BK143.ne hg); have NB179_143 := Aside0.mk (BK143.ne hg).symm; replace BK143 := BK143.mw hb; have NB148_179 := Aside0.mk (BK148.ne hg); have NB179_148 := Aside0.mk (BK148.ne hg).symm; replace BK148 := BK148.mw hb; clear hb hbox hg; have hnb206 := NB179_101.out; have hnc206 := NB101_179.out; have hnb207 := NB179_102.out; have hnc207 := NB102_179.out; have hnb208 := NB179_143.out; have hnc208 := NB143_179.out; have hnb209 := NB179_148.out; have hnc209 := NB148_179.out; have hcz210_0 : w205.cell? ⟨gb179, 0, none⟩ = some (.int .i64 0) := (blk_cell BK179.out 0).trans rfl; have hcz210_1 : w205.cell? ⟨gb179, 1, none⟩ = some (.int .i64 0) := (blk_cell BK179.out 1).trans rfl; have hfz210_0 := blk_frozen BK179.out 0; have hfz210_1 := blk_frozen BK179.out 1) | ((with_reducible refine gate_callee (f := 26) rfl ?_); refine goesL_ (some 372) rfl rfl Tryz.func26 (by kernel_rfl) rfl #[.slice A167_0 (rd_Rules t103 x283_4).length c167_0, .agg #[.int .i64 ((rd_Rule t123 x366_7).f0), .int .i64 ((rd_Rule t123 x366_7).f1)]] rfl k59_ ?_; (with_reducible refine (laws_gIn.calls k7 _ _ (rd_Rules t103 x283_4) ((rd_Rule t123 x366_7).f0) ((rd_Rule t123 x366_7).f1) true _ ?side1 ?side2 A203.out).mono ?_); (case side1 => exact Kd.C_below HR167_0.out (by first | exact HBA.out | (apply_rules only [HBA.out, below_alloc, pw_below_drewN, below_drew1]; done) | (apply_rules only [HBA.out, below_alloc, pw_below_drewN, below_drew1, below_set, GQ0_.out]; done))); (case side2 => exact HC167_0.out); rintro e w211 ⟨rfl, hb⟩; refine ⟨_, rfl, ?_⟩; replace HO_21 := Aside0.mk (Kd.R_below (by (with_reducible repeat (first | apply Kd.R_alloc | apply Kd.R_drewN | apply Kd.R_drew)); exact (Kd.R_mono (Kd.R_far (p := ⟨gb179, 1, none⟩) (Kd.R_far (p := ⟨gb179, 0, none⟩) (Kd.R_mono HO_21.out (fun k_ hk => (⟨hk, hk.2⟩ : _ ∧ k_ ≠ gb179))) (fun _ hk => hk.2) (.int .i64 ((rd_Rule t123 x366_7).f0))) (fun _ hk => hk.2) (.int .i64 ((rd_Rule t123 x366_7).f1))) (fun _ h_ => h_.1))) hb); replace HO_25 := Aside0.mk (Kd.R_below (by (with_reducible repeat (first | apply Kd.R_alloc | apply Kd.R_drewN | apply Kd.R_drew)); exact (Kd.R_mono (Kd.R_far (p := ⟨gb179, 1, none⟩) (Kd.R_far (p := ⟨gb179, 0, none⟩) (Kd.R_mono HO_25.out (fun k_ hk => (⟨hk, hk.2⟩ : _ ∧ k_ ≠ gb179))) (fun _ hk => hk.2) (.int .i64 ((rd_Rule t123 x366_7).f0))) (fun _ hk => hk.2) (.int .i64 ((rd_Rule t123 x366_7).f1))) (fun _ h_ => h_.1))) hb); replace HO_281 := Aside0.mk (Kd.S_below (by (with_reducible repeat (first | apply Kd.S_alloc | apply Kd.S_drewN | apply Kd.S_drew)); exact (Kd.S_mono (Kd.S_far (p := ⟨gb179, 1, none⟩) (Kd.S_far (p := ⟨gb179, 0, none⟩) (Kd.S_mono HO_281.out (fun k_ hk => (⟨hk, hk.2⟩ : _ ∧ k_ ≠ gb179))) (fun _ hk => hk.2) (.int .i64 ((rd_Rule t123 x366_7).f0))) (fun _ hk => hk.2) (.int .i64 ((rd_Rule t123 x366_7).f1))) (fun _ h_ => h_.1))) hb); replace HO_364 := Aside0.mk (Kd.R_below (by (with_reducible repeat (first | apply Kd.R_alloc | apply Kd.R_drewN | apply Kd.R_drew)); exact (Kd.R_mono (Kd.R_far (p := ⟨gb179, 1, none⟩) (Kd.R_far (p := ⟨gb179, 0, none⟩) (Kd.R_mono HO_364.out (fun k_ hk => (⟨hk, hk.2⟩ : _ ∧ k_ ≠ gb179))) (fun _ hk => hk.2) (.int .i64 ((rd_Rule t123 x366_7).f0))) (fun _ hk => hk.2) (.int .i64 ((rd_Rule t123 x366_7).f1))) (fun _ h_ => h_.1))) hb); replace BK101 := Aside0.mk (blk_below (g := gb101) (o := .cells #[.string a0_0, .int .i64 a0_1] 23 (0, 0)) (by (with_reducible repeat (first | refine blk_drewN ?_ _ | refine blk_drew ?_ | refine blk_alloc ?_ _)); refine blk_far ?_ NB101_179.out _; (with_reducible repeat (first | refine blk_drewN ?_ _ | refine blk_drew ?_ | refine blk_alloc ?_ _)); refine blk_far ?_ NB101_179.out _; apply_rules only [BK101.out, blk_drewN, blk_drew, blk_alloc]) hb); replace BK102 := Aside0.mk (blk_below (g := gb102) (o := .cells #[.string a1_0, .int .i64 a1_1] 23 (0, 0)) (by (with_reducible repeat (first | refine blk_drewN ?_ _ | refine blk_drew ?_ | refine blk_alloc ?_ _)); refine blk_far ?_ NB102_179.out _; (with_reducible repeat (first | refine blk_drewN ?_ _ | refine blk_drew ?_ | refine blk_alloc ?_ _)); refine blk_far ?_ NB102_179.out _; apply_rules only [BK102.out, blk_drewN, blk_drew, blk_alloc]) hb); replace BK143 := Aside0.mk (blk_below (g := gb143) (o := .cells #[.int .i64 t140, .int .i64 t141] 33 (0, 0)) (by (with_reducible repeat (first | refine blk_drewN ?_ _ | refine blk_drew ?_ | refine blk_alloc ?_ _)); refine blk_far ?_ NB143_179.out _; (with_reducible repeat (first | refine blk_drewN ?_ _ | refine blk_drew ?_ | refine blk_alloc ?_ _)); refine blk_far ?_ NB143_179.out _; apply_rules only [BK143.out, blk_drewN, blk_drew, blk_alloc]) hb); replace BK148 := Aside0.mk (blk_below (g := gb148) (o := .cells #[.int .i64 t145, .int .i64 t146] 33 (0, 0)) (by (with_reducible repeat (first | refine blk_drewN ?_ _ | refine blk_drew ?_ | refine blk_alloc ?_ _)); refine blk_far ?_ NB148_179.out _; (with_reducible repeat (first | refine blk_drewN ?_ _ | refine blk_drew ?_ | refine blk_alloc ?_ _)); refine blk_far ?_ NB148_179.out _; apply_rules only [BK148.out, blk_drewN, blk_drew, blk_alloc]) hb); replace BK179 := Aside0.mk (blk_below (g := gb179) (o := .cells #[.int .i64 ((rd_Rule t123 x366_7).f0), .int .i64 ((rd_Rule t123 x366_7).f1)] 33 (0, 0)) (by (with_reducible repeat (first | refine blk_drewN ?_ _ | refine blk_drew ?_ | refine blk_alloc ?_ _)); refine blk_put (cs := #[.int .i64 ((rd_Rule t123 x366_7).f0), .int .i64 0]) ?_ 1 _ rfl; (with_reducible repeat (first | refine blk_drewN ?_ _ | refine blk_drew ?_ | refine blk_alloc ?_ _)); refine blk_put (cs := #[.int .i64 0, .int .i64 0]) ?_ 0 _ rfl; apply_rules only [BK179.out, blk_drewN, blk_drew, blk_alloc]) hb); replace HB := Aside0.mk (below_step (by apply_rules only [HB.out, below_alloc, pw_below_drewN, below_drew1, below_set, GE101.out, GE102.out, GE143.out, GE148.out, GE179.out]) hb); replace HBA := Aside0.mk (below_step (by first | exact HBA.out | (apply_rules only [HBA.out, below_alloc, pw_below_drewN, below_drew1]; done) | (apply_rules only [HBA.out, below_alloc, pw_below_drewN, below_drew1, below_set, GQ0_.out]; done)) hb); (try clear hb)))
                              go_roundg k7
                              case measure => have := HJ4.out; have := HJ23.out; have := HJ126.out; have := HK4.out; have := HK5.out; have := HK6.out; have := HK7.out; omega
                              case rel => exact ⟨(wrap64 (x366_7 + 1)), k92_, H', ⟨by have := HJ4.out; have := HJ23.out; have := HJ126.out; have := HK4.out; have := HK5.out; have := HK6.out; have := HK7.out; omega⟩, ⟨by (with_reducible repeat (first | apply Kd.R_alloc | apply Kd.R_drewN | apply Kd.R_drew)); exact Kd.R_mono HO_21.out (fun _ hk => ⟨hk.1.1, ⟨hk.1.2.1, hk.1.2.2⟩⟩)⟩, ⟨by (with_reducible repeat (first | apply Kd.R_alloc | apply Kd.R_drewN | apply Kd.R_drew)); exact Kd.R_mono HO_25.out (fun _ hk => ⟨hk.1.1, ⟨hk.1.2.1, ⟨hk.1.2.2.1, hk.1.2.2.2⟩⟩⟩)⟩, ⟨by (with_reducible repeat (first | apply Kd.S_alloc | apply Kd.S_drewN | apply Kd.S_drew)); exact Kd.S_mono HO_281.out (fun _ hk => ⟨hk.1.1, ⟨hk.1.2.1, ⟨hk.1.2.2.1, ⟨hk.1.2.2.2.1, hk.1.2.2.2.2⟩⟩⟩⟩)⟩, ⟨by (with_reducible repeat (first | apply Kd.R_alloc | apply Kd.R_drewN | apply Kd.R_drew)); exact Kd.R_mono HO_364.out (fun _ hk => ⟨hk.1.1, ⟨hk.1.2.1, hk.1.2.2⟩⟩)⟩, ⟨k85_⟩, ⟨k86_⟩, ⟨k88_⟩, ⟨k89_⟩, ⟨by apply_rules only [HB.out, below_alloc, pw_below_drewN, below_drew1, below_set, GE101.out, GE102.out, GE143.out, GE148.out, GE179.out]⟩, ⟨(by first | exact HBA.out | (apply_rules only [HBA.out, below_alloc, pw_below_drewN, below_drew1]; done) | (apply_rules only [HBA.out, below_alloc, pw_below_drewN, below_drew1, below_set, GQ0_.out]; done))⟩⟩
                             ·replace c204 := Bool.eq_false_iff.mpr c204
                              subst c204
                              rw [if_neg (show ¬ (false = true) by decide)] at H
                              exact absurd H (by simp)
                            ·rw [if_neg c202] at H
                             exact absurd H (by simp)
                           ·rw [if_neg c201] at H
                            exact absurd H (by simp)
                          ·rw [if_neg c200] at H
                           have c200b0 : decide (x366_7 < (t123.length : Int)) = false := decide_eq_false c200
                           clear c200
                           by_cases c212 : t142 = true
                           ·subst c212
                            rw [if_pos rfl] at H
                            obtain ⟨t181, A213, H⟩ := obnd_ H
                            (try dsimp only at H)
                            by_cases c214 : t181 = true
                            ·subst c214
                             rw [if_pos rfl] at H
                             have H' := Aside0.mk H
                             clear H
                             have hnb215 := NB143_101.out
                             have hnc215 := NB101_143.out
                             have hnb216 := NB143_102.out
                             have hnc216 := NB102_143.out
                             have hnb217 := NB143_148.out
                             have hnc217 := NB148_143.out
                             have hcz218_0 : wr.cell? ⟨gb143, 0, none⟩ = some (.int .i64 t140) := (blk_cell BK143.out 0).trans rfl
                             have hcz218_1 : wr.cell? ⟨gb143, 1, none⟩ = some (.int .i64 t141) := (blk_cell BK143.out 1).trans rfl
                             have hfz218_0 := blk_frozen BK143.out 0
                             have hfz218_1 := blk_frozen BK143.out 1
                             go_wp2_with (first | (go_at_call 26; (with_reducible refine (laws_gIn.calls k7 _ _ (rd_Rules t103 x283_4) t140 t141 true _ ?side1 ?side2 A213.out).mono ?_); (case side1 => repeat (first | exact (Kd.C_below HR167_0.out HBA.out) | (with_reducible refine Kd.C_alloc ?_ _) | (with_reducible refine Kd.C_drewN ?_ _) | (with_reducible refine Kd.C_drew ?_))); (case side2 => exact HC167_0.out); rintro e w219 ⟨rfl, hb⟩; replace HO_21 := HO_21.mw hb; replace HO_25 := HO_25.mw hb; replace HO_281 := HO_281.mw hb; replace HO_364 := HO_364.mw hb; replace BK101 := BK101.mw hb; replace BK102 := BK102.mw hb; replace BK143 := BK143.mw hb; replace BK148 := BK148.mw hb; replace HB := Aside0.mk (below_step k62_ hb); replace HBA := Aside0.mk (below_step (by first | exact HBA.out | (apply_rules only [HBA.out, below_alloc, pw_below_drewN, below_drew1]; done) | (apply_rules only [HBA.out, below_alloc, pw_below_drewN, below_drew1, below_set, GQ0_.out]; done)) hb); (try clear hb)))
                             go_roundg k7
                             case measure => have := HJ4.out; have := HJ23.out; have := HJ126.out; have := HK4.out; have := HK5.out; have := HK6.out; have := HK7.out; omega
                             case rel => exact ⟨(wrap64 (x283_4 + 1)), k92_, H', ⟨by have := HJ4.out; have := HJ23.out; have := HJ126.out; have := HK4.out; have := HK5.out; have := HK6.out; have := HK7.out; omega⟩, ⟨k82_⟩, ⟨by (with_reducible repeat (first | apply Kd.R_alloc | apply Kd.R_drewN | apply Kd.R_drew)); exact Kd.R_mono HO_25.out (fun _ hk => ⟨hk.1, ⟨hk.2.2.1, hk.2.2.2⟩⟩)⟩, ⟨by (with_reducible repeat (first | apply Kd.S_alloc | apply Kd.S_drewN | apply Kd.S_drew)); exact Kd.S_mono HO_281.out (fun _ hk => ⟨hk.1, ⟨hk.2.1, ⟨hk.2.2.2.1, hk.2.2.2.2⟩⟩⟩)⟩, ⟨k85_⟩, ⟨k86_⟩, ⟨k88_⟩, ⟨k89_⟩, ⟨k62_⟩⟩
                            ·replace c214 := Bool.eq_false_iff.mpr c214
                             subst c214
                             rw [if_neg (show ¬ (false = true) by decide)] at H
                             exact absurd H (by simp)
                           ·replace c212 := Bool.eq_false_iff.mpr c212
                            subst c212
                            rw [if_neg (show ¬ (false = true) by decide)] at H
                            have H' := Aside0.mk H
                            clear H
                            go_wp2
                            go_roundg k7
                            case measure => have := HJ4.out; have := HJ23.out; have := HJ126.out; have := HK4.out; have := HK5.out; have := HK6.out; have := HK7.out; omega
                            case rel => exact ⟨(wrap64 (x283_4 + 1)), k92_, H', ⟨by have := HJ4.out; have := HJ23.out; have := HJ126.out; have := HK4.out; have := HK5.out; have := HK6.out; have := HK7.out; omega⟩, ⟨k82_⟩, ⟨by (with_reducible repeat (first | apply Kd.R_alloc | apply Kd.R_drewN | apply Kd.R_drew)); exact Kd.R_mono HO_25.out (fun _ hk => ⟨hk.1, ⟨hk.2.2.1, hk.2.2.2⟩⟩)⟩, ⟨by (with_reducible repeat (first | apply Kd.S_alloc | apply Kd.S_drewN | apply Kd.S_drew)); exact Kd.S_mono HO_281.out (fun _ hk => ⟨hk.1, ⟨hk.2.1, ⟨hk.2.2.2.1, hk.2.2.2.2⟩⟩⟩)⟩, ⟨k85_⟩, ⟨k86_⟩, ⟨k88_⟩, ⟨k89_⟩, ⟨k62_⟩⟩
                 ·replace c145 := Bool.eq_false_iff.mpr c145
                  subst c145
                  rw [if_neg (show ¬ (false = true) by decide)] at H
                  exact absurd H (by simp)
                ·rw [if_neg c144] at H
                 have c144b0 : (((rd_Rules t103 x283_4).length : Int) == a0_1) = false := beq_eq_false_iff_ne.mpr c144
                 have c144b1 : (((rd_Rules t103 x283_4).length : Int) != a0_1) = true := bne_iff_ne.mpr c144
                 exact absurd H (by simp)
               ·replace c143 := Bool.eq_false_iff.mpr c143
                subst c143
                rw [if_neg (show ¬ (false = true) by decide)] at H
                exact absurd H (by simp)
              ·replace c142 := Bool.eq_false_iff.mpr c142
               subst c142
               rw [if_neg (show ¬ (false = true) by decide)] at H
               exact absurd H (by simp)
             ·rw [if_neg c139] at H
              exact absurd H (by simp)
            ·rw [if_neg c138] at H
             exact absurd H (by simp)
           ·rw [if_neg c137] at H
            have c137b0 : decide (x283_4 < (t103.length : Int)) = false := decide_eq_false c137
            clear c137
            obtain ⟨⟨t165, t166⟩, A220, H⟩ := obnd_ H
            (try dsimp only at H)
            by_cases c221 : t111 > 0
            ·rw [if_pos c221] at H
             have c221b0 : decide (0 < t111) = true := decide_eq_true c221
             clear c221
             by_cases c222 : t166 = true
             ·subst c222
              rw [if_pos rfl] at H
              by_cases c223 : t165 > a0_1
              ·rw [if_pos c223] at H
               have c223b0 : decide (a0_1 < t165) = true := decide_eq_true c223
               clear c223
               exact absurd H (by simp)
              ·rw [if_neg c223] at H
               have c223b0 : decide (a0_1 < t165) = false := decide_eq_false c223
               clear c223
               have H' := Aside0.mk H
               clear H
               have hnb224 := NB101_102.out
               have hnc224 := NB102_101.out
               have hnb225 := NB101_143.out
               have hnc225 := NB143_101.out
               have hnb226 := NB101_148.out
               have hnc226 := NB148_101.out
               have hcz227_0 : wr.cell? ⟨gb101, 0, none⟩ = some (.string a0_0) := (blk_cell BK101.out 0).trans rfl
               have hcz227_1 : wr.cell? ⟨gb101, 1, none⟩ = some (.int .i64 a0_1) := (blk_cell BK101.out 1).trans rfl
               have hfz227_0 := blk_frozen BK101.out 0
               have hfz227_1 := blk_frozen BK101.out 1
               go_wp2_with (first | ((with_reducible refine gate_callee (f := 27) rfl ?_); refine goesL_ (some 386) rfl rfl Tryz.func27 (by kernel_rfl) rfl #[.string a0_0] rfl k59_ ?_; (with_reducible refine (impl_FewestRules.calls k4 a0_0 t165 true _ A220.out).mono ?_); rintro e w228 ⟨rfl, hb⟩; refine ⟨_, rfl, ?_⟩; replace HO_21 := HO_21.mw hb; replace HO_25 := HO_25.mw hb; replace HO_281 := HO_281.mw hb; replace BK101 := BK101.mw hb; replace BK102 := BK102.mw hb; replace BK143 := BK143.mw hb; replace BK148 := BK148.mw hb; replace HB := Aside0.mk (below_step k62_ hb); (try clear hb); have hcz229_0 : w228.cell? ⟨gb101, 0, none⟩ = some (.string a0_0) := (blk_cell BK101.out 0).trans rfl; have hcz229_1 : w228.cell? ⟨gb101, 1, none⟩ = some (.int .i64 a0_1) := (blk_cell BK101.out 1).trans rfl; have hfz229_0 := blk_frozen BK101.out 0; have hfz229_1 := blk_frozen BK101.out 1))
               go_meet
               case rel => exact ⟨_, H', ⟨by have := HJ4.out; have := HJ23.out; have := HJ126.out; have := HK4.out; first | omega | exact Nat.le_refl _⟩, ⟨by (with_reducible repeat (first | apply Kd.R_alloc | apply Kd.R_drewN | apply Kd.R_drew)); exact Kd.R_mono HO_25.out (fun _ hk => ⟨hk.2.1, hk.2.2⟩)⟩, ⟨k85_⟩, ⟨k86_⟩, ⟨k88_⟩, ⟨k89_⟩, ⟨k62_⟩⟩
             ·replace c222 := Bool.eq_false_iff.mpr c222
              subst c222
              rw [if_neg (show ¬ (false = true) by decide)] at H
              exact absurd H (by simp)
            ·rw [if_neg c221] at H
             have c221b0 : decide (0 < t111) = false := decide_eq_false c221
             clear c221
             have H' := Aside0.mk H
             clear H
             have hnb230 := NB101_102.out
             have hnc230 := NB102_101.out
             have hnb231 := NB101_143.out
             have hnc231 := NB143_101.out
             have hnb232 := NB101_148.out
             have hnc232 := NB148_101.out
             have hcz233_0 : wr.cell? ⟨gb101, 0, none⟩ = some (.string a0_0) := (blk_cell BK101.out 0).trans rfl
             have hcz233_1 : wr.cell? ⟨gb101, 1, none⟩ = some (.int .i64 a0_1) := (blk_cell BK101.out 1).trans rfl
             have hfz233_0 := blk_frozen BK101.out 0
             have hfz233_1 := blk_frozen BK101.out 1
             go_wp2_with (first | ((with_reducible refine gate_callee (f := 27) rfl ?_); refine goesL_ (some 386) rfl rfl Tryz.func27 (by kernel_rfl) rfl #[.string a0_0] rfl k59_ ?_; (with_reducible refine (impl_FewestRules.calls k4 a0_0 t165 t166 _ A220.out).mono ?_); rintro e w234 ⟨rfl, hb⟩; refine ⟨_, rfl, ?_⟩; replace HO_21 := HO_21.mw hb; replace HO_25 := HO_25.mw hb; replace HO_281 := HO_281.mw hb; replace BK101 := BK101.mw hb; replace BK102 := BK102.mw hb; replace BK143 := BK143.mw hb; replace BK148 := BK148.mw hb; replace HB := Aside0.mk (below_step k62_ hb); (try clear hb)))
             go_meet
             case rel => exact ⟨_, H', ⟨by have := HJ4.out; have := HJ23.out; have := HJ126.out; have := HK4.out; first | omega | exact Nat.le_refl _⟩, ⟨by (with_reducible repeat (first | apply Kd.R_alloc | apply Kd.R_drewN | apply Kd.R_drew)); exact Kd.R_mono HO_25.out (fun _ hk => ⟨hk.2.1, hk.2.2⟩)⟩, ⟨k85_⟩, ⟨k86_⟩, ⟨k88_⟩, ⟨k89_⟩, ⟨k62_⟩⟩
     ·replace c126 := Bool.eq_false_iff.mpr c126
      subst c126
      rw [if_neg (show ¬ (false = true) by decide)] at H
      have H' := Aside0.mk H
      clear H
      go_wp2
      go_meet
      case rel => exact ⟨_, H', ⟨by have := HJ4.out; have := HJ23.out; first | omega | exact Nat.le_refl _⟩, ⟨by (with_reducible repeat (first | apply Kd.R_alloc | apply Kd.R_drewN | apply Kd.R_drew)); exact Kd.R_mono HO_25.out (fun _ hk => ⟨hk.2.2.1, hk.2.2.2⟩)⟩, ⟨k85_⟩, ⟨k86_⟩, ⟨k88_⟩, ⟨k89_⟩, ⟨k62_⟩⟩
    case rest =>
     clear HC125
     obtain ⟨kq, HA, HJ124, HO_25, BK101, BK102, BK143, BK148, HB⟩ := hcut
     go_step
     exact laws_FnPatternsAnsweredOfAll.part2 k a0_0 a0_1 a1_0 a1_1 A2 c2 l2 a3 w hu23 hu33 HR2 HC2 HG gb101 GW101 GE101 gb102 GW102 GE102 NB101_102 NB102_101 u64 u65 u66 u67 u68 u69 u70 kj4 HJ4 t103 t106 A10 t107 t110 A11 t111 t112 A12 t113 t114 A13 t115 t118 A14 t119 t122 A15 t123 t126 A16 t127 t130 A17 t131 t134 A18 t135 t138 A19 t139 t140 t141 t142 A20 t144 t145 t146 t147 A21 t149 t150 A22 H t151 t152 A23 hnb25 hnc25 w27 v104 hcz28_0 hcz28_1 hfz28_0 hfz28_1 w29 v108 hcz30_0 hcz30_1 hfz30_0 hfz30_1 w31 hcz32_0 hcz32_1 hfz32_0 hfz32_1 w33 hcz34_0 hcz34_1 hfz34_0 hfz34_1 w35 v116 hcz36_0 hcz36_1 hfz36_0 hfz36_1 w37 v120 hcz38_0 hcz38_1 hfz38_0 hfz38_1 w39 v124 hcz40_0 hcz40_1 hfz40_0 hfz40_1 w41 v128 hcz42_0 hcz42_1 hfz42_0 hfz42_1 w43 v132 hcz44_0 hcz44_1 hfz44_0 hfz44_1 w45 v136 hcz46_0 hcz46_1 hfz46_0 hfz46_1 gb143 w48 GW143 GE143 NB101_143 NB143_101 NB102_143 NB143_102 hnb49 hnc49 hnb50 hnc50 hcz51_0 hcz51_1 hfz51_0 hfz51_1 hcz52_0 hcz52_1 hfz52_0 hfz52_1 gb148 w54 GW148 GE148 NB101_148 NB148_101 NB102_148 NB148_102 NB143_148 NB148_143 hnb55 hnc55 hnb56 hnc56 hnb57 hnc57 hcz58_0 hcz58_1 hfz58_0 hfz58_1 hcz59_0 hcz59_1 hfz59_0 hfz59_1 w60 hcz61_0 hcz61_1 hfz61_0 hfz61_1 w62 HO105 HO109 HO117 HO121 HO125 HO129 HO133 HO137 u72 u73 u74 u75 u76 u77 u78 u79 u80 u81 u82 u83 u84 u85 u86 u87 u88 u89 u90 u91 u92 u93 u94 u95 u96 u97 u98 u99 u100 u101 u102 u103 u104 u105 u106 u107 u108 u109 u110 u111 u112 u113 u114 u115 u116 u117 u118 u119 u120 u121 u122 u123 u124 u125 u126 u127 u128 u129 u130 u131 u132 u133 u134 u135 u136 u137 u138 u139 u140 u141 u142 u143 u144 u145 u146 u147 u148 u149 u150 u151 u152 u153 u154 u155 u156 u157 u158 u159 u160 u161 u162 u163 u164 u165 u166 u167 u168 u169 u170 u171 u172 u173 u174 u175 u176 u177 u178 u179 u180 u181 u182 u183 u184 u185 u186 u187 u188 u189 u190 u191 u192 u193 u194 u195 u196 u197 u198 u199 u200 u201 u202 u203 u204 u205 u206 u207 u208 u209 u210 u211 u212 u213 u214 u215 u216 u217 u218 u219 u220 u221 u222 u223 u224 u225 u226 u227 u228 u229 u230 u231 u232 u233 u234 u235 u236 u237 u238 u239 u240 u241 u242 u243 u244 u245 u246 u247 u248 u249 u250 u251 u252 u253 u254 u255 u256 u257 u258 u259 u260 u261 u262 u263 kj23 HJ23 wc u8 u40 u41 u42 u43 u44 u45 u46 u47 u49 u50 u51 u265 u266 u267 u268 u269 u270 u271 u272 u273 u274 u275 u276 u277 u278 u279 u280 u281 u282 u283 u284 u285 u286 u287 u288 u289 u290 u291 u292 u293 u294 u295 u296 u297 u298 u299 u300 u301 u302 u303 u304 u305 u306 u307 u308 u309 u310 u311 u312 u313 u314 u315 u316 u317 u318 u319 u320 u321 u322 u323 u324 u325 u326 u327 u328 u329 u330 u331 u332 u333 u334 u335 u336 u337 u338 u339 u340 u341 u342 u343 u344 u345 u346 u347 u348 u349 u350 u351 u352 u353 u354 u355 u356 u357 u358 u359 u360 u361 u362 u363 u364 u365 u366 u367 u368 u369 u370 u371 u372 u373 u374 u375 u376 u377 u378 u379 u380 u381 u382 u383 u384 u385 u386 u387 u388 u389 u390 u391 u392 u393 u394 u395 u396 u397 u398 u399 u400 kq HA HJ124 HO_25 BK101 BK102 BK143 BK148 HB
end Go.Proofs.YtbnmajedmajfoaaGreatDoor.P
namespace Go.Proofs.YtbnmajedmajfoaaGreatDoor.P
open Go.RowKit Go.Proofs.YtbnmajedmajfoaaGreatDoorW.PrintWords Go.Proofs.YtbnmajedmajfoaaGreatDoorW.PrintLast Go.Proofs.YtbnmajedmajfoaaGreatDoorW.PrintMore
attribute [local go_sem] max2_int min2_int max_two min_two max_three min_three max_four min_four
set_option linter.unusedVariables false
set_option linter.unusedSimpArgs false
attribute [local go_sem high] eqA23 eqA33
set_option maxHeartbeats 8000000 in
set_option maxRecDepth 100000 in
theorem laws_FnPatternsAnsweredOfAll.calls (k : Nat) (a0_0 : ByteArray) (a0_1 : Int) (a1_0 : ByteArray) (a1_1 : Int) (A2 : Option Addr) (c2 : Nat) (l2 : List (SRule)) (a3 : ByteArray) (w : World) (hr2 : Kd.C kRule w A2 l2.length l2) (hc2 : l2.length ≤ c2) (h : laws_FnPatternsAnsweredOfAll.f k a0_0 a0_1 a1_0 a1_1 l2 a3 = some true) (hG : GlobOk w) :
  Calls Tryz.prog 3 #[.agg #[.string a0_0, .int .i64 a0_1], .agg #[.string a1_0, .int .i64 a1_1], .slice A2 l2.length c2, .string a3] w fun e w' => e = .returned (.bool true) ∧ Below w.heap.size w w' := by
 have hu23 := Tryz.underlying23
 have hu33 := Tryz.underlying33
 have HR2 := Aside0.mk hr2
 have HC2 := Aside0.mk hc2
 clear hr2 hc2
 have HB := Aside0.mk (Below.refl w.heap.size w)
 have HG := Aside0.mk hG
 clear hG
 have H : (if (l2.length : Int) > 10000 then (laws_FnPatternsAnsweredOfAll.j0 k l2 a3 true a0_0 a0_1 a1_0 a1_1) else (laws_FnPatternsAnsweredOfAll.j0 k l2 a3 (decide ((a3.size : Int) > 1048576)) a0_0 a0_1 a1_0 a1_1)) = some true := h
 clear h
 have HC5 := Aside0.mk H
 clear H
 go_enter Tryz.func3, Tryz.ntmps3
 go_upto_region 1 with (first | ((with_reducible refine gate_dst (N := 4) rfl ?_); (try (refine gate_guard (by rfl) ?_; dsimp only)); refine box_event ?hg (N := 4) ?hd (cs := #[.string a0_0, .int .i64 a0_1]) (t := 23) ?hr ?_; (case hd => rfl); (case hg => rfl); (case hr => exact k94_); intro gb101 hg w6 hbox hb; have BK101 := Aside0.mk (hbox); have GW101 := Aside0.mk (HB.ge hg); have GE101 := Aside0.mk (HB.ge hg); replace HB := HB.mw hb; clear hb hbox hg) | ((with_reducible refine gate_dst (N := 5) rfl ?_); (try (refine gate_guard (by rfl) ?_; dsimp only)); refine box_event ?hg (N := 5) ?hd (cs := #[.string a1_0, .int .i64 a1_1]) (t := 23) ?hr ?_; (case hd => rfl); (case hg => rfl); (case hr => exact k94_); intro gb102 hg w7 hbox hb; have BK102 := Aside0.mk (hbox); have GW102 := Aside0.mk ((by rw [hg]; exact (below_size k71_) : w.heap.size ≤ gb102)); have GE102 := Aside0.mk ((by rw [hg]; exact (below_size k71_) : w.heap.size ≤ gb102)); replace HB := Aside0.mk (below_step k71_ hb); have NB101_102 := Aside0.mk (BK101.ne hg); have NB102_101 := Aside0.mk (BK101.ne hg).symm; replace BK101 := BK101.mw hb; clear hb hbox hg))
 (try simp only [Act.put, List.setIfInBounds_toArray, List.set_cons_zero, List.set_cons_succ])
 go_cut [71] from 1 to 0 (fun v71 wc => ∃ (kq : Nat) (x71_4 : Bool), v71 = .bool x71_4 ∧ Aside0 (laws_FnPatternsAnsweredOfAll.j0 kq l2 a3 x71_4 a0_0 a0_1 a1_0 a1_1 = some true) ∧ Aside0 (kq ≤ k) ∧ Aside0 (wc.heap[gb101]? = some (.cells #[.string a0_0, .int .i64 a0_1] 23 (0, 0))) ∧ Aside0 (wc.heap[gb102]? = some (.cells #[.string a1_0, .int .i64 a1_1] 23 (0, 0))) ∧ Aside0 (Below w.heap.size w wc))
 case first =>
  have H := HC5.out
  clear HC5
  by_cases c8 : (l2.length : Int) > 10000
  ·rw [if_pos c8] at H
   have c8b0 : decide (10000 < (l2.length : Int)) = true := decide_eq_true c8
   have c8b1 : decide (10000 < l2.length) = true := decide_eq_true (by omega)
   clear c8
   (first | rw [c8b0] | rw [c8b1] | (simp only [i64_w, i32_w]; rw [c8b0]) | skip)
   have H' := Aside0.mk H
   clear H
   go_wp2
   go_meet
   case rel => exact ⟨_, (true), k92_, H', ⟨k95_⟩, ⟨k85_⟩, ⟨k86_⟩, ⟨k65_⟩⟩
  ·rw [if_neg c8] at H
   have c8b0 : decide (10000 < (l2.length : Int)) = false := decide_eq_false c8
   have c8b1 : decide (10000 < l2.length) = false := decide_eq_false (by omega)
   clear c8
   (first | rw [c8b0] | rw [c8b1] | (simp only [i64_w, i32_w]; rw [c8b0]) | skip)
   have H' := Aside0.mk H
   clear H
   go_wp2
   go_meet
   case rel => exact ⟨_, (decide ((a3.size : Int) > 1048576)), k92_, H', ⟨k95_⟩, ⟨k85_⟩, ⟨k86_⟩, ⟨k65_⟩⟩
 case rest =>
  clear HC5
  obtain ⟨kq, x71_4, rfl, HA, HJ4, BK101, BK102, HB⟩ := hcut
  cases kq with
  | zero => exact absurd HA.out (by simp [laws_FnPatternsAnsweredOfAll.j0])
  | succ kj4 =>
   have H := HA.out
   clear HA
   simp only [laws_FnPatternsAnsweredOfAll.j0] at H
   by_cases c9 : x71_4 = true
   ·subst c9
    have H1 : (some true) = some true := rfl
    clear H
    have H := H1
    clear H1
    clear H
    go_wp2
    go_ret
    exact ⟨k70_, k65_⟩
   ·replace c9 := Bool.eq_false_iff.mpr c9
    subst c9
    rw [if_neg (show ¬ (false = true) by decide)] at H
    obtain ⟨⟨t103, t106⟩, A10, H⟩ := obnd_ H
    (try dsimp only at H)
    obtain ⟨⟨t107, t110⟩, A11, H⟩ := obnd_ H
    (try dsimp only at H)
    obtain ⟨⟨t111, t112⟩, A12, H⟩ := obnd_ H
    (try dsimp only at H)
    obtain ⟨⟨t113, t114⟩, A13, H⟩ := obnd_ H
    (try dsimp only at H)
    obtain ⟨⟨t115, t118⟩, A14, H⟩ := obnd_ H
    (try dsimp only at H)
    obtain ⟨⟨t119, t122⟩, A15, H⟩ := obnd_ H
    (try dsimp only at H)
    obtain ⟨⟨t123, t126⟩, A16, H⟩ := obnd_ H
    (try dsimp only at H)
    obtain ⟨⟨t127, t130⟩, A17, H⟩ := obnd_ H
    (try dsimp only at H)
    obtain ⟨⟨t131, t134⟩, A18, H⟩ := obnd_ H
    (try dsimp only at H)
    obtain ⟨⟨t135, t138⟩, A19, H⟩ := obnd_ H
    (try dsimp only at H)
    obtain ⟨⟨t139, t140, t141, t142⟩, A20, H⟩ := obnd_ H
    (try dsimp only at H)
    obtain ⟨⟨t144, t145, t146, t147⟩, A21, H⟩ := obnd_ H
    (try dsimp only at H)
    obtain ⟨⟨t149, t150⟩, A22, H⟩ := obnd_ H
    (try dsimp only at H)
    obtain ⟨⟨t151, t152⟩, A23, H⟩ := obnd_ H
    (try dsimp only at H)
    have HC24 := Aside0.mk H
    clear H
    have hnb25 := NB101_102.out
    have hnc25 := NB102_101.out
    have hcz26_0 : wc.cell? ⟨gb101, 0, none⟩ = some (.string a0_0) := (blk_cell BK101.out 0).trans rfl
    have hcz26_1 : wc.cell? ⟨gb101, 1, none⟩ = some (.int .i64 a0_1) := (blk_cell BK101.out 1).trans rfl
    have hfz26_0 := blk_frozen BK101.out 0
    have hfz26_1 := blk_frozen BK101.out 1
    go_upto_region 17 with (first | ((with_reducible refine gate_callee (f := 5) rfl ?_); refine goesL_ (some 74) rfl rfl Tryz.func5 (by kernel_rfl) rfl #[.agg #[.string a0_0, .int .i64 a0_1]] rfl k59_ ?_; (with_reducible refine (impl_Answers.calls kj4 a0_0 a0_1 t103 t106 _ A10.out).mono ?_); rintro e w27 ⟨v104, rfl, ho0, hb⟩; refine ⟨_, rfl, ?_⟩; have HO105 := Aside0.mk (Kd.S_lower ho0 (below_size k65_)); replace BK101 := BK101.mw hb; replace BK102 := BK102.mw hb; replace HB := Aside0.mk (below_step k65_ hb); (try clear hb ho0); have hcz28_0 : w27.cell? ⟨gb101, 0, none⟩ = some (.string a0_0) := (blk_cell BK101.out 0).trans rfl; have hcz28_1 : w27.cell? ⟨gb101, 1, none⟩ = some (.int .i64 a0_1) := (blk_cell BK101.out 1).trans rfl; have hfz28_0 := blk_frozen BK101.out 0; have hfz28_1 := blk_frozen BK101.out 1) | ((with_reducible refine gate_callee (f := 6) rfl ?_); refine goesL_ (some 79) rfl rfl Tryz.func6 (by kernel_rfl) rfl #[.agg #[.string a0_0, .int .i64 a0_1]] rfl k59_ ?_; (with_reducible refine (spec_Answers.calls kj4 a0_0 a0_1 t107 t110 _ A11.out).mono ?_); rintro e w29 ⟨v108, rfl, ho0, hb⟩; refine ⟨_, rfl, ?_⟩; have HO109 := Aside0.mk (Kd.S_lower (Kd.S_new' ho0 (Kd.S_lt k76_)) (below_size k65_)); replace HO105 := Aside0.mk (Kd.S_elder' k76_ (Kd.S_base ho0) hb); replace BK101 := BK101.mw hb; replace BK102 := BK102.mw hb; replace HB := Aside0.mk (below_step k65_ hb); (try clear hb ho0); have hcz30_0 : w29.cell? ⟨gb101, 0, none⟩ = some (.string a0_0) := (blk_cell BK101.out 0).trans rfl; have hcz30_1 : w29.cell? ⟨gb101, 1, none⟩ = some (.int .i64 a0_1) := (blk_cell BK101.out 1).trans rfl; have hfz30_0 := blk_frozen BK101.out 0; have hfz30_1 := blk_frozen BK101.out 1) | ((with_reducible refine gate_callee (f := 7) rfl ?_); refine goesL_ (some 84) rfl rfl Tryz.func7 (by kernel_rfl) rfl #[.agg #[.string a0_0, .int .i64 a0_1]] rfl k59_ ?_; (with_reducible refine (impl_CountAnswers.calls kj4 a0_0 a0_1 t111 t112 _ A12.out).mono ?_); rintro e w31 ⟨rfl, hb⟩; refine ⟨_, rfl, ?_⟩; replace HO105 := HO105.mw hb; replace HO109 := HO109.mw hb; replace BK101 := BK101.mw hb; replace BK102 := BK102.mw hb; replace HB := Aside0.mk (below_step k65_ hb); (try clear hb); have hcz32_0 : w31.cell? ⟨gb101, 0, none⟩ = some (.string a0_0) := (blk_cell BK101.out 0).trans rfl; have hcz32_1 : w31.cell? ⟨gb101, 1, none⟩ = some (.int .i64 a0_1) := (blk_cell BK101.out 1).trans rfl; have hfz32_0 := blk_frozen BK101.out 0; have hfz32_1 := blk_frozen BK101.out 1) | ((with_reducible refine gate_callee (f := 8) rfl ?_); refine goesL_ (some 89) rfl rfl Tryz.func8 (by kernel_rfl) rfl #[.agg #[.string a0_0, .int .i64 a0_1]] rfl k59_ ?_; (with_reducible refine (spec_CountAnswers.calls kj4 a0_0 a0_1 t113 t114 _ A13.out).mono ?_); rintro e w33 ⟨rfl, hb⟩; refine ⟨_, rfl, ?_⟩; replace HO105 := HO105.mw hb; replace HO109 := HO109.mw hb; replace BK101 := BK101.mw hb; replace BK102 := BK102.mw hb; replace HB := Aside0.mk (below_step k65_ hb); (try clear hb); have hcz34_0 : w33.cell? ⟨gb101, 0, none⟩ = some (.string a0_0) := (blk_cell BK101.out 0).trans rfl; have hcz34_1 : w33.cell? ⟨gb101, 1, none⟩ = some (.int .i64 a0_1) := (blk_cell BK101.out 1).trans rfl; have hfz34_0 := blk_frozen BK101.out 0; have hfz34_1 := blk_frozen BK101.out 1) | ((with_reducible refine gate_callee (f := 9) rfl ?_); refine goesL_ (some 94) rfl rfl Tryz.func9 (by kernel_rfl) rfl #[.agg #[.string a0_0, .int .i64 a0_1]] rfl k59_ ?_; (with_reducible refine (impl_FirstAnswer.calls kj4 a0_0 a0_1 t115 t118 _ A14.out).mono ?_); rintro e w35 ⟨v116, rfl, ho0, hb⟩; refine ⟨_, rfl, ?_⟩; replace HO105 := Aside0.mk (Kd.S_elder' k76_ (Kd.R_base ho0) hb); replace HO109 := Aside0.mk (Kd.S_elder' k77_ (Kd.R_base ho0) hb); have HO117 := Aside0.mk (Kd.R_lower ho0 (below_size k65_)); replace BK101 := BK101.mw hb; replace BK102 := BK102.mw hb; replace HB := Aside0.mk (below_step k65_ hb); (try clear hb ho0); have hcz36_0 : w35.cell? ⟨gb101, 0, none⟩ = some (.string a0_0) := (blk_cell BK101.out 0).trans rfl; have hcz36_1 : w35.cell? ⟨gb101, 1, none⟩ = some (.int .i64 a0_1) := (blk_cell BK101.out 1).trans rfl; have hfz36_0 := blk_frozen BK101.out 0; have hfz36_1 := blk_frozen BK101.out 1) | ((with_reducible refine gate_callee (f := 10) rfl ?_); refine goesL_ (some 99) rfl rfl Tryz.func10 (by kernel_rfl) rfl #[.agg #[.string a0_0, .int .i64 a0_1]] rfl k59_ ?_; (with_reducible refine (spec_FirstAnswer.calls kj4 a0_0 a0_1 t119 t122 _ A15.out).mono ?_); rintro e w37 ⟨v120, rfl, ho0, hb⟩; refine ⟨_, rfl, ?_⟩; replace HO105 := Aside0.mk (Kd.S_elder' k76_ (Kd.R_base ho0) hb); replace HO109 := Aside0.mk (Kd.S_elder' k77_ (Kd.R_base ho0) hb); have HO121 := Aside0.mk (Kd.R_lower (Kd.R_new' ho0 (Kd.R_lt k79_)) (below_size k65_)); replace HO117 := Aside0.mk (Kd.R_elder' k79_ (Kd.R_base ho0) hb); replace BK101 := BK101.mw hb; replace BK102 := BK102.mw hb; replace HB := Aside0.mk (below_step k65_ hb); (try clear hb ho0); have hcz38_0 : w37.cell? ⟨gb101, 0, none⟩ = some (.string a0_0) := (blk_cell BK101.out 0).trans rfl; have hcz38_1 : w37.cell? ⟨gb101, 1, none⟩ = some (.int .i64 a0_1) := (blk_cell BK101.out 1).trans rfl; have hfz38_0 := blk_frozen BK101.out 0; have hfz38_1 := blk_frozen BK101.out 1) | ((with_reducible refine gate_callee (f := 11) rfl ?_); refine goesL_ (some 104) rfl rfl Tryz.func11 (by kernel_rfl) rfl #[.agg #[.string a0_0, .int .i64 a0_1]] rfl k59_ ?_; (with_reducible refine (impl_SureRules.calls kj4 a0_0 a0_1 t123 t126 _ A16.out).mono ?_); rintro e w39 ⟨v124, rfl, ho0, hb⟩; refine ⟨_, rfl, ?_⟩; replace HO105 := Aside0.mk (Kd.S_elder' k76_ (Kd.R_base ho0) hb); replace HO109 := Aside0.mk (Kd.S_elder' k77_ (Kd.R_base ho0) hb); have HO125 := Aside0.mk (Kd.R_lower (Kd.R_new' (Kd.R_new' ho0 (Kd.R_lt k79_)) (Kd.R_lt k80_)) (below_size k65_)); replace HO117 := Aside0.mk (Kd.R_elder' k79_ (Kd.R_base ho0) hb); replace HO121 := Aside0.mk (Kd.R_elder' k80_ (Kd.R_base ho0) hb); replace BK101 := BK101.mw hb; replace BK102 := BK102.mw hb; replace HB := Aside0.mk (below_step k65_ hb); (try clear hb ho0); have hcz40_0 : w39.cell? ⟨gb101, 0, none⟩ = some (.string a0_0) := (blk_cell BK101.out 0).trans rfl; have hcz40_1 : w39.cell? ⟨gb101, 1, none⟩ = some (.int .i64 a0_1) := (blk_cell BK101.out 1).trans rfl; have hfz40_0 := blk_frozen BK101.out 0; have hfz40_1 := blk_frozen BK101.out 1) | ((with_reducible refine gate_callee (f := 12) rfl ?_); refine goesL_ (some 109) rfl rfl Tryz.func12 (by kernel_rfl) rfl #[.agg #[.string a0_0, .int .i64 a0_1]] rfl k59_ ?_; (with_reducible refine (spec_SureRules.calls kj4 a0_0 a0_1 t127 t130 _ A17.out).mono ?_); rintro e w41 ⟨v128, rfl, ho0, hb⟩; refine ⟨_, rfl, ?_⟩; replace HO105 := Aside0.mk (Kd.S_elder' k76_ (Kd.R_base ho0) hb); replace HO109 := Aside0.mk (Kd.S_elder' k77_ (Kd.R_base ho0) hb); have HO129 := Aside0.mk (Kd.R_lower (Kd.R_new' (Kd.R_new' (Kd.R_new' ho0 (Kd.R_lt k79_)) (Kd.R_lt k80_)) (Kd.R_lt k81_)) (below_size k65_)); replace HO117 := Aside0.mk (Kd.R_elder' k79_ (Kd.R_base ho0) hb); replace HO121 := Aside0.mk (Kd.R_elder' k80_ (Kd.R_base ho0) hb); replace HO125 := Aside0.mk (Kd.R_elder' k81_ (Kd.R_base ho0) hb); replace BK101 := BK101.mw hb; replace BK102 := BK102.mw hb; replace HB := Aside0.mk (below_step k65_ hb); (try clear hb ho0); have hcz42_0 : w41.cell? ⟨gb101, 0, none⟩ = some (.string a0_0) := (blk_cell BK101.out 0).trans rfl; have hcz42_1 : w41.cell? ⟨gb101, 1, none⟩ = some (.int .i64 a0_1) := (blk_cell BK101.out 1).trans rfl; have hfz42_0 := blk_frozen BK101.out 0; have hfz42_1 := blk_frozen BK101.out 1) | ((with_reducible refine gate_callee (f := 13) rfl ?_); refine goesL_ (some 114) rfl rfl Tryz.func13 (by kernel_rfl) rfl #[.agg #[.string a0_0, .int .i64 a0_1]] rfl k59_ ?_; (with_reducible refine (impl_RulesThatFit.calls kj4 a0_0 a0_1 t131 t134 _ A18.out).mono ?_); rintro e w43 ⟨v132, rfl, ho0, hb⟩; refine ⟨_, rfl, ?_⟩; replace HO105 := Aside0.mk (Kd.S_elder' k76_ (Kd.R_base ho0) hb); replace HO109 := Aside0.mk (Kd.S_elder' k77_ (Kd.R_base ho0) hb); have HO133 := Aside0.mk (Kd.R_lower (Kd.R_new' (Kd.R_new' (Kd.R_new' (Kd.R_new' ho0 (Kd.R_lt k79_)) (Kd.R_lt k80_)) (Kd.R_lt k81_)) (Kd.R_lt (by apply_rules only [HO129.out, Kd.R_alloc, Kd.R_drewN, Kd.R_drew]))) (below_size k65_)); replace HO117 := Aside0.mk (Kd.R_elder' k79_ (Kd.R_base ho0) hb); replace HO121 := Aside0.mk (Kd.R_elder' k80_ (Kd.R_base ho0) hb); replace HO125 := Aside0.mk (Kd.R_elder' k81_ (Kd.R_base ho0) hb); replace HO129 := Aside0.mk (Kd.R_elder' (by apply_rules only [HO129.out, Kd.R_alloc, Kd.R_drewN, Kd.R_drew]) (Kd.R_base ho0) hb); replace BK101 := BK101.mw hb; replace BK102 := BK102.mw hb; replace HB := Aside0.mk (below_step k65_ hb); (try clear hb ho0); have hcz44_0 : w43.cell? ⟨gb101, 0, none⟩ = some (.string a0_0) := (blk_cell BK101.out 0).trans rfl; have hcz44_1 : w43.cell? ⟨gb101, 1, none⟩ = some (.int .i64 a0_1) := (blk_cell BK101.out 1).trans rfl; have hfz44_0 := blk_frozen BK101.out 0; have hfz44_1 := blk_frozen BK101.out 1) | ((with_reducible refine gate_callee (f := 14) rfl ?_); refine goesL_ (some 119) rfl rfl Tryz.func14 (by kernel_rfl) rfl #[.agg #[.string a0_0, .int .i64 a0_1]] rfl k59_ ?_; (with_reducible refine (spec_RulesThatFit.calls kj4 a0_0 a0_1 t135 t138 _ A19.out).mono ?_); rintro e w45 ⟨v136, rfl, ho0, hb⟩; refine ⟨_, rfl, ?_⟩; replace HO105 := Aside0.mk (Kd.S_elder' k76_ (Kd.R_base ho0) hb); replace HO109 := Aside0.mk (Kd.S_elder' k77_ (Kd.R_base ho0) hb); have HO137 := Aside0.mk (Kd.R_lower (Kd.R_new' (Kd.R_new' (Kd.R_new' (Kd.R_new' (Kd.R_new' ho0 (Kd.R_lt k79_)) (Kd.R_lt k80_)) (Kd.R_lt k81_)) (Kd.R_lt (by apply_rules only [HO129.out, Kd.R_alloc, Kd.R_drewN, Kd.R_drew]))) (Kd.R_lt (by apply_rules only [HO133.out, Kd.R_alloc, Kd.R_drewN, Kd.R_drew]))) (below_size k65_)); replace HO117 := Aside0.mk (Kd.R_elder' k79_ (Kd.R_base ho0) hb); replace HO121 := Aside0.mk (Kd.R_elder' k80_ (Kd.R_base ho0) hb); replace HO125 := Aside0.mk (Kd.R_elder' k81_ (Kd.R_base ho0) hb); replace HO129 := Aside0.mk (Kd.R_elder' (by apply_rules only [HO129.out, Kd.R_alloc, Kd.R_drewN, Kd.R_drew]) (Kd.R_base ho0) hb); replace HO133 := Aside0.mk (Kd.R_elder' (by apply_rules only [HO133.out, Kd.R_alloc, Kd.R_drewN, Kd.R_drew]) (Kd.R_base ho0) hb); replace BK101 := BK101.mw hb; replace BK102 := BK102.mw hb; replace HB := Aside0.mk (below_step k65_ hb); (try clear hb ho0); have hcz46_0 : w45.cell? ⟨gb101, 0, none⟩ = some (.string a0_0) := (blk_cell BK101.out 0).trans rfl; have hcz46_1 : w45.cell? ⟨gb101, 1, none⟩ = some (.int .i64 a0_1) := (blk_cell BK101.out 1).trans rfl; have hfz46_0 := blk_frozen BK101.out 0; have hfz46_1 := blk_frozen BK101.out 1) | ((with_reducible refine gate_callee (f := 15) rfl ?_); refine goesL_ (some 124) rfl rfl Tryz.func15 (by kernel_rfl) rfl #[.agg #[.string a0_0, .int .i64 a0_1]] rfl k59_ ?_; (with_reducible refine (impl_HintOf.calls kj4 a0_0 a0_1 t139 t140 t141 t142 _ A20.out).mono ?_); rintro e w47 ⟨rfl, hb⟩; refine ⟨_, rfl, ?_⟩; replace HO105 := HO105.mw hb; replace HO109 := HO109.mw hb; replace HO117 := HO117.mw hb; replace HO121 := HO121.mw hb; replace HO125 := HO125.mw hb; replace HO129 := HO129.mw hb; replace HO133 := HO133.mw hb; replace HO137 := HO137.mw hb; replace BK101 := BK101.mw hb; replace BK102 := BK102.mw hb; replace HB := Aside0.mk (below_step k65_ hb); (try clear hb)) | ((with_reducible refine gate_dst (N := 30) rfl ?_); (try (refine gate_guard (by rfl) ?_; dsimp only)); refine box_event ?hg (N := 30) ?hd (cs := #[.int .i64 0, .int .i64 0]) (t := 33) ?hr ?_; (case hd => rfl); (case hg => rfl); (case hr => exact k94_); intro gb143 hg w48 hbox hb; replace HO105 := Aside0.mk (Kd.S_below (Kd.S_elderB k76_ gb143 (Nat.le_of_eq hg.symm)) hb); replace HO109 := Aside0.mk (Kd.S_below (Kd.S_elderB k77_ gb143 (Nat.le_of_eq hg.symm)) hb); replace HO117 := Aside0.mk (Kd.R_below (Kd.R_elderB k79_ gb143 (Nat.le_of_eq hg.symm)) hb); replace HO121 := Aside0.mk (Kd.R_below (Kd.R_elderB k80_ gb143 (Nat.le_of_eq hg.symm)) hb); replace HO125 := Aside0.mk (Kd.R_below (Kd.R_elderB k81_ gb143 (Nat.le_of_eq hg.symm)) hb); replace HO129 := Aside0.mk (Kd.R_below (Kd.R_elderB (by apply_rules only [HO129.out, Kd.R_alloc, Kd.R_drewN, Kd.R_drew]) gb143 (Nat.le_of_eq hg.symm)) hb); replace HO133 := Aside0.mk (Kd.R_below (Kd.R_elderB (by apply_rules only [HO133.out, Kd.R_alloc, Kd.R_drewN, Kd.R_drew]) gb143 (Nat.le_of_eq hg.symm)) hb); replace HO137 := Aside0.mk (Kd.R_below (Kd.R_elderB (by apply_rules only [HO137.out, Kd.R_alloc, Kd.R_drewN, Kd.R_drew]) gb143 (Nat.le_of_eq hg.symm)) hb); have BK143 := Aside0.mk (hbox); have GW143 := Aside0.mk ((by rw [hg]; exact (below_size k65_) : w.heap.size ≤ gb143)); have GE143 := Aside0.mk ((by rw [hg]; exact (below_size k65_) : w.heap.size ≤ gb143)); replace HB := Aside0.mk (below_step k65_ hb); have NB101_143 := Aside0.mk (BK101.ne hg); have NB143_101 := Aside0.mk (BK101.ne hg).symm; replace BK101 := BK101.mw hb; have NB102_143 := Aside0.mk (BK102.ne hg); have NB143_102 := Aside0.mk (BK102.ne hg).symm; replace BK102 := BK102.mw hb; clear hb hbox hg; have hnb49 := NB143_101.out; have hnc49 := NB101_143.out; have hnb50 := NB143_102.out; have hnc50 := NB102_143.out; have hcz51_0 : w48.cell? ⟨gb143, 0, none⟩ = some (.int .i64 0) := (blk_cell BK143.out 0).trans rfl; have hcz51_1 : w48.cell? ⟨gb143, 1, none⟩ = some (.int .i64 0) := (blk_cell BK143.out 1).trans rfl; have hfz51_0 := blk_frozen BK143.out 0; have hfz51_1 := blk_frozen BK143.out 1; have hcz52_0 : w48.cell? ⟨gb101, 0, none⟩ = some (.string a0_0) := (blk_cell BK101.out 0).trans rfl; have hcz52_1 : w48.cell? ⟨gb101, 1, none⟩ = some (.int .i64 a0_1) := (blk_cell BK101.out 1).trans rfl; have hfz52_0 := blk_frozen BK101.out 0; have hfz52_1 := blk_frozen BK101.out 1) | ((with_reducible refine gate_callee (f := 16) rfl ?_); refine goesL_ (some 130) rfl rfl Tryz.func16 (by kernel_rfl) rfl #[.agg #[.string a0_0, .int .i64 a0_1]] rfl k59_ ?_; (with_reducible refine (spec_HintOf.calls kj4 a0_0 a0_1 t144 t145 t146 t147 _ A21.out).mono ?_); rintro e w53 ⟨rfl, hb⟩; refine ⟨_, rfl, ?_⟩; replace HO105 := Aside0.mk (Kd.S_below (by (with_reducible repeat (first | apply Kd.S_alloc | apply Kd.S_drewN | apply Kd.S_drew)); exact (Kd.S_mono (Kd.S_far (p := ⟨gb143, 1, none⟩) (Kd.S_far (p := ⟨gb143, 0, none⟩) (Kd.S_mono HO105.out (fun k_ hk => (⟨hk, hk.2⟩ : _ ∧ k_ ≠ gb143))) (fun _ hk => hk.2) (.int .i64 t140)) (fun _ hk => hk.2) (.int .i64 t141)) (fun _ h_ => h_.1))) hb); replace HO109 := Aside0.mk (Kd.S_below (by (with_reducible repeat (first | apply Kd.S_alloc | apply Kd.S_drewN | apply Kd.S_drew)); exact (Kd.S_mono (Kd.S_far (p := ⟨gb143, 1, none⟩) (Kd.S_far (p := ⟨gb143, 0, none⟩) (Kd.S_mono HO109.out (fun k_ hk => (⟨hk, hk.2⟩ : _ ∧ k_ ≠ gb143))) (fun _ hk => hk.2) (.int .i64 t140)) (fun _ hk => hk.2) (.int .i64 t141)) (fun _ h_ => h_.1))) hb); replace HO117 := Aside0.mk (Kd.R_below (by (with_reducible repeat (first | apply Kd.R_alloc | apply Kd.R_drewN | apply Kd.R_drew)); exact (Kd.R_mono (Kd.R_far (p := ⟨gb143, 1, none⟩) (Kd.R_far (p := ⟨gb143, 0, none⟩) (Kd.R_mono HO117.out (fun k_ hk => (⟨hk, hk.2⟩ : _ ∧ k_ ≠ gb143))) (fun _ hk => hk.2) (.int .i64 t140)) (fun _ hk => hk.2) (.int .i64 t141)) (fun _ h_ => h_.1))) hb); replace HO121 := Aside0.mk (Kd.R_below (by (with_reducible repeat (first | apply Kd.R_alloc | apply Kd.R_drewN | apply Kd.R_drew)); exact (Kd.R_mono (Kd.R_far (p := ⟨gb143, 1, none⟩) (Kd.R_far (p := ⟨gb143, 0, none⟩) (Kd.R_mono HO121.out (fun k_ hk => (⟨hk, hk.2⟩ : _ ∧ k_ ≠ gb143))) (fun _ hk => hk.2) (.int .i64 t140)) (fun _ hk => hk.2) (.int .i64 t141)) (fun _ h_ => h_.1))) hb); replace HO125 := Aside0.mk (Kd.R_below (by (with_reducible repeat (first | apply Kd.R_alloc | apply Kd.R_drewN | apply Kd.R_drew)); exact (Kd.R_mono (Kd.R_far (p := ⟨gb143, 1, none⟩) (Kd.R_far (p := ⟨gb143, 0, none⟩) (Kd.R_mono HO125.out (fun k_ hk => (⟨hk, hk.2⟩ : _ ∧ k_ ≠ gb143))) (fun _ hk => hk.2) (.int .i64 t140)) (fun _ hk => hk.2) (.int .i64 t141)) (fun _ h_ => h_.1))) hb); replace HO129 := Aside0.mk (Kd.R_below (by (with_reducible repeat (first | apply Kd.R_alloc | apply Kd.R_drewN | apply Kd.R_drew)); exact (Kd.R_mono (Kd.R_far (p := ⟨gb143, 1, none⟩) (Kd.R_far (p := ⟨gb143, 0, none⟩) (Kd.R_mono HO129.out (fun k_ hk => (⟨hk, hk.2⟩ : _ ∧ k_ ≠ gb143))) (fun _ hk => hk.2) (.int .i64 t140)) (fun _ hk => hk.2) (.int .i64 t141)) (fun _ h_ => h_.1))) hb); replace HO133 := Aside0.mk (Kd.R_below (by (with_reducible repeat (first | apply Kd.R_alloc | apply Kd.R_drewN | apply Kd.R_drew)); exact (Kd.R_mono (Kd.R_far (p := ⟨gb143, 1, none⟩) (Kd.R_far (p := ⟨gb143, 0, none⟩) (Kd.R_mono HO133.out (fun k_ hk => (⟨hk, hk.2⟩ : _ ∧ k_ ≠ gb143))) (fun _ hk => hk.2) (.int .i64 t140)) (fun _ hk => hk.2) (.int .i64 t141)) (fun _ h_ => h_.1))) hb); replace HO137 := Aside0.mk (Kd.R_below (by (with_reducible repeat (first | apply Kd.R_alloc | apply Kd.R_drewN | apply Kd.R_drew)); exact (Kd.R_mono (Kd.R_far (p := ⟨gb143, 1, none⟩) (Kd.R_far (p := ⟨gb143, 0, none⟩) (Kd.R_mono HO137.out (fun k_ hk => (⟨hk, hk.2⟩ : _ ∧ k_ ≠ gb143))) (fun _ hk => hk.2) (.int .i64 t140)) (fun _ hk => hk.2) (.int .i64 t141)) (fun _ h_ => h_.1))) hb); replace BK101 := Aside0.mk (blk_below (g := gb101) (o := .cells #[.string a0_0, .int .i64 a0_1] 23 (0, 0)) (by (with_reducible repeat (first | refine blk_drewN ?_ _ | refine blk_drew ?_ | refine blk_alloc ?_ _)); refine blk_far ?_ NB101_143.out _; (with_reducible repeat (first | refine blk_drewN ?_ _ | refine blk_drew ?_ | refine blk_alloc ?_ _)); refine blk_far ?_ NB101_143.out _; apply_rules only [BK101.out, blk_drewN, blk_drew, blk_alloc]) hb); replace BK102 := Aside0.mk (blk_below (g := gb102) (o := .cells #[.string a1_0, .int .i64 a1_1] 23 (0, 0)) (by (with_reducible repeat (first | refine blk_drewN ?_ _ | refine blk_drew ?_ | refine blk_alloc ?_ _)); refine blk_far ?_ NB102_143.out _; (with_reducible repeat (first | refine blk_drewN ?_ _ | refine blk_drew ?_ | refine blk_alloc ?_ _)); refine blk_far ?_ NB102_143.out _; apply_rules only [BK102.out, blk_drewN, blk_drew, blk_alloc]) hb); replace BK143 := Aside0.mk (blk_below (g := gb143) (o := .cells #[.int .i64 t140, .int .i64 t141] 33 (0, 0)) (by (with_reducible repeat (first | refine blk_drewN ?_ _ | refine blk_drew ?_ | refine blk_alloc ?_ _)); refine blk_put (cs := #[.int .i64 t140, .int .i64 0]) ?_ 1 _ rfl; (with_reducible repeat (first | refine blk_drewN ?_ _ | refine blk_drew ?_ | refine blk_alloc ?_ _)); refine blk_put (cs := #[.int .i64 0, .int .i64 0]) ?_ 0 _ rfl; apply_rules only [BK143.out, blk_drewN, blk_drew, blk_alloc]) hb); replace HB := Aside0.mk (below_step k63_ hb); (try clear hb)) | ((with_reducible refine gate_dst (N := 33) rfl ?_); (try (refine gate_guard (by rfl) ?_; dsimp only)); refine box_event ?hg (N := 33) ?hd (cs := #[.int .i64 0, .int .i64 0]) (t := 33) ?hr ?_; (case hd => rfl); (case hg => rfl); (case hr => exact k94_); intro gb148 hg w54 hbox hb; replace HO105 := Aside0.mk (Kd.S_below (Kd.S_elderB k76_ gb148 (Nat.le_of_eq hg.symm)) hb); replace HO109 := Aside0.mk (Kd.S_below (Kd.S_elderB k77_ gb148 (Nat.le_of_eq hg.symm)) hb); replace HO117 := Aside0.mk (Kd.R_below (Kd.R_elderB k79_ gb148 (Nat.le_of_eq hg.symm)) hb); replace HO121 := Aside0.mk (Kd.R_below (Kd.R_elderB k80_ gb148 (Nat.le_of_eq hg.symm)) hb); replace HO125 := Aside0.mk (Kd.R_below (Kd.R_elderB k81_ gb148 (Nat.le_of_eq hg.symm)) hb); replace HO129 := Aside0.mk (Kd.R_below (Kd.R_elderB (by apply_rules only [HO129.out, Kd.R_alloc, Kd.R_drewN, Kd.R_drew]) gb148 (Nat.le_of_eq hg.symm)) hb); replace HO133 := Aside0.mk (Kd.R_below (Kd.R_elderB (by apply_rules only [HO133.out, Kd.R_alloc, Kd.R_drewN, Kd.R_drew]) gb148 (Nat.le_of_eq hg.symm)) hb); replace HO137 := Aside0.mk (Kd.R_below (Kd.R_elderB (by apply_rules only [HO137.out, Kd.R_alloc, Kd.R_drewN, Kd.R_drew]) gb148 (Nat.le_of_eq hg.symm)) hb); have BK148 := Aside0.mk (hbox); have GW148 := Aside0.mk ((by rw [hg]; exact (below_size k63_) : w.heap.size ≤ gb148)); have GE148 := Aside0.mk ((by rw [hg]; exact (below_size k63_) : w.heap.size ≤ gb148)); replace HB := Aside0.mk (below_step k63_ hb); have NB101_148 := Aside0.mk (BK101.ne hg); have NB148_101 := Aside0.mk (BK101.ne hg).symm; replace BK101 := BK101.mw hb; have NB102_148 := Aside0.mk (BK102.ne hg); have NB148_102 := Aside0.mk (BK102.ne hg).symm; replace BK102 := BK102.mw hb; have NB143_148 := Aside0.mk (BK143.ne hg); have NB148_143 := Aside0.mk (BK143.ne hg).symm; replace BK143 := BK143.mw hb; clear hb hbox hg; have hnb55 := NB148_101.out; have hnc55 := NB101_148.out; have hnb56 := NB148_102.out; have hnc56 := NB102_148.out; have hnb57 := NB148_143.out; have hnc57 := NB143_148.out; have hcz58_0 : w54.cell? ⟨gb148, 0, none⟩ = some (.int .i64 0) := (blk_cell BK148.out 0).trans rfl; have hcz58_1 : w54.cell? ⟨gb148, 1, none⟩ = some (.int .i64 0) := (blk_cell BK148.out 1).trans rfl; have hfz58_0 := blk_frozen BK148.out 0; have hfz58_1 := blk_frozen BK148.out 1; have hcz59_0 : w54.cell? ⟨gb101, 0, none⟩ = some (.string a0_0) := (blk_cell BK101.out 0).trans rfl; have hcz59_1 : w54.cell? ⟨gb101, 1, none⟩ = some (.int .i64 a0_1) := (blk_cell BK101.out 1).trans rfl; have hfz59_0 := blk_frozen BK101.out 0; have hfz59_1 := blk_frozen BK101.out 1) | ((with_reducible refine gate_callee (f := 17) rfl ?_); refine goesL_ (some 136) rfl rfl Tryz.func17 (by kernel_rfl) rfl #[.agg #[.string a0_0, .int .i64 a0_1]] rfl k59_ ?_; (with_reducible refine (impl_PuzzleText.calls a0_0 a0_1 t149 t150 _ A22.out).mono ?_); rintro e w60 ⟨rfl, hb⟩; refine ⟨_, rfl, ?_⟩; replace HO105 := Aside0.mk (Kd.S_below (by (with_reducible repeat (first | apply Kd.S_alloc | apply Kd.S_drewN | apply Kd.S_drew)); exact (Kd.S_mono (Kd.S_far (p := ⟨gb148, 1, none⟩) (Kd.S_far (p := ⟨gb148, 0, none⟩) (Kd.S_mono HO105.out (fun k_ hk => (⟨hk, hk.2⟩ : _ ∧ k_ ≠ gb148))) (fun _ hk => hk.2) (.int .i64 t145)) (fun _ hk => hk.2) (.int .i64 t146)) (fun _ h_ => h_.1))) hb); replace HO109 := Aside0.mk (Kd.S_below (by (with_reducible repeat (first | apply Kd.S_alloc | apply Kd.S_drewN | apply Kd.S_drew)); exact (Kd.S_mono (Kd.S_far (p := ⟨gb148, 1, none⟩) (Kd.S_far (p := ⟨gb148, 0, none⟩) (Kd.S_mono HO109.out (fun k_ hk => (⟨hk, hk.2⟩ : _ ∧ k_ ≠ gb148))) (fun _ hk => hk.2) (.int .i64 t145)) (fun _ hk => hk.2) (.int .i64 t146)) (fun _ h_ => h_.1))) hb); replace HO117 := Aside0.mk (Kd.R_below (by (with_reducible repeat (first | apply Kd.R_alloc | apply Kd.R_drewN | apply Kd.R_drew)); exact (Kd.R_mono (Kd.R_far (p := ⟨gb148, 1, none⟩) (Kd.R_far (p := ⟨gb148, 0, none⟩) (Kd.R_mono HO117.out (fun k_ hk => (⟨hk, hk.2⟩ : _ ∧ k_ ≠ gb148))) (fun _ hk => hk.2) (.int .i64 t145)) (fun _ hk => hk.2) (.int .i64 t146)) (fun _ h_ => h_.1))) hb); replace HO121 := Aside0.mk (Kd.R_below (by (with_reducible repeat (first | apply Kd.R_alloc | apply Kd.R_drewN | apply Kd.R_drew)); exact (Kd.R_mono (Kd.R_far (p := ⟨gb148, 1, none⟩) (Kd.R_far (p := ⟨gb148, 0, none⟩) (Kd.R_mono HO121.out (fun k_ hk => (⟨hk, hk.2⟩ : _ ∧ k_ ≠ gb148))) (fun _ hk => hk.2) (.int .i64 t145)) (fun _ hk => hk.2) (.int .i64 t146)) (fun _ h_ => h_.1))) hb); replace HO125 := Aside0.mk (Kd.R_below (by (with_reducible repeat (first | apply Kd.R_alloc | apply Kd.R_drewN | apply Kd.R_drew)); exact (Kd.R_mono (Kd.R_far (p := ⟨gb148, 1, none⟩) (Kd.R_far (p := ⟨gb148, 0, none⟩) (Kd.R_mono HO125.out (fun k_ hk => (⟨hk, hk.2⟩ : _ ∧ k_ ≠ gb148))) (fun _ hk => hk.2) (.int .i64 t145)) (fun _ hk => hk.2) (.int .i64 t146)) (fun _ h_ => h_.1))) hb); replace HO129 := Aside0.mk (Kd.R_below (by (with_reducible repeat (first | apply Kd.R_alloc | apply Kd.R_drewN | apply Kd.R_drew)); exact (Kd.R_mono (Kd.R_far (p := ⟨gb148, 1, none⟩) (Kd.R_far (p := ⟨gb148, 0, none⟩) (Kd.R_mono HO129.out (fun k_ hk => (⟨hk, hk.2⟩ : _ ∧ k_ ≠ gb148))) (fun _ hk => hk.2) (.int .i64 t145)) (fun _ hk => hk.2) (.int .i64 t146)) (fun _ h_ => h_.1))) hb); replace HO133 := Aside0.mk (Kd.R_below (by (with_reducible repeat (first | apply Kd.R_alloc | apply Kd.R_drewN | apply Kd.R_drew)); exact (Kd.R_mono (Kd.R_far (p := ⟨gb148, 1, none⟩) (Kd.R_far (p := ⟨gb148, 0, none⟩) (Kd.R_mono HO133.out (fun k_ hk => (⟨hk, hk.2⟩ : _ ∧ k_ ≠ gb148))) (fun _ hk => hk.2) (.int .i64 t145)) (fun _ hk => hk.2) (.int .i64 t146)) (fun _ h_ => h_.1))) hb); replace HO137 := Aside0.mk (Kd.R_below (by (with_reducible repeat (first | apply Kd.R_alloc | apply Kd.R_drewN | apply Kd.R_drew)); exact (Kd.R_mono (Kd.R_far (p := ⟨gb148, 1, none⟩) (Kd.R_far (p := ⟨gb148, 0, none⟩) (Kd.R_mono HO137.out (fun k_ hk => (⟨hk, hk.2⟩ : _ ∧ k_ ≠ gb148))) (fun _ hk => hk.2) (.int .i64 t145)) (fun _ hk => hk.2) (.int .i64 t146)) (fun _ h_ => h_.1))) hb); replace BK101 := Aside0.mk (blk_below (g := gb101) (o := .cells #[.string a0_0, .int .i64 a0_1] 23 (0, 0)) (by (with_reducible repeat (first | refine blk_drewN ?_ _ | refine blk_drew ?_ | refine blk_alloc ?_ _)); refine blk_far ?_ NB101_148.out _; (with_reducible repeat (first | refine blk_drewN ?_ _ | refine blk_drew ?_ | refine blk_alloc ?_ _)); refine blk_far ?_ NB101_148.out _; apply_rules only [BK101.out, blk_drewN, blk_drew, blk_alloc]) hb); replace BK102 := Aside0.mk (blk_below (g := gb102) (o := .cells #[.string a1_0, .int .i64 a1_1] 23 (0, 0)) (by (with_reducible repeat (first | refine blk_drewN ?_ _ | refine blk_drew ?_ | refine blk_alloc ?_ _)); refine blk_far ?_ NB102_148.out _; (with_reducible repeat (first | refine blk_drewN ?_ _ | refine blk_drew ?_ | refine blk_alloc ?_ _)); refine blk_far ?_ NB102_148.out _; apply_rules only [BK102.out, blk_drewN, blk_drew, blk_alloc]) hb); replace BK143 := Aside0.mk (blk_below (g := gb143) (o := .cells #[.int .i64 t140, .int .i64 t141] 33 (0, 0)) (by (with_reducible repeat (first | refine blk_drewN ?_ _ | refine blk_drew ?_ | refine blk_alloc ?_ _)); refine blk_far ?_ NB143_148.out _; (with_reducible repeat (first | refine blk_drewN ?_ _ | refine blk_drew ?_ | refine blk_alloc ?_ _)); refine blk_far ?_ NB143_148.out _; apply_rules only [BK143.out, blk_drewN, blk_drew, blk_alloc]) hb); replace BK148 := Aside0.mk (blk_below (g := gb148) (o := .cells #[.int .i64 t145, .int .i64 t146] 33 (0, 0)) (by (with_reducible repeat (first | refine blk_drewN ?_ _ | refine blk_drew ?_ | refine blk_alloc ?_ _)); refine blk_put (cs := #[.int .i64 t145, .int .i64 0]) ?_ 1 _ rfl; (with_reducible repeat (first | refine blk_drewN ?_ _ | refine blk_drew ?_ | refine blk_alloc ?_ _)); refine blk_put (cs := #[.int .i64 0, .int .i64 0]) ?_ 0 _ rfl; apply_rules only [BK148.out, blk_drewN, blk_drew, blk_alloc]) hb); replace HB := Aside0.mk (below_step k62_ hb); (try clear hb); have hcz61_0 : w60.cell? ⟨gb101, 0, none⟩ = some (.string a0_0) := (blk_cell BK101.out 0).trans rfl; have hcz61_1 : w60.cell? ⟨gb101, 1, none⟩ = some (.int .i64 a0_1) := (blk_cell BK101.out 1).trans rfl; have hfz61_0 := blk_frozen BK101.out 0; have hfz61_1 := blk_frozen BK101.out 1) | ((with_reducible refine gate_callee (f := 18) rfl ?_); refine goesL_ (some 141) rfl rfl Tryz.func18 (by kernel_rfl) rfl #[.agg #[.string a0_0, .int .i64 a0_1]] rfl k59_ ?_; (with_reducible refine (spec_PuzzleText.calls kj4 a0_0 a0_1 t151 t152 _ A23.out).mono ?_); rintro e w62 ⟨rfl, hb⟩; refine ⟨_, rfl, ?_⟩; replace HO105 := HO105.mw hb; replace HO109 := HO109.mw hb; replace HO117 := HO117.mw hb; replace HO121 := HO121.mw hb; replace HO125 := HO125.mw hb; replace HO129 := HO129.mw hb; replace HO133 := HO133.mw hb; replace HO137 := HO137.mw hb; replace BK101 := BK101.mw hb; replace BK102 := BK102.mw hb; replace BK143 := BK143.mw hb; replace BK148 := BK148.mw hb; replace HB := Aside0.mk (below_step k62_ hb); (try clear hb)))
    (try simp only [Act.put, List.setIfInBounds_toArray, List.set_cons_zero, List.set_cons_succ])
    go_cut [264] from 72 to 264 (fun v264 wc => ∃ (kq : Nat) (x264_23 : Bool), v264 = .bool x264_23 ∧ Aside0 (laws_FnPatternsAnsweredOfAll.j1 kq l2 a3 t103 t106 t111 t115 t118 t123 t131 t139 t142 t149 t150 x264_23 a0_0 a0_1 a1_0 a1_1 t140 t141 = some true) ∧ Aside0 (kq ≤ kj4) ∧ Aside0 (Kd.S (Kd.slice 33 kRule) 24 wc w.heap.size (fun k_ => some k_ ≠ (v116 : Value).ownBlock ∧ some k_ ≠ (v124 : Value).ownBlock ∧ some k_ ≠ (v132 : Value).ownBlock ∧ k_ ≠ gb143 ∧ k_ ≠ gb148) v104 t103) ∧ Aside0 (Kd.R kRule 33 wc w.heap.size (fun k_ => some k_ ≠ (v124 : Value).ownBlock ∧ some k_ ≠ (v132 : Value).ownBlock ∧ k_ ≠ gb143 ∧ k_ ≠ gb148) v116 t115) ∧ Aside0 (Kd.R kRule 33 wc w.heap.size (fun k_ => some k_ ≠ (v116 : Value).ownBlock ∧ some k_ ≠ (v132 : Value).ownBlock ∧ k_ ≠ gb143 ∧ k_ ≠ gb148) v124 t123) ∧ Aside0 (Kd.R kRule 33 wc w.heap.size (fun k_ => some k_ ≠ (v116 : Value).ownBlock ∧ some k_ ≠ (v124 : Value).ownBlock ∧ k_ ≠ gb143 ∧ k_ ≠ gb148) v132 t131) ∧ Aside0 (wc.heap[gb101]? = some (.cells #[.string a0_0, .int .i64 a0_1] 23 (0, 0))) ∧ Aside0 (wc.heap[gb102]? = some (.cells #[.string a1_0, .int .i64 a1_1] 23 (0, 0))) ∧ Aside0 (wc.heap[gb143]? = some (.cells #[.int .i64 t140, .int .i64 t141] 33 (0, 0))) ∧ Aside0 (wc.heap[gb148]? = some (.cells #[.int .i64 t145, .int .i64 t146] 33 (0, 0))) ∧ Aside0 (Below w.heap.size w wc))
    case first =>
     have H := HC24.out
     clear HC24
     by_cases c63 : (t106 != t110) = true
     ·rw [if_pos c63] at H
      have c63b0 : (t106 != t110) = true := c63
      (try (have c63b1 : decide (t106 = t110) = false := by simpa using c63))
      (try (have c63b2 : (t106 == t110) = false := by simpa using c63))
      (try (have c63b3 : ¬ (t106 = t110) := by simpa using c63))
      clear c63
      (first | rw [c63b0] | rw [c63b1] | (simp only [i64_w, i32_w]; rw [c63b0]) | skip)
      exact absurd H (by simp)
     ·rw [if_neg c63] at H
      have c63b0 : (t106 != t110) = false := by simpa using c63
      (try (have c63b1 : decide (t106 = t110) = true := by simpa using c63))
      (try (have c63b2 : (t106 == t110) = true := by simpa using c63))
      clear c63
      (first | rw [c63b0] | rw [c63b1] | (simp only [i64_w, i32_w]; rw [c63b0]) | skip)
      obtain ⟨t153, A64, H⟩ := obnd_ H
      (try dsimp only at H)
      by_cases c65 : t153 = true
      ·subst c65
       rw [if_pos rfl] at H
       by_cases c66 : (t112 != t114) = true
       ·rw [if_pos c66] at H
        have c66b0 : (t112 != t114) = true := c66
        (try (have c66b1 : decide (t112 = t114) = false := by simpa using c66))
        (try (have c66b2 : (t112 == t114) = false := by simpa using c66))
        (try (have c66b3 : ¬ (t112 = t114) := by simpa using c66))
        clear c66
        exact absurd H (by simp)
       ·rw [if_neg c66] at H
        have c66b0 : (t112 != t114) = false := by simpa using c66
        (try (have c66b1 : decide (t112 = t114) = true := by simpa using c66))
        (try (have c66b2 : (t112 == t114) = true := by simpa using c66))
        clear c66
        by_cases c67 : t111 = t113
        ·rw [if_pos c67] at H
         have c67b0 : (t111 == t113) = true := beq_iff_eq.mpr c67
         have c67b1 : (t111 != t113) = false := bne_eq_false_iff_eq.mpr c67
         clear c67
         by_cases c68 : (t118 != t122) = true
         ·rw [if_pos c68] at H
          have c68b0 : (t118 != t122) = true := c68
          (try (have c68b1 : decide (t118 = t122) = false := by simpa using c68))
          (try (have c68b2 : (t118 == t122) = false := by simpa using c68))
          (try (have c68b3 : ¬ (t118 = t122) := by simpa using c68))
          clear c68
          exact absurd H (by simp)
         ·rw [if_neg c68] at H
          have c68b0 : (t118 != t122) = false := by simpa using c68
          (try (have c68b1 : decide (t118 = t122) = true := by simpa using c68))
          (try (have c68b2 : (t118 == t122) = true := by simpa using c68))
          clear c68
          obtain ⟨t154, A69, H⟩ := obnd_ H
          (try dsimp only at H)
          by_cases c70 : t154 = true
          ·subst c70
           rw [if_pos rfl] at H
           by_cases c71 : (t126 != t130) = true
           ·rw [if_pos c71] at H
            have c71b0 : (t126 != t130) = true := c71
            (try (have c71b1 : decide (t126 = t130) = false := by simpa using c71))
            (try (have c71b2 : (t126 == t130) = false := by simpa using c71))
            (try (have c71b3 : ¬ (t126 = t130) := by simpa using c71))
            clear c71
            exact absurd H (by simp)
           ·rw [if_neg c71] at H
            have c71b0 : (t126 != t130) = false := by simpa using c71
            (try (have c71b1 : decide (t126 = t130) = true := by simpa using c71))
            (try (have c71b2 : (t126 == t130) = true := by simpa using c71))
            clear c71
            obtain ⟨t155, A72, H⟩ := obnd_ H
            (try dsimp only at H)
            by_cases c73 : t155 = true
            ·subst c73
             rw [if_pos rfl] at H
             by_cases c74 : (t134 != t138) = true
             ·rw [if_pos c74] at H
              have c74b0 : (t134 != t138) = true := c74
              (try (have c74b1 : decide (t134 = t138) = false := by simpa using c74))
              (try (have c74b2 : (t134 == t138) = false := by simpa using c74))
              (try (have c74b3 : ¬ (t134 = t138) := by simpa using c74))
              clear c74
              exact absurd H (by simp)
             ·rw [if_neg c74] at H
              have c74b0 : (t134 != t138) = false := by simpa using c74
              (try (have c74b1 : decide (t134 = t138) = true := by simpa using c74))
              (try (have c74b2 : (t134 == t138) = true := by simpa using c74))
              clear c74
              obtain ⟨t156, A75, H⟩ := obnd_ H
              (try dsimp only at H)
              by_cases c76 : t156 = true
              ·subst c76
               rw [if_pos rfl] at H
               by_cases c77 : (t142 != t147) = true
               ·rw [if_pos c77] at H
                have c77b0 : (t142 != t147) = true := c77
                (try (have c77b1 : decide (t142 = t147) = false := by simpa using c77))
                (try (have c77b2 : (t142 == t147) = false := by simpa using c77))
                (try (have c77b3 : ¬ (t142 = t147) := by simpa using c77))
                clear c77
                exact absurd H (by simp)
               ·rw [if_neg c77] at H
                have c77b0 : (t142 != t147) = false := by simpa using c77
                (try (have c77b1 : decide (t142 = t147) = true := by simpa using c77))
                (try (have c77b2 : (t142 == t147) = true := by simpa using c77))
                clear c77
                by_cases c78 : t139 = t144
                ·rw [if_pos c78] at H
                 have c78b0 : (t139 == t144) = true := beq_iff_eq.mpr c78
                 have c78b1 : (t139 != t144) = false := bne_eq_false_iff_eq.mpr c78
                 clear c78
                 by_cases c79 : (!(t140 == t145) || (!(t141 == t146))) = true
                 ·rw [if_pos c79] at H
                  have c79b0 : (!(t140 == t145) || (!(t141 == t146))) = true := c79
                  clear c79
                  exact absurd H (by simp)
                 ·rw [if_neg c79] at H
                  have c79b0 : (!(t140 == t145) || (!(t141 == t146))) = false := by simpa using c79
                  clear c79
                  by_cases c80 : (t150 != t152) = true
                  ·rw [if_pos c80] at H
                   have c80b0 : (t150 != t152) = true := c80
                   (try (have c80b1 : decide (t150 = t152) = false := by simpa using c80))
                   (try (have c80b2 : (t150 == t152) = false := by simpa using c80))
                   (try (have c80b3 : ¬ (t150 = t152) := by simpa using c80))
                   clear c80
                   exact absurd H (by simp)
                  ·rw [if_neg c80] at H
                   have c80b0 : (t150 != t152) = false := by simpa using c80
                   (try (have c80b1 : decide (t150 = t152) = true := by simpa using c80))
                   (try (have c80b2 : (t150 == t152) = true := by simpa using c80))
                   clear c80
                   by_cases c81 : t149.toList = t151.toList
                   ·rw [if_pos c81] at H
                    have c81b0 : (t149.toList == t151.toList) = true := beq_iff_eq.mpr c81
                    have c81b1 : (t149.toList != t151.toList) = false := bne_eq_false_iff_eq.mpr c81
                    clear c81
                    by_cases c82 : (t112 != t106) = true
                    ·rw [if_pos c82] at H
                     have c82b0 : (t112 != t106) = true := c82
                     (try (have c82b1 : decide (t112 = t106) = false := by simpa using c82))
                     (try (have c82b2 : (t112 == t106) = false := by simpa using c82))
                     (try (have c82b3 : ¬ (t112 = t106) := by simpa using c82))
                     clear c82
                     exact absurd H (by simp)
                    ·rw [if_neg c82] at H
                     have c82b0 : (t112 != t106) = false := by simpa using c82
                     (try (have c82b1 : decide (t112 = t106) = true := by simpa using c82))
                     (try (have c82b2 : (t112 == t106) = true := by simpa using c82))
                     clear c82
                     by_cases c83 : t106 = true
                     ·subst c83
                      rw [if_pos rfl] at H
                      by_cases c84 : (t118 != (decide (t111 > 0))) = true
                      ·rw [if_pos c84] at H
                       have c84b0 : (t118 != (decide (t111 > 0))) = true := c84
                       (try (have c84b1 : decide (t118 = (decide (t111 > 0))) = false := by simpa using c84))
                       (try (have c84b2 : (t118 == (decide (t111 > 0))) = false := by simpa using c84))
                       (try (have c84b3 : ¬ (t118 = (decide (t111 > 0))) := by simpa using c84))
                       clear c84
                       exact absurd H (by simp)
                      ·rw [if_neg c84] at H
                       have c84b0 : (t118 != (decide (t111 > 0))) = false := by simpa using c84
                       (try (have c84b1 : decide (t118 = (decide (t111 > 0))) = true := by simpa using c84))
                       (try (have c84b2 : (t118 == (decide (t111 > 0))) = true := by simpa using c84))
                       clear c84
                       by_cases c85 : (t126 != t118) = true
                       ·rw [if_pos c85] at H
                        have c85b0 : (t126 != t118) = true := c85
                        (try (have c85b1 : decide (t126 = t118) = false := by simpa using c85))
                        (try (have c85b2 : (t126 == t118) = false := by simpa using c85))
                        (try (have c85b3 : ¬ (t126 = t118) := by simpa using c85))
                        clear c85
                        exact absurd H (by simp)
                       ·rw [if_neg c85] at H
                        have c85b0 : (t126 != t118) = false := by simpa using c85
                        (try (have c85b1 : decide (t126 = t118) = true := by simpa using c85))
                        (try (have c85b2 : (t126 == t118) = true := by simpa using c85))
                        clear c85
                        obtain ⟨t157, A86, H⟩ := obnd_ H
                        (try dsimp only at H)
                        by_cases c87 : (t134 != t157) = true
                        ·rw [if_pos c87] at H
                         have c87b0 : (t134 != t157) = true := c87
                         (try (have c87b1 : decide (t134 = t157) = false := by simpa using c87))
                         (try (have c87b2 : (t134 == t157) = false := by simpa using c87))
                         (try (have c87b3 : ¬ (t134 = t157) := by simpa using c87))
                         clear c87
                         exact absurd H (by simp)
                        ·rw [if_neg c87] at H
                         have c87b0 : (t134 != t157) = false := by simpa using c87
                         (try (have c87b1 : decide (t134 = t157) = true := by simpa using c87))
                         (try (have c87b2 : (t134 == t157) = true := by simpa using c87))
                         clear c87
                         obtain ⟨t158, A88, H⟩ := obnd_ H
                         (try dsimp only at H)
                         obtain ⟨t159, A89, H⟩ := obnd_ H
                         (try dsimp only at H)
                         by_cases c90 : (t158 != t159) = true
                         ·rw [if_pos c90] at H
                          have c90b0 : (t158 != t159) = true := c90
                          (try (have c90b1 : decide (t158 = t159) = false := by simpa using c90))
                          (try (have c90b2 : (t158 == t159) = false := by simpa using c90))
                          (try (have c90b3 : ¬ (t158 = t159) := by simpa using c90))
                          clear c90
                          exact absurd H (by simp)
                         ·rw [if_neg c90] at H
                          have c90b0 : (t158 != t159) = false := by simpa using c90
                          (try (have c90b1 : decide (t158 = t159) = true := by simpa using c90))
                          (try (have c90b2 : (t158 == t159) = true := by simpa using c90))
                          clear c90
                          by_cases c91 : (t150 != t134) = true
                          ·rw [if_pos c91] at H
                           have c91b0 : (t150 != t134) = true := c91
                           (try (have c91b1 : decide (t150 = t134) = false := by simpa using c91))
                           (try (have c91b2 : (t150 == t134) = false := by simpa using c91))
                           (try (have c91b3 : ¬ (t150 = t134) := by simpa using c91))
                           clear c91
                           exact absurd H (by simp)
                          ·rw [if_neg c91] at H
                           have c91b0 : (t150 != t134) = false := by simpa using c91
                           (try (have c91b1 : decide (t150 = t134) = true := by simpa using c91))
                           (try (have c91b2 : (t150 == t134) = true := by simpa using c91))
                           clear c91
                           have H' := Aside0.mk H
                           clear H
                           try go_wp2
                           replace HO105 := Aside0.mk (Kd.S_drew HO105.out)
                           replace HO109 := Aside0.mk (Kd.S_drew HO109.out)
                           replace HO117 := Aside0.mk (Kd.R_drew HO117.out)
                           replace HO121 := Aside0.mk (Kd.R_drew HO121.out)
                           replace HO125 := Aside0.mk (Kd.R_drew HO125.out)
                           replace HO129 := Aside0.mk (Kd.R_drew HO129.out)
                           replace HO133 := Aside0.mk (Kd.R_drew HO133.out)
                           replace HO137 := Aside0.mk (Kd.R_drew HO137.out)
                           replace BK101 := Aside0.mk (blk_drew BK101.out)
                           replace BK102 := Aside0.mk (blk_drew BK102.out)
                           replace BK143 := Aside0.mk (blk_drew BK143.out)
                           replace BK148 := Aside0.mk (blk_drew BK148.out)
                           replace HB := Aside0.mk (below_drew1 HB.out)
                           obtain ⟨Ao93, co93, eo93⟩ := Kd.S_slice HO105.out
                           (first | subst eo93 | (injection eo93 with f1_ f2_ f3_; have f4_ := f1_.symm; have f5_ := f3_.symm; clear f1_ f2_ f3_; subst f4_; subst f5_))
                           obtain ⟨Ao94, co94, eo94⟩ := Kd.S_slice HO109.out
                           (first | subst eo94 | (injection eo94 with f1_ f2_ f3_; have f4_ := f1_.symm; have f5_ := f3_.symm; clear f1_ f2_ f3_; subst f4_; subst f5_))
                           refine start_ (n := 121) (S := fun w' => w'.cell? ⟨gb143, 0, none⟩ = some (.int .i64 t140) ∧ w'.cell? ⟨gb143, 1, none⟩ = some (.int .i64 t141) ∧ w'.cell? ⟨gb148, 0, none⟩ = some (.int .i64 t145) ∧ w'.cell? ⟨gb148, 1, none⟩ = some (.int .i64 t146) ∧ w'.cell? ⟨gb101, 0, none⟩ = some (.string a0_0) ∧ w'.cell? ⟨gb101, 1, none⟩ = some (.int .i64 a0_1)) (ds := []) (rA_ [0, 121]) (by kernel_rfl) rfl rfl ⟨(blk_cell BK143.out 0).trans rfl, (blk_cell BK143.out 1).trans rfl, (blk_cell BK148.out 0).trans rfl, (blk_cell BK148.out 1).trans rfl, (blk_cell BK101.out 0).trans rfl, (blk_cell BK101.out 1).trans rfl⟩ (fun hHeld => ?_); refine with_tabW laws_FnPatternsAnsweredOfAll.tab17 laws_FnPatternsAnsweredOfAll.bits17 (fun HT_ HW_ => ?_)
                           generalize w62.drew = w92 at HO105 HO109 HO117 HO121 HO125 HO129 HO133 HO137 BK101 BK102 BK143 BK148 HB hHeld ⊢
                           refine pu_ 0 144 [1, 120] ?_
                           refine pu_ 1 145 [2, 119] ?_
                           refine pu_ 2 146 [3, 118] ?_
                           refine pu_ 3 147 [4, 117] ?_
                           refine pu_ 4 148 [5, 116] ?_
                           refine pu_ 5 149 [6, 115] ?_
                           refine one_ (i := 6) (N := some 150) (rA_ [7, 114]) rfl rfl (one_of HT_.out (by kernel_rfl)) (by decide) (fun K hK => ?_)
                           refine goes_ Tryz.func19 (by kernel_rfl) rfl #[.slice Ao93 t103.length co93, .slice Ao94 t107.length co94] (by rfl) rfl rfl k59_ ?_
                           with_reducible refine (laws_gAnswers.calls kj4 _ _ t103 _ _ t107 true _ ?side1 ?side2 ?side3 ?side4 A64.out).mono ?_
                           (case side1 => repeat (first | exact (Kd.S_reads' HO105.out).2.2 | (with_reducible refine Kd.C_alloc ?_ _) | (with_reducible refine Kd.C_drewN ?_ _) | (with_reducible refine Kd.C_drew ?_)))
                           (case side2 => exact (Kd.S_reads' HO105.out).2.1)
                           (case side3 => repeat (first | exact (Kd.S_reads' HO109.out).2.2 | (with_reducible refine Kd.C_alloc ?_ _) | (with_reducible refine Kd.C_drewN ?_ _) | (with_reducible refine Kd.C_drew ?_)))
                           (case side4 => exact (Kd.S_reads' HO109.out).2.1)
                           rintro e w' ⟨rfl, ⟨nd, rfl⟩⟩
                           refine ⟨_, rfl, ?_⟩
                           obtain ⟨Ao95, co95, eo95⟩ := Kd.R_slice HO117.out
                           (first | subst eo95 | (injection eo95 with f1_ f2_ f3_; have f4_ := f1_.symm; have f5_ := f3_.symm; clear f1_ f2_ f3_; subst f4_; subst f5_))
                           obtain ⟨Ao96, co96, eo96⟩ := Kd.R_slice HO121.out
                           (first | subst eo96 | (injection eo96 with f1_ f2_ f3_; have f4_ := f1_.symm; have f5_ := f3_.symm; clear f1_ f2_ f3_; subst f4_; subst f5_))
                           refine hK.out _ _ ⟨(blk_cell BK143.out 0).trans rfl, (blk_cell BK143.out 1).trans rfl, (blk_cell BK148.out 0).trans rfl, (blk_cell BK148.out 1).trans rfl, (blk_cell BK101.out 0).trans rfl, (blk_cell BK101.out 1).trans rfl⟩ (fun hHeld => ?_)
                           clear hK K
                           refine nm_ 150 ?_
                           refine pu_ 7 151 [8, 113] ?_
                           refine pu_ 8 152 [9, 112] ?_
                           refine pu_ 9 153 [10, 111] ?_
                           refine pu_ 10 154 [11, 110] ?_
                           refine pu_ 11 155 [12, 109] ?_
                           refine pu_ 12 156 [13, 108] ?_
                           refine pu_ 13 157 [14, 107] ?_
                           refine pu_ 14 158 [15, 106] ?_
                           refine pu_ 15 159 [16, 105] ?_
                           refine pu_ 16 160 [17, 104] ?_
                           refine pu_ 17 161 [18, 103] ?_
                           refine pu_ 18 162 [19, 102] ?_
                           refine pu_ 19 163 [20, 101] ?_
                           refine pu_ 20 164 [21, 100] ?_
                           refine pu_ 21 165 [22, 99] ?_
                           refine pu_ 22 166 [23, 98] ?_
                           refine pu_ 23 167 [24, 97] ?_
                           refine pu_ 24 168 [25, 96] ?_
                           refine pu_ 25 169 [26, 95] ?_
                           refine pu_ 26 170 [27, 94] ?_
                           refine one_ (i := 27) (N := some 171) (rA_ [28, 93]) rfl rfl (one_of HT_.out (by kernel_rfl)) (by decide) (fun K hK => ?_)
                           refine goes_ Tryz.func20 (by kernel_rfl) rfl #[.slice Ao95 t115.length co95, .slice Ao96 t119.length co96] (by rfl) rfl rfl k59_ ?_
                           with_reducible refine (laws_gRules.calls kj4 _ _ t115 _ _ t119 true _ ?side1 ?side2 ?side3 ?side4 A69.out).mono ?_
                           (case side1 => repeat (first | exact (Kd.R_reads' HO117.out).2.2 | (with_reducible refine Kd.C_alloc ?_ _) | (with_reducible refine Kd.C_drewN ?_ _) | (with_reducible refine Kd.C_drew ?_)))
                           (case side2 => exact (Kd.R_reads' HO117.out).2.1)
                           (case side3 => repeat (first | exact (Kd.R_reads' HO121.out).2.2 | (with_reducible refine Kd.C_alloc ?_ _) | (with_reducible refine Kd.C_drewN ?_ _) | (with_reducible refine Kd.C_drew ?_)))
                           (case side4 => exact (Kd.R_reads' HO121.out).2.1)
                           rintro e w' ⟨rfl, ⟨nd, rfl⟩⟩
                           refine ⟨_, rfl, ?_⟩
                           obtain ⟨Ao97, co97, eo97⟩ := Kd.R_slice HO125.out
                           (first | subst eo97 | (injection eo97 with f1_ f2_ f3_; have f4_ := f1_.symm; have f5_ := f3_.symm; clear f1_ f2_ f3_; subst f4_; subst f5_))
                           obtain ⟨Ao98, co98, eo98⟩ := Kd.R_slice HO129.out
                           (first | subst eo98 | (injection eo98 with f1_ f2_ f3_; have f4_ := f1_.symm; have f5_ := f3_.symm; clear f1_ f2_ f3_; subst f4_; subst f5_))
                           refine hK.out _ _ ⟨(blk_cell BK143.out 0).trans rfl, (blk_cell BK143.out 1).trans rfl, (blk_cell BK148.out 0).trans rfl, (blk_cell BK148.out 1).trans rfl, (blk_cell BK101.out 0).trans rfl, (blk_cell BK101.out 1).trans rfl⟩ (fun hHeld => ?_)
                           clear hK K
                           refine nm_ 171 ?_
                           refine pu_ 28 172 [29, 92] ?_
                           refine pu_ 29 173 [30, 91] ?_
                           refine pu_ 30 174 [31, 90] ?_
                           refine pu_ 31 175 [32, 89] ?_
                           refine pu_ 32 176 [33, 88] ?_
                           refine pu_ 33 177 [34, 87] ?_
                           refine pu_ 34 178 [35, 86] ?_
                           refine pu_ 35 179 [36, 85] ?_
                           refine pu_ 36 180 [37, 84] ?_
                           refine pu_ 37 181 [38, 83] ?_
                           refine one_ (i := 38) (N := some 182) (rA_ [39, 82]) rfl rfl (one_of HT_.out (by kernel_rfl)) (by decide) (fun K hK => ?_)
                           refine goes_ Tryz.func20 (by kernel_rfl) rfl #[.slice Ao97 t123.length co97, .slice Ao98 t127.length co98] (by rfl) rfl rfl k59_ ?_
                           with_reducible refine (laws_gRules.calls kj4 _ _ t123 _ _ t127 true _ ?side1 ?side2 ?side3 ?side4 A72.out).mono ?_
                           (case side1 => repeat (first | exact (Kd.R_reads' HO125.out).2.2 | (with_reducible refine Kd.C_alloc ?_ _) | (with_reducible refine Kd.C_drewN ?_ _) | (with_reducible refine Kd.C_drew ?_)))
                           (case side2 => exact (Kd.R_reads' HO125.out).2.1)
                           (case side3 => repeat (first | exact (Kd.R_reads' HO129.out).2.2 | (with_reducible refine Kd.C_alloc ?_ _) | (with_reducible refine Kd.C_drewN ?_ _) | (with_reducible refine Kd.C_drew ?_)))
                           (case side4 => exact (Kd.R_reads' HO129.out).2.1)
                           rintro e w' ⟨rfl, ⟨nd, rfl⟩⟩
                           refine ⟨_, rfl, ?_⟩
                           obtain ⟨Ao99, co99, eo99⟩ := Kd.R_slice HO133.out
                           (first | subst eo99 | (injection eo99 with f1_ f2_ f3_; have f4_ := f1_.symm; have f5_ := f3_.symm; clear f1_ f2_ f3_; subst f4_; subst f5_))
                           obtain ⟨Ao100, co100, eo100⟩ := Kd.R_slice HO137.out
                           (first | subst eo100 | (injection eo100 with f1_ f2_ f3_; have f4_ := f1_.symm; have f5_ := f3_.symm; clear f1_ f2_ f3_; subst f4_; subst f5_))
                           refine hK.out _ _ ⟨(blk_cell BK143.out 0).trans rfl, (blk_cell BK143.out 1).trans rfl, (blk_cell BK148.out 0).trans rfl, (blk_cell BK148.out 1).trans rfl, (blk_cell BK101.out 0).trans rfl, (blk_cell BK101.out 1).trans rfl⟩ (fun hHeld => ?_)
                           clear hK K
                           refine nm_ 182 ?_
                           refine pu_ 39 183 [40, 81] ?_
                           refine pu_ 40 184 [41, 80] ?_
                           refine pu_ 41 185 [42, 79] ?_
                           refine pu_ 42 186 [43, 78] ?_
                           refine pu_ 43 187 [44, 77] ?_
                           refine pu_ 44 188 [45, 76] ?_
                           refine pu_ 45 189 [46, 75] ?_
                           refine pu_ 46 190 [47, 74] ?_
                           refine pu_ 47 191 [48, 73] ?_
                           refine pu_ 48 192 [49, 72] ?_
                           refine one_ (i := 49) (N := some 193) (rA_ [50, 71]) rfl rfl (one_of HT_.out (by kernel_rfl)) (by decide) (fun K hK => ?_)
                           refine goes_ Tryz.func20 (by kernel_rfl) rfl #[.slice Ao99 t131.length co99, .slice Ao100 t135.length co100] (by rfl) rfl rfl k59_ ?_
                           with_reducible refine (laws_gRules.calls kj4 _ _ t131 _ _ t135 true _ ?side1 ?side2 ?side3 ?side4 A75.out).mono ?_
                           (case side1 => repeat (first | exact (Kd.R_reads' HO133.out).2.2 | (with_reducible refine Kd.C_alloc ?_ _) | (with_reducible refine Kd.C_drewN ?_ _) | (with_reducible refine Kd.C_drew ?_)))
                           (case side2 => exact (Kd.R_reads' HO133.out).2.1)
                           (case side3 => exact k50_)
                           (case side4 => exact (Kd.R_reads' HO137.out).2.1)
                           rintro e w' ⟨rfl, ⟨nd, rfl⟩⟩
                           refine ⟨_, rfl, ?_⟩
                           refine hK.out _ _ ⟨(blk_cell BK143.out 0).trans rfl, (blk_cell BK143.out 1).trans rfl, (blk_cell BK148.out 0).trans rfl, (blk_cell BK148.out 1).trans rfl, (blk_cell BK101.out 0).trans rfl, (blk_cell BK101.out 1).trans rfl⟩ (fun hHeld => ?_)
                           clear hK K
                           refine nm_ 193 ?_
                           refine pu_ 50 194 [51, 70] ?_
                           refine pu_ 51 195 [52, 69] ?_
                           refine pu_ 52 196 [53, 68] ?_
                           refine pu_ 53 197 [54, 67] ?_
                           refine pu_ 54 198 [55, 66] ?_
                           refine pu_ 55 199 [56, 65] ?_
                           refine pu_ 56 200 [57, 64] ?_
                           refine pu_ 57 201 [58, 63] ?_
                           refine pu_ 58 202 [59, 62] ?_
                           refine pu_ 59 203 [60, 61] ?_
                           refine pu_ 60 204 [61, 60] ?_
                           refine pu_ 61 205 [62, 59] ?_
                           refine pu_ 62 206 [63, 58] ?_
                           refine ta6_ 63 207 [64, 57] ?_
                           refine ta6_ 64 208 [65, 56] ?_
                           refine pu_ 65 209 [66, 55] ?_
                           refine pu_ 66 210 [67, 54] ?_
                           refine pu_ 67 211 [68, 53] ?_
                           refine pu_ 68 212 [69, 52] ?_
                           refine pu_ 69 213 [70, 51] ?_
                           refine pu_ 70 214 [71, 50] ?_
                           refine pu_ 71 215 [72, 49] ?_
                           refine pu_ 72 216 [73, 48] ?_
                           refine pu_ 73 217 [74, 47] ?_
                           refine pu_ 74 218 [75, 46] ?_
                           refine pu_ 75 219 [76, 45] ?_
                           refine pu_ 76 220 [77, 44] ?_
                           refine pu_ 77 221 [78, 43] ?_
                           refine pu_ 78 222 [79, 42] ?_
                           refine pu_ 79 223 [80, 41] ?_
                           refine pu_ 80 224 [81, 40] ?_
                           refine pu_ 81 225 [82, 39] ?_
                           refine pu_ 82 226 [83, 38] ?_
                           refine pu_ 83 227 [84, 37] ?_
                           refine pu_ 84 228 [85, 36] ?_
                           refine pu_ 85 229 [86, 35] ?_
                           refine pu_ 86 230 [87, 34] ?_
                           refine pu_ 87 231 [88, 33] ?_
                           refine pu_ 88 232 [89, 32] ?_
                           refine pu_ 89 233 [90, 31] ?_
                           refine pu_ 90 234 [91, 30] ?_
                           refine pu_ 91 235 [92, 29] ?_
                           refine pu_ 92 236 [93, 28] ?_
                           refine pu_ 93 237 [94, 27] ?_
                           refine pu_ 94 238 [95, 26] ?_
                           refine pu_ 95 239 [96, 25] ?_
                           refine pu_ 96 240 [97, 24] ?_
                           refine pu_ 97 241 [98, 23] ?_
                           refine ta6_ 98 242 [99, 22] ?_
                           refine one_ (i := 99) (N := some 243) (rA_ [100, 21]) rfl rfl (one_of HT_.out (by kernel_rfl)) (by decide) (fun K hK => ?_)
                           refine goes_ Tryz.func21 (by kernel_rfl) rfl #[.agg #[.string a0_0, .int .i64 a0_1]] (by rfl) rfl rfl k59_ ?_
                           with_reducible refine (impl_IsPuzzle.calls a0_0 a0_1 t157 _ A86.out).mono ?_
                           rintro e w101 ⟨rfl, hb⟩
                           refine ⟨_, rfl, ?_⟩
                           replace HO105 := HO105.mw hb
                           replace HO109 := HO109.mw hb
                           replace HO117 := HO117.mw hb
                           replace HO121 := HO121.mw hb
                           replace HO125 := HO125.mw hb
                           replace HO129 := HO129.mw hb
                           replace HO133 := HO133.mw hb
                           replace HO137 := HO137.mw hb
                           replace BK101 := BK101.mw hb
                           replace BK102 := BK102.mw hb
                           replace BK143 := BK143.mw hb
                           replace BK148 := BK148.mw hb
                           replace HB := Aside0.mk (below_step k62_ hb)
                           (try clear hb)
                           (try clear hb2)
                           (try clear hk)
                           (try clear hi)
                           refine hK.out _ _ ⟨(blk_cell BK143.out 0).trans rfl, (blk_cell BK143.out 1).trans rfl, (blk_cell BK148.out 0).trans rfl, (blk_cell BK148.out 1).trans rfl, (blk_cell BK101.out 0).trans rfl, (blk_cell BK101.out 1).trans rfl⟩ (fun hHeld => ?_)
                           clear hK K
                           refine nm_ 243 ?_
                           refine pu_ 100 244 [101, 20] ?_
                           refine pu_ 101 245 [102, 19] ?_
                           refine pu_ 102 246 [103, 18] ?_
                           refine ta6_ 103 247 [104, 17] ?_
                           refine ta6_ 105 249 [104, 1, 1, 15] ?_
                           refine one_ (i := 104) (N := some 248) (rA_ [106, 15]) rfl rfl (one_of HT_.out (by kernel_rfl)) (by decide) (fun K hK => ?_)
                           refine goes_ Tryz.func21 (by kernel_rfl) rfl #[.agg #[.string a0_0, .int .i64 a0_1]] (by rfl) rfl rfl k59_ ?_
                           with_reducible refine (impl_IsPuzzle.calls a0_0 a0_1 t158 _ A88.out).mono ?_
                           rintro e w102 ⟨rfl, hb⟩
                           refine ⟨_, rfl, ?_⟩
                           replace HO105 := HO105.mw hb
                           replace HO109 := HO109.mw hb
                           replace HO117 := HO117.mw hb
                           replace HO121 := HO121.mw hb
                           replace HO125 := HO125.mw hb
                           replace HO129 := HO129.mw hb
                           replace HO133 := HO133.mw hb
                           replace HO137 := HO137.mw hb
                           replace BK101 := BK101.mw hb
                           replace BK102 := BK102.mw hb
                           replace BK143 := BK143.mw hb
                           replace BK148 := BK148.mw hb
                           replace HB := Aside0.mk (below_step k62_ hb)
                           (try clear hb)
                           (try clear hb2)
                           (try clear hk)
                           (try clear hi)
                           refine hK.out _ _ ⟨(blk_cell BK143.out 0).trans rfl, (blk_cell BK143.out 1).trans rfl, (blk_cell BK148.out 0).trans rfl, (blk_cell BK148.out 1).trans rfl, (blk_cell BK101.out 0).trans rfl, (blk_cell BK101.out 1).trans rfl⟩ (fun hHeld => ?_)
                           clear hK K
                           refine nm_ 248 ?_
                           refine one_ (i := 106) (N := some 250) (rA_ [107, 14]) rfl rfl (one_of HT_.out (by kernel_rfl)) (by decide) (fun K hK => ?_)
                           refine goes_ Tryz.func22 (by kernel_rfl) rfl #[.agg #[.string a0_0, .int .i64 a0_1]] (by rfl) rfl rfl k59_ ?_
                           with_reducible refine (spec_IsPuzzle.calls kj4 a0_0 a0_1 t159 _ A89.out).mono ?_
                           rintro e w103 ⟨rfl, hb⟩
                           refine ⟨_, rfl, ?_⟩
                           replace HO105 := HO105.mw hb
                           replace HO109 := HO109.mw hb
                           replace HO117 := HO117.mw hb
                           replace HO121 := HO121.mw hb
                           replace HO125 := HO125.mw hb
                           replace HO129 := HO129.mw hb
                           replace HO133 := HO133.mw hb
                           replace HO137 := HO137.mw hb
                           replace BK101 := BK101.mw hb
                           replace BK102 := BK102.mw hb
                           replace BK143 := BK143.mw hb
                           replace BK148 := BK148.mw hb
                           replace HB := Aside0.mk (below_step k62_ hb)
                           (try clear hb)
                           (try clear hb2)
                           (try clear hk)
                           (try clear hi)
                           refine hK.out _ _ ⟨(blk_cell BK143.out 0).trans rfl, (blk_cell BK143.out 1).trans rfl, (blk_cell BK148.out 0).trans rfl, (blk_cell BK148.out 1).trans rfl, (blk_cell BK101.out 0).trans rfl, (blk_cell BK101.out 1).trans rfl⟩ (fun hHeld => ?_)
                           clear hK K
                           refine nm_ 250 ?_
                           refine pu_ 107 251 [108, 13] ?_
                           refine pu_ 108 252 [109, 12] ?_
                           refine pu_ 109 253 [110, 11] ?_
                           refine pu_ 110 254 [111, 10] ?_
                           refine pu_ 111 255 [112, 9] ?_
                           refine pu_ 112 256 [113, 8] ?_
                           refine pu_ 113 257 [114, 7] ?_
                           refine pu_ 114 258 [115, 6] ?_
                           refine pu_ 115 259 [116, 5] ?_
                           refine pu_ 116 260 [117, 4] ?_
                           refine pu_ 117 261 [118, 3] ?_
                           refine pu_ 118 262 [119, 2] ?_
                           refine pu_ 119 263 [120, 1] ?_
                           refine pu_ 120 264 [121] ?_
                           refine done_ (done_of HT_.out (by kernel_rfl)) ?_
                           try go_wp2
                           go_meet
                           case rel => exact ⟨_, (!t134), k92_, H', ⟨by have := HJ4.out; first | omega | exact Nat.le_refl _⟩, ⟨by (with_reducible repeat (first | apply Kd.S_alloc | apply Kd.S_drewN | apply Kd.S_drew)); exact Kd.S_mono HO105.out (fun _ hk => ⟨hk.1.1.1.1.1.1.1.2, ⟨hk.1.1.1.1.1.2, ⟨hk.1.1.1.2, ⟨hk.1.2, hk.2⟩⟩⟩⟩)⟩, ⟨by (with_reducible repeat (first | apply Kd.R_alloc | apply Kd.R_drewN | apply Kd.R_drew)); exact Kd.R_mono HO117.out (fun _ hk => ⟨hk.1.1.1.1.1.2, ⟨hk.1.1.1.2, ⟨hk.1.2, hk.2⟩⟩⟩)⟩, ⟨by (with_reducible repeat (first | apply Kd.R_alloc | apply Kd.R_drewN | apply Kd.R_drew)); exact Kd.R_mono HO125.out (fun _ hk => ⟨hk.1.1.1.1.1.1.2, ⟨hk.1.1.1.2, ⟨hk.1.2, hk.2⟩⟩⟩)⟩, ⟨by (with_reducible repeat (first | apply Kd.R_alloc | apply Kd.R_drewN | apply Kd.R_drew)); exact Kd.R_mono HO133.out (fun _ hk => ⟨hk.1.1.1.1.1.1.2, ⟨hk.1.1.1.1.2, ⟨hk.1.2, hk.2⟩⟩⟩)⟩, ⟨k85_⟩, ⟨k86_⟩, ⟨k88_⟩, ⟨k89_⟩, ⟨k62_⟩⟩
                     ·replace c83 := Bool.eq_false_iff.mpr c83
                      subst c83
                      rw [if_neg (show ¬ (false = true) by decide)] at H
                      by_cases c104 : (t118 != false) = true
                      ·rw [if_pos c104] at H
                       have c104b0 : (t118 != false) = true := c104
                       (try (have c104b1 : decide (t118 = false) = false := by simpa using c104))
                       (try (have c104b2 : (t118 == false) = false := by simpa using c104))
                       (try (have c104b3 : ¬ (t118 = false) := by simpa using c104))
                       clear c104
                       exact absurd H (by simp)
                      ·rw [if_neg c104] at H
                       have c104b0 : (t118 != false) = false := by simpa using c104
                       (try (have c104b1 : decide (t118 = false) = true := by simpa using c104))
                       (try (have c104b2 : (t118 == false) = true := by simpa using c104))
                       clear c104
                       by_cases c105 : (t126 != t118) = true
                       ·rw [if_pos c105] at H
                        have c105b0 : (t126 != t118) = true := c105
                        (try (have c105b1 : decide (t126 = t118) = false := by simpa using c105))
                        (try (have c105b2 : (t126 == t118) = false := by simpa using c105))
                        (try (have c105b3 : ¬ (t126 = t118) := by simpa using c105))
                        clear c105
                        exact absurd H (by simp)
                       ·rw [if_neg c105] at H
                        have c105b0 : (t126 != t118) = false := by simpa using c105
                        (try (have c105b1 : decide (t126 = t118) = true := by simpa using c105))
                        (try (have c105b2 : (t126 == t118) = true := by simpa using c105))
                        clear c105
                        obtain ⟨t160, A106, H⟩ := obnd_ H
                        (try dsimp only at H)
                        by_cases c107 : (t134 != t160) = true
                        ·rw [if_pos c107] at H
                         have c107b0 : (t134 != t160) = true := c107
                         (try (have c107b1 : decide (t134 = t160) = false := by simpa using c107))
                         (try (have c107b2 : (t134 == t160) = false := by simpa using c107))
                         (try (have c107b3 : ¬ (t134 = t160) := by simpa using c107))
                         clear c107
                         exact absurd H (by simp)
                        ·rw [if_neg c107] at H
                         have c107b0 : (t134 != t160) = false := by simpa using c107
                         (try (have c107b1 : decide (t134 = t160) = true := by simpa using c107))
                         (try (have c107b2 : (t134 == t160) = true := by simpa using c107))
                         clear c107
                         obtain ⟨t161, A108, H⟩ := obnd_ H
                         (try dsimp only at H)
                         obtain ⟨t162, A109, H⟩ := obnd_ H
                         (try dsimp only at H)
                         by_cases c110 : (t161 != t162) = true
                         ·rw [if_pos c110] at H
                          have c110b0 : (t161 != t162) = true := c110
                          (try (have c110b1 : decide (t161 = t162) = false := by simpa using c110))
                          (try (have c110b2 : (t161 == t162) = false := by simpa using c110))
                          (try (have c110b3 : ¬ (t161 = t162) := by simpa using c110))
                          clear c110
                          exact absurd H (by simp)
                         ·rw [if_neg c110] at H
                          have c110b0 : (t161 != t162) = false := by simpa using c110
                          (try (have c110b1 : decide (t161 = t162) = true := by simpa using c110))
                          (try (have c110b2 : (t161 == t162) = true := by simpa using c110))
                          clear c110
                          by_cases c111 : (t150 != t134) = true
                          ·rw [if_pos c111] at H
                           have c111b0 : (t150 != t134) = true := c111
                           (try (have c111b1 : decide (t150 = t134) = false := by simpa using c111))
                           (try (have c111b2 : (t150 == t134) = false := by simpa using c111))
                           (try (have c111b3 : ¬ (t150 = t134) := by simpa using c111))
                           clear c111
                           exact absurd H (by simp)
                          ·rw [if_neg c111] at H
                           have c111b0 : (t150 != t134) = false := by simpa using c111
                           (try (have c111b1 : decide (t150 = t134) = true := by simpa using c111))
                           (try (have c111b2 : (t150 == t134) = true := by simpa using c111))
                           clear c111
                           have H' := Aside0.mk H
                           clear H
                           try go_wp2
                           replace HO105 := Aside0.mk (Kd.S_drew HO105.out)
                           replace HO109 := Aside0.mk (Kd.S_drew HO109.out)
                           replace HO117 := Aside0.mk (Kd.R_drew HO117.out)
                           replace HO121 := Aside0.mk (Kd.R_drew HO121.out)
                           replace HO125 := Aside0.mk (Kd.R_drew HO125.out)
                           replace HO129 := Aside0.mk (Kd.R_drew HO129.out)
                           replace HO133 := Aside0.mk (Kd.R_drew HO133.out)
                           replace HO137 := Aside0.mk (Kd.R_drew HO137.out)
                           replace BK101 := Aside0.mk (blk_drew BK101.out)
                           replace BK102 := Aside0.mk (blk_drew BK102.out)
                           replace BK143 := Aside0.mk (blk_drew BK143.out)
                           replace BK148 := Aside0.mk (blk_drew BK148.out)
                           replace HB := Aside0.mk (below_drew1 HB.out)
                           obtain ⟨Ao113, co113, eo113⟩ := Kd.S_slice HO105.out
                           (first | subst eo113 | (injection eo113 with f1_ f2_ f3_; have f4_ := f1_.symm; have f5_ := f3_.symm; clear f1_ f2_ f3_; subst f4_; subst f5_))
                           obtain ⟨Ao114, co114, eo114⟩ := Kd.S_slice HO109.out
                           (first | subst eo114 | (injection eo114 with f1_ f2_ f3_; have f4_ := f1_.symm; have f5_ := f3_.symm; clear f1_ f2_ f3_; subst f4_; subst f5_))
                           refine start_ (n := 121) (S := fun w' => w'.cell? ⟨gb143, 0, none⟩ = some (.int .i64 t140) ∧ w'.cell? ⟨gb143, 1, none⟩ = some (.int .i64 t141) ∧ w'.cell? ⟨gb148, 0, none⟩ = some (.int .i64 t145) ∧ w'.cell? ⟨gb148, 1, none⟩ = some (.int .i64 t146) ∧ w'.cell? ⟨gb101, 0, none⟩ = some (.string a0_0) ∧ w'.cell? ⟨gb101, 1, none⟩ = some (.int .i64 a0_1)) (ds := []) (rA_ [0, 121]) (by kernel_rfl) rfl rfl ⟨(blk_cell BK143.out 0).trans rfl, (blk_cell BK143.out 1).trans rfl, (blk_cell BK148.out 0).trans rfl, (blk_cell BK148.out 1).trans rfl, (blk_cell BK101.out 0).trans rfl, (blk_cell BK101.out 1).trans rfl⟩ (fun hHeld => ?_); refine with_tabW laws_FnPatternsAnsweredOfAll.tab17 laws_FnPatternsAnsweredOfAll.bits17 (fun HT_ HW_ => ?_)
                           generalize w62.drew = w112 at HO105 HO109 HO117 HO121 HO125 HO129 HO133 HO137 BK101 BK102 BK143 BK148 HB hHeld ⊢
                           refine pu_ 0 144 [1, 120] ?_
                           refine pu_ 1 145 [2, 119] ?_
                           refine pu_ 2 146 [3, 118] ?_
                           refine pu_ 3 147 [4, 117] ?_
                           refine pu_ 4 148 [5, 116] ?_
                           refine pu_ 5 149 [6, 115] ?_
                           refine one_ (i := 6) (N := some 150) (rA_ [7, 114]) rfl rfl (one_of HT_.out (by kernel_rfl)) (by decide) (fun K hK => ?_)
                           refine goes_ Tryz.func19 (by kernel_rfl) rfl #[.slice Ao113 t103.length co113, .slice Ao114 t107.length co114] (by rfl) rfl rfl k59_ ?_
                           with_reducible refine (laws_gAnswers.calls kj4 _ _ t103 _ _ t107 true _ ?side1 ?side2 ?side3 ?side4 A64.out).mono ?_
                           (case side1 => repeat (first | exact (Kd.S_reads' HO105.out).2.2 | (with_reducible refine Kd.C_alloc ?_ _) | (with_reducible refine Kd.C_drewN ?_ _) | (with_reducible refine Kd.C_drew ?_)))
                           (case side2 => exact (Kd.S_reads' HO105.out).2.1)
                           (case side3 => repeat (first | exact (Kd.S_reads' HO109.out).2.2 | (with_reducible refine Kd.C_alloc ?_ _) | (with_reducible refine Kd.C_drewN ?_ _) | (with_reducible refine Kd.C_drew ?_)))
                           (case side4 => exact (Kd.S_reads' HO109.out).2.1)
                           rintro e w' ⟨rfl, ⟨nd, rfl⟩⟩
                           refine ⟨_, rfl, ?_⟩
                           obtain ⟨Ao115, co115, eo115⟩ := Kd.R_slice HO117.out
                           (first | subst eo115 | (injection eo115 with f1_ f2_ f3_; have f4_ := f1_.symm; have f5_ := f3_.symm; clear f1_ f2_ f3_; subst f4_; subst f5_))
                           obtain ⟨Ao116, co116, eo116⟩ := Kd.R_slice HO121.out
                           (first | subst eo116 | (injection eo116 with f1_ f2_ f3_; have f4_ := f1_.symm; have f5_ := f3_.symm; clear f1_ f2_ f3_; subst f4_; subst f5_))
                           refine hK.out _ _ ⟨(blk_cell BK143.out 0).trans rfl, (blk_cell BK143.out 1).trans rfl, (blk_cell BK148.out 0).trans rfl, (blk_cell BK148.out 1).trans rfl, (blk_cell BK101.out 0).trans rfl, (blk_cell BK101.out 1).trans rfl⟩ (fun hHeld => ?_)
                           clear hK K
                           refine nm_ 150 ?_
                           refine pu_ 7 151 [8, 113] ?_
                           refine pu_ 8 152 [9, 112] ?_
                           refine pu_ 9 153 [10, 111] ?_
                           refine pu_ 10 154 [11, 110] ?_
                           refine pu_ 11 155 [12, 109] ?_
                           refine pu_ 12 156 [13, 108] ?_
                           refine pu_ 13 157 [14, 107] ?_
                           refine pu_ 14 158 [15, 106] ?_
                           refine pu_ 15 159 [16, 105] ?_
                           refine pu_ 16 160 [17, 104] ?_
                           refine pu_ 17 161 [18, 103] ?_
                           refine pu_ 18 162 [19, 102] ?_
                           refine pu_ 19 163 [20, 101] ?_
                           refine pu_ 20 164 [21, 100] ?_
                           refine pu_ 21 165 [22, 99] ?_
                           refine pu_ 22 166 [23, 98] ?_
                           refine pu_ 23 167 [24, 97] ?_
                           refine pu_ 24 168 [25, 96] ?_
                           refine pu_ 25 169 [26, 95] ?_
                           refine pu_ 26 170 [27, 94] ?_
                           refine one_ (i := 27) (N := some 171) (rA_ [28, 93]) rfl rfl (one_of HT_.out (by kernel_rfl)) (by decide) (fun K hK => ?_)
                           refine goes_ Tryz.func20 (by kernel_rfl) rfl #[.slice Ao115 t115.length co115, .slice Ao116 t119.length co116] (by rfl) rfl rfl k59_ ?_
                           with_reducible refine (laws_gRules.calls kj4 _ _ t115 _ _ t119 true _ ?side1 ?side2 ?side3 ?side4 A69.out).mono ?_
                           (case side1 => repeat (first | exact (Kd.R_reads' HO117.out).2.2 | (with_reducible refine Kd.C_alloc ?_ _) | (with_reducible refine Kd.C_drewN ?_ _) | (with_reducible refine Kd.C_drew ?_)))
                           (case side2 => exact (Kd.R_reads' HO117.out).2.1)
                           (case side3 => repeat (first | exact (Kd.R_reads' HO121.out).2.2 | (with_reducible refine Kd.C_alloc ?_ _) | (with_reducible refine Kd.C_drewN ?_ _) | (with_reducible refine Kd.C_drew ?_)))
                           (case side4 => exact (Kd.R_reads' HO121.out).2.1)
                           rintro e w' ⟨rfl, ⟨nd, rfl⟩⟩
                           refine ⟨_, rfl, ?_⟩
                           obtain ⟨Ao117, co117, eo117⟩ := Kd.R_slice HO125.out
                           (first | subst eo117 | (injection eo117 with f1_ f2_ f3_; have f4_ := f1_.symm; have f5_ := f3_.symm; clear f1_ f2_ f3_; subst f4_; subst f5_))
                           obtain ⟨Ao118, co118, eo118⟩ := Kd.R_slice HO129.out
                           (first | subst eo118 | (injection eo118 with f1_ f2_ f3_; have f4_ := f1_.symm; have f5_ := f3_.symm; clear f1_ f2_ f3_; subst f4_; subst f5_))
                           refine hK.out _ _ ⟨(blk_cell BK143.out 0).trans rfl, (blk_cell BK143.out 1).trans rfl, (blk_cell BK148.out 0).trans rfl, (blk_cell BK148.out 1).trans rfl, (blk_cell BK101.out 0).trans rfl, (blk_cell BK101.out 1).trans rfl⟩ (fun hHeld => ?_)
                           clear hK K
                           refine nm_ 171 ?_
                           refine pu_ 28 172 [29, 92] ?_
                           refine pu_ 29 173 [30, 91] ?_
                           refine pu_ 30 174 [31, 90] ?_
                           refine pu_ 31 175 [32, 89] ?_
                           refine pu_ 32 176 [33, 88] ?_
                           refine pu_ 33 177 [34, 87] ?_
                           refine pu_ 34 178 [35, 86] ?_
                           refine pu_ 35 179 [36, 85] ?_
                           refine pu_ 36 180 [37, 84] ?_
                           refine pu_ 37 181 [38, 83] ?_
                           refine one_ (i := 38) (N := some 182) (rA_ [39, 82]) rfl rfl (one_of HT_.out (by kernel_rfl)) (by decide) (fun K hK => ?_)
                           refine goes_ Tryz.func20 (by kernel_rfl) rfl #[.slice Ao117 t123.length co117, .slice Ao118 t127.length co118] (by rfl) rfl rfl k59_ ?_
                           with_reducible refine (laws_gRules.calls kj4 _ _ t123 _ _ t127 true _ ?side1 ?side2 ?side3 ?side4 A72.out).mono ?_
                           (case side1 => repeat (first | exact (Kd.R_reads' HO125.out).2.2 | (with_reducible refine Kd.C_alloc ?_ _) | (with_reducible refine Kd.C_drewN ?_ _) | (with_reducible refine Kd.C_drew ?_)))
                           (case side2 => exact (Kd.R_reads' HO125.out).2.1)
                           (case side3 => repeat (first | exact (Kd.R_reads' HO129.out).2.2 | (with_reducible refine Kd.C_alloc ?_ _) | (with_reducible refine Kd.C_drewN ?_ _) | (with_reducible refine Kd.C_drew ?_)))
                           (case side4 => exact (Kd.R_reads' HO129.out).2.1)
                           rintro e w' ⟨rfl, ⟨nd, rfl⟩⟩
                           refine ⟨_, rfl, ?_⟩
                           obtain ⟨Ao119, co119, eo119⟩ := Kd.R_slice HO133.out
                           (first | subst eo119 | (injection eo119 with f1_ f2_ f3_; have f4_ := f1_.symm; have f5_ := f3_.symm; clear f1_ f2_ f3_; subst f4_; subst f5_))
                           obtain ⟨Ao120, co120, eo120⟩ := Kd.R_slice HO137.out
                           (first | subst eo120 | (injection eo120 with f1_ f2_ f3_; have f4_ := f1_.symm; have f5_ := f3_.symm; clear f1_ f2_ f3_; subst f4_; subst f5_))
                           refine hK.out _ _ ⟨(blk_cell BK143.out 0).trans rfl, (blk_cell BK143.out 1).trans rfl, (blk_cell BK148.out 0).trans rfl, (blk_cell BK148.out 1).trans rfl, (blk_cell BK101.out 0).trans rfl, (blk_cell BK101.out 1).trans rfl⟩ (fun hHeld => ?_)
                           clear hK K
                           refine nm_ 182 ?_
                           refine pu_ 39 183 [40, 81] ?_
                           refine pu_ 40 184 [41, 80] ?_
                           refine pu_ 41 185 [42, 79] ?_
                           refine pu_ 42 186 [43, 78] ?_
                           refine pu_ 43 187 [44, 77] ?_
                           refine pu_ 44 188 [45, 76] ?_
                           refine pu_ 45 189 [46, 75] ?_
                           refine pu_ 46 190 [47, 74] ?_
                           refine pu_ 47 191 [48, 73] ?_
                           refine pu_ 48 192 [49, 72] ?_
                           refine one_ (i := 49) (N := some 193) (rA_ [50, 71]) rfl rfl (one_of HT_.out (by kernel_rfl)) (by decide) (fun K hK => ?_)
                           refine goes_ Tryz.func20 (by kernel_rfl) rfl #[.slice Ao119 t131.length co119, .slice Ao120 t135.length co120] (by rfl) rfl rfl k59_ ?_
                           with_reducible refine (laws_gRules.calls kj4 _ _ t131 _ _ t135 true _ ?side1 ?side2 ?side3 ?side4 A75.out).mono ?_
                           (case side1 => repeat (first | exact (Kd.R_reads' HO133.out).2.2 | (with_reducible refine Kd.C_alloc ?_ _) | (with_reducible refine Kd.C_drewN ?_ _) | (with_reducible refine Kd.C_drew ?_)))
                           (case side2 => exact (Kd.R_reads' HO133.out).2.1)
                           (case side3 => exact k50_)
                           (case side4 => exact (Kd.R_reads' HO137.out).2.1)
                           rintro e w' ⟨rfl, ⟨nd, rfl⟩⟩
                           refine ⟨_, rfl, ?_⟩
                           refine hK.out _ _ ⟨(blk_cell BK143.out 0).trans rfl, (blk_cell BK143.out 1).trans rfl, (blk_cell BK148.out 0).trans rfl, (blk_cell BK148.out 1).trans rfl, (blk_cell BK101.out 0).trans rfl, (blk_cell BK101.out 1).trans rfl⟩ (fun hHeld => ?_)
                           clear hK K
                           refine nm_ 193 ?_
                           refine pu_ 50 194 [51, 70] ?_
                           refine pu_ 51 195 [52, 69] ?_
                           refine pu_ 52 196 [53, 68] ?_
                           refine pu_ 53 197 [54, 67] ?_
                           refine pu_ 54 198 [55, 66] ?_
                           refine pu_ 55 199 [56, 65] ?_
                           refine pu_ 56 200 [57, 64] ?_
                           refine pu_ 57 201 [58, 63] ?_
                           refine pu_ 58 202 [59, 62] ?_
                           refine pu_ 59 203 [60, 61] ?_
                           refine pu_ 60 204 [61, 60] ?_
                           refine pu_ 61 205 [62, 59] ?_
                           refine pu_ 62 206 [63, 58] ?_
                           refine ta6_ 63 207 [64, 57] ?_
                           refine ta6_ 64 208 [65, 56] ?_
                           refine pu_ 65 209 [66, 55] ?_
                           refine pu_ 66 210 [67, 54] ?_
                           refine pu_ 67 211 [68, 53] ?_
                           refine pu_ 68 212 [69, 52] ?_
                           refine pu_ 69 213 [70, 51] ?_
                           refine pu_ 70 214 [71, 50] ?_
                           refine pu_ 71 215 [72, 49] ?_
                           refine pu_ 72 216 [73, 48] ?_
                           refine pu_ 73 217 [74, 47] ?_
                           refine pu_ 74 218 [75, 46] ?_
                           refine pu_ 75 219 [76, 45] ?_
                           refine pu_ 76 220 [77, 44] ?_
                           refine pu_ 77 221 [78, 43] ?_
                           refine pu_ 78 222 [79, 42] ?_
                           refine pu_ 79 223 [80, 41] ?_
                           refine pu_ 80 224 [81, 40] ?_
                           refine pu_ 81 225 [82, 39] ?_
                           refine pu_ 82 226 [83, 38] ?_
                           refine pu_ 83 227 [84, 37] ?_
                           refine pu_ 84 228 [85, 36] ?_
                           refine pu_ 85 229 [86, 35] ?_
                           refine pz_ 86 230 [87, 34] ?_
                           refine pz_ 87 231 [88, 33] ?_
                           refine pu_ 88 232 [89, 32] ?_
                           refine pu_ 89 233 [90, 31] ?_
                           refine pu_ 90 234 [91, 30] ?_
                           refine pu_ 91 235 [92, 29] ?_
                           refine pu_ 92 236 [93, 28] ?_
                           refine pu_ 93 237 [94, 27] ?_
                           refine pu_ 94 238 [95, 26] ?_
                           refine pu_ 95 239 [96, 25] ?_
                           refine pu_ 96 240 [97, 24] ?_
                           refine pu_ 97 241 [98, 23] ?_
                           refine ta6_ 98 242 [99, 22] ?_
                           refine one_ (i := 99) (N := some 243) (rA_ [100, 21]) rfl rfl (one_of HT_.out (by kernel_rfl)) (by decide) (fun K hK => ?_)
                           refine goes_ Tryz.func21 (by kernel_rfl) rfl #[.agg #[.string a0_0, .int .i64 a0_1]] (by rfl) rfl rfl k59_ ?_
                           with_reducible refine (impl_IsPuzzle.calls a0_0 a0_1 t160 _ A106.out).mono ?_
                           rintro e w121 ⟨rfl, hb⟩
                           refine ⟨_, rfl, ?_⟩
                           replace HO105 := HO105.mw hb
                           replace HO109 := HO109.mw hb
                           replace HO117 := HO117.mw hb
                           replace HO121 := HO121.mw hb
                           replace HO125 := HO125.mw hb
                           replace HO129 := HO129.mw hb
                           replace HO133 := HO133.mw hb
                           replace HO137 := HO137.mw hb
                           replace BK101 := BK101.mw hb
                           replace BK102 := BK102.mw hb
                           replace BK143 := BK143.mw hb
                           replace BK148 := BK148.mw hb
                           replace HB := Aside0.mk (below_step k62_ hb)
                           (try clear hb)
                           (try clear hb2)
                           (try clear hk)
                           (try clear hi)
                           refine hK.out _ _ ⟨(blk_cell BK143.out 0).trans rfl, (blk_cell BK143.out 1).trans rfl, (blk_cell BK148.out 0).trans rfl, (blk_cell BK148.out 1).trans rfl, (blk_cell BK101.out 0).trans rfl, (blk_cell BK101.out 1).trans rfl⟩ (fun hHeld => ?_)
                           clear hK K
                           refine nm_ 243 ?_
                           refine pu_ 100 244 [101, 20] ?_
                           refine pu_ 101 245 [102, 19] ?_
                           refine pu_ 102 246 [103, 18] ?_
                           refine ta6_ 103 247 [104, 17] ?_
                           refine ta6_ 105 249 [104, 1, 1, 15] ?_
                           refine one_ (i := 104) (N := some 248) (rA_ [106, 15]) rfl rfl (one_of HT_.out (by kernel_rfl)) (by decide) (fun K hK => ?_)
                           refine goes_ Tryz.func21 (by kernel_rfl) rfl #[.agg #[.string a0_0, .int .i64 a0_1]] (by rfl) rfl rfl k59_ ?_
                           with_reducible refine (impl_IsPuzzle.calls a0_0 a0_1 t161 _ A108.out).mono ?_
                           rintro e w122 ⟨rfl, hb⟩
                           refine ⟨_, rfl, ?_⟩
                           replace HO105 := HO105.mw hb
                           replace HO109 := HO109.mw hb
                           replace HO117 := HO117.mw hb
                           replace HO121 := HO121.mw hb
                           replace HO125 := HO125.mw hb
                           replace HO129 := HO129.mw hb
                           replace HO133 := HO133.mw hb
                           replace HO137 := HO137.mw hb
                           replace BK101 := BK101.mw hb
                           replace BK102 := BK102.mw hb
                           replace BK143 := BK143.mw hb
                           replace BK148 := BK148.mw hb
                           replace HB := Aside0.mk (below_step k62_ hb)
                           (try clear hb)
                           (try clear hb2)
                           (try clear hk)
                           (try clear hi)
                           refine hK.out _ _ ⟨(blk_cell BK143.out 0).trans rfl, (blk_cell BK143.out 1).trans rfl, (blk_cell BK148.out 0).trans rfl, (blk_cell BK148.out 1).trans rfl, (blk_cell BK101.out 0).trans rfl, (blk_cell BK101.out 1).trans rfl⟩ (fun hHeld => ?_)
                           clear hK K
                           refine nm_ 248 ?_
                           refine one_ (i := 106) (N := some 250) (rA_ [107, 14]) rfl rfl (one_of HT_.out (by kernel_rfl)) (by decide) (fun K hK => ?_)
                           refine goes_ Tryz.func22 (by kernel_rfl) rfl #[.agg #[.string a0_0, .int .i64 a0_1]] (by rfl) rfl rfl k59_ ?_
                           with_reducible refine (spec_IsPuzzle.calls kj4 a0_0 a0_1 t162 _ A109.out).mono ?_
                           rintro e w123 ⟨rfl, hb⟩
                           refine ⟨_, rfl, ?_⟩
                           replace HO105 := HO105.mw hb
                           replace HO109 := HO109.mw hb
                           replace HO117 := HO117.mw hb
                           replace HO121 := HO121.mw hb
                           replace HO125 := HO125.mw hb
                           replace HO129 := HO129.mw hb
                           replace HO133 := HO133.mw hb
                           replace HO137 := HO137.mw hb
                           replace BK101 := BK101.mw hb
                           replace BK102 := BK102.mw hb
                           replace BK143 := BK143.mw hb
                           replace BK148 := BK148.mw hb
                           replace HB := Aside0.mk (below_step k62_ hb)
                           (try clear hb)
                           (try clear hb2)
                           (try clear hk)
                           (try clear hi)
                           refine hK.out _ _ ⟨(blk_cell BK143.out 0).trans rfl, (blk_cell BK143.out 1).trans rfl, (blk_cell BK148.out 0).trans rfl, (blk_cell BK148.out 1).trans rfl, (blk_cell BK101.out 0).trans rfl, (blk_cell BK101.out 1).trans rfl⟩ (fun hHeld => ?_)
                           clear hK K
                           refine nm_ 250 ?_
                           refine pu_ 107 251 [108, 13] ?_
                           refine pu_ 108 252 [109, 12] ?_
                           refine pu_ 109 253 [110, 11] ?_
                           refine pu_ 110 254 [111, 10] ?_
                           refine pu_ 111 255 [112, 9] ?_
                           refine pu_ 112 256 [113, 8] ?_
                           refine pu_ 113 257 [114, 7] ?_
                           refine pu_ 114 258 [115, 6] ?_
                           refine pu_ 115 259 [116, 5] ?_
                           refine pu_ 116 260 [117, 4] ?_
                           refine pz_ 117 261 [118, 3] ?_
                           refine pz_ 118 262 [119, 2] ?_
                           refine pu_ 119 263 [120, 1] ?_
                           refine pu_ 120 264 [121] ?_
                           refine done_ (done_of HT_.out (by kernel_rfl)) ?_
                           try go_wp2
                           go_meet
                           case rel => exact ⟨_, (false), k92_, H', ⟨by have := HJ4.out; first | omega | exact Nat.le_refl _⟩, ⟨by (with_reducible repeat (first | apply Kd.S_alloc | apply Kd.S_drewN | apply Kd.S_drew)); exact Kd.S_mono HO105.out (fun _ hk => ⟨hk.1.1.1.1.1.1.1.2, ⟨hk.1.1.1.1.1.2, ⟨hk.1.1.1.2, ⟨hk.1.2, hk.2⟩⟩⟩⟩)⟩, ⟨by (with_reducible repeat (first | apply Kd.R_alloc | apply Kd.R_drewN | apply Kd.R_drew)); exact Kd.R_mono HO117.out (fun _ hk => ⟨hk.1.1.1.1.1.2, ⟨hk.1.1.1.2, ⟨hk.1.2, hk.2⟩⟩⟩)⟩, ⟨by (with_reducible repeat (first | apply Kd.R_alloc | apply Kd.R_drewN | apply Kd.R_drew)); exact Kd.R_mono HO125.out (fun _ hk => ⟨hk.1.1.1.1.1.1.2, ⟨hk.1.1.1.2, ⟨hk.1.2, hk.2⟩⟩⟩)⟩, ⟨by (with_reducible repeat (first | apply Kd.R_alloc | apply Kd.R_drewN | apply Kd.R_drew)); exact Kd.R_mono HO133.out (fun _ hk => ⟨hk.1.1.1.1.1.1.2, ⟨hk.1.1.1.1.2, ⟨hk.1.2, hk.2⟩⟩⟩)⟩, ⟨k85_⟩, ⟨k86_⟩, ⟨k88_⟩, ⟨k89_⟩, ⟨k62_⟩⟩
                   ·rw [if_neg c81] at H
                    have c81b0 : (t149.toList == t151.toList) = false := beq_eq_false_iff_ne.mpr c81
                    have c81b1 : (t149.toList != t151.toList) = true := bne_iff_ne.mpr c81
                    exact absurd H (by simp)
                ·rw [if_neg c78] at H
                 have c78b0 : (t139 == t144) = false := beq_eq_false_iff_ne.mpr c78
                 have c78b1 : (t139 != t144) = true := bne_iff_ne.mpr c78
                 exact absurd H (by simp)
              ·replace c76 := Bool.eq_false_iff.mpr c76
               subst c76
               rw [if_neg (show ¬ (false = true) by decide)] at H
               exact absurd H (by simp)
            ·replace c73 := Bool.eq_false_iff.mpr c73
             subst c73
             rw [if_neg (show ¬ (false = true) by decide)] at H
             exact absurd H (by simp)
          ·replace c70 := Bool.eq_false_iff.mpr c70
           subst c70
           rw [if_neg (show ¬ (false = true) by decide)] at H
           exact absurd H (by simp)
        ·rw [if_neg c67] at H
         have c67b0 : (t111 == t113) = false := beq_eq_false_iff_ne.mpr c67
         have c67b1 : (t111 != t113) = true := bne_iff_ne.mpr c67
         exact absurd H (by simp)
      ·replace c65 := Bool.eq_false_iff.mpr c65
       subst c65
       rw [if_neg (show ¬ (false = true) by decide)] at H
       exact absurd H (by simp)
    case rest =>
     clear HC24
     obtain ⟨kq, x264_23, rfl, HA, HJ23, HO_9, HO_17, HO_21, HO_25, BK101, BK102, BK143, BK148, HB⟩ := hcut
     go_step
     exact laws_FnPatternsAnsweredOfAll.part1 k a0_0 a0_1 a1_0 a1_1 A2 c2 l2 a3 w hu23 hu33 HR2 HC2 HG gb101 GW101 GE101 gb102 GW102 GE102 NB101_102 NB102_101 u64 u65 u66 u67 u68 u69 u70 kj4 HJ4 t103 t106 A10 t107 t110 A11 t111 t112 A12 t113 t114 A13 t115 t118 A14 t119 t122 A15 t123 t126 A16 t127 t130 A17 t131 t134 A18 t135 t138 A19 t139 t140 t141 t142 A20 t144 t145 t146 t147 A21 t149 t150 A22 H t151 t152 A23 hnb25 hnc25 w27 v104 hcz28_0 hcz28_1 hfz28_0 hfz28_1 w29 v108 hcz30_0 hcz30_1 hfz30_0 hfz30_1 w31 hcz32_0 hcz32_1 hfz32_0 hfz32_1 w33 hcz34_0 hcz34_1 hfz34_0 hfz34_1 w35 v116 hcz36_0 hcz36_1 hfz36_0 hfz36_1 w37 v120 hcz38_0 hcz38_1 hfz38_0 hfz38_1 w39 v124 hcz40_0 hcz40_1 hfz40_0 hfz40_1 w41 v128 hcz42_0 hcz42_1 hfz42_0 hfz42_1 w43 v132 hcz44_0 hcz44_1 hfz44_0 hfz44_1 w45 v136 hcz46_0 hcz46_1 hfz46_0 hfz46_1 gb143 w48 GW143 GE143 NB101_143 NB143_101 NB102_143 NB143_102 hnb49 hnc49 hnb50 hnc50 hcz51_0 hcz51_1 hfz51_0 hfz51_1 hcz52_0 hcz52_1 hfz52_0 hfz52_1 gb148 w54 GW148 GE148 NB101_148 NB148_101 NB102_148 NB148_102 NB143_148 NB148_143 hnb55 hnc55 hnb56 hnc56 hnb57 hnc57 hcz58_0 hcz58_1 hfz58_0 hfz58_1 hcz59_0 hcz59_1 hfz59_0 hfz59_1 w60 hcz61_0 hcz61_1 hfz61_0 hfz61_1 w62 HO105 HO109 HO117 HO121 HO125 HO129 HO133 HO137 wc u72 u73 u74 u75 u76 u77 u78 u79 u80 u81 u82 u83 u84 u85 u86 u87 u88 u89 u90 u91 u92 u93 u94 u95 u96 u97 u98 u99 u100 u101 u102 u103 u104 u105 u106 u107 u108 u109 u110 u111 u112 u113 u114 u115 u116 u117 u118 u119 u120 u121 u122 u123 u124 u125 u126 u127 u128 u129 u130 u131 u132 u133 u134 u135 u136 u137 u138 u139 u140 u141 u142 u143 u144 u145 u146 u147 u148 u149 u150 u151 u152 u153 u154 u155 u156 u157 u158 u159 u160 u161 u162 u163 u164 u165 u166 u167 u168 u169 u170 u171 u172 u173 u174 u175 u176 u177 u178 u179 u180 u181 u182 u183 u184 u185 u186 u187 u188 u189 u190 u191 u192 u193 u194 u195 u196 u197 u198 u199 u200 u201 u202 u203 u204 u205 u206 u207 u208 u209 u210 u211 u212 u213 u214 u215 u216 u217 u218 u219 u220 u221 u222 u223 u224 u225 u226 u227 u228 u229 u230 u231 u232 u233 u234 u235 u236 u237 u238 u239 u240 u241 u242 u243 u244 u245 u246 u247 u248 u249 u250 u251 u252 u253 u254 u255 u256 u257 u258 u259 u260 u261 u262 u263 kq x264_23 HA HJ23 HO_9 HO_17 HO_21 HO_25 BK101 BK102 BK143 BK148 HB _ (by assumption)
def laws_FnPatternsAnsweredOfAll.Pure : Prop := ∀ (a0_0 : ByteArray) (a0_1 : Int) (a1_0 : ByteArray) (a1_1 : Int) (l2 : List (SRule)) (a3 : ByteArray), a0_0.size ≤ 9223372036854775807 → (Lit.int .i64 a0_1).wf = true → a1_0.size ≤ 9223372036854775807 → (Lit.int .i64 a1_1).wf = true → l2.length ≤ 9223372036854775807 → a3.size ≤ 9223372036854775807 → ∃ k, laws_FnPatternsAnsweredOfAll.f k a0_0 a0_1 a1_0 a1_1 l2 a3 = some true
end Go.Proofs.YtbnmajedmajfoaaGreatDoor.P
