/-
  No cell of these rows narrows 'for every input' (looked for: loops, veiled, ifaces, maps, wideKeys, modest, calm, conditions, laid).
  DERIVED. THE GIVEN ROWS OF THIS SEAT. 12 by the template 'for every input the law returns true; each argument reads behind the call as it read before'; 0 by the template 'total and deterministic' (their statements: YtfagnnjjojklaaaTotals.lean).
  GIVEN WITH THE SEED: the statements are not yours to turn. If you find one false, say at which input.
  Laid BY PROGRAM, IN A SANDBOX (cutbox-rows.mjs): the forced cells as the released guide's own fill.sh prints them over the translation 9bc544d87d563783… (all of the seat's roots in one cut). By AI agents, Wed Nov 11 2026. No macro, syntax, notation, axiom, sorry.
-/
import Derived.Test.YtfagnnjjojklaaaChecked
import GoSem.Claim
import GoSem.ClaimJoined
import GoSem.ClaimMapViews
import Derived.JoinedTies
import Derived.KernelRfl
namespace Go.Proofs.Ytfagnnjjojklaaa
/- THE CELL 'sum', in the pinned program and in every row, IS THE sha256 OF THE DUMP (.gsa) THAT YtfagnnjjojklaaaProg.lean LOADS. Nothing in Lean hashes anything: it is a label: what it is worth is what the hold of that sum in a sandbox is worth. -/
noncomputable def Try.pinned : Pinned := { name := "ytfagnnjjojklaaa", sum := "9bc544d87d563783d0c700532d8f486fc79150aacf4a739676c8a1a71c1af981", checked := Try.checked }
namespace Rows
def none {H : Type} : Left H := { results := [], args := [] }

/-- 'laws.FnExactIsDesk': WHATEVER THE INPUT: true; the input reads as it did. -/
def fnExactIsDeskSpec : ChangeSpec := { name := "fnExactIsDesk", fn := fun _ => fun
  | [d] => { results := [.lit (.bool true)], args := [d] }
  | _ => none }
def fnExactIsDeskRow : OpenClaim := { program := "ytfagnnjjojklaaa", sum := "9bc544d87d563783d0c700532d8f486fc79150aacf4a739676c8a1a71c1af981", func := "loop.example/g01235/laws.FnExactIsDesk", spec := "fnExactIsDesk", unfollowed := true, recurses := true, apart := false }
def FnExactIsDeskSaid : Prop := fnExactIsDeskRow.holds Try.pinned (OpenSpec.ofChange fnExactIsDeskSpec)

/-- ITS FALSE NEIGHBOUR: 'it returns false'. Refute it at one input. -/
def fnExactIsDeskWrong : ChangeSpec := { name := "fnExactIsDesk", fn := fun _ => fun
  | [d] => { results := [.lit (.bool false)], args := [d] }
  | _ => none }
def FnExactIsDeskWrongFalsely : Prop := fnExactIsDeskRow.holds Try.pinned (OpenSpec.ofChange fnExactIsDeskWrong)

/-- 'laws.FnExactIsCover': WHATEVER THE INPUT: true; the input reads as it did. -/
def fnExactIsCoverSpec : ChangeSpec := { name := "fnExactIsCover", fn := fun _ => fun
  | [d1, d2] => { results := [.lit (.bool true)], args := [d1, d2] }
  | _ => none }
def fnExactIsCoverRow : OpenClaim := { program := "ytfagnnjjojklaaa", sum := "9bc544d87d563783d0c700532d8f486fc79150aacf4a739676c8a1a71c1af981", func := "loop.example/g01235/laws.FnExactIsCover", spec := "fnExactIsCover", unfollowed := true, recurses := true, apart := false }
def FnExactIsCoverSaid : Prop := fnExactIsCoverRow.holds Try.pinned (OpenSpec.ofChange fnExactIsCoverSpec)

/-- ITS FALSE NEIGHBOUR: 'it returns false'. Refute it at one input. -/
def fnExactIsCoverWrong : ChangeSpec := { name := "fnExactIsCover", fn := fun _ => fun
  | [d1, d2] => { results := [.lit (.bool false)], args := [d1, d2] }
  | _ => none }
def FnExactIsCoverWrongFalsely : Prop := fnExactIsCoverRow.holds Try.pinned (OpenSpec.ofChange fnExactIsCoverWrong)

/-- 'laws.FnExactRulesWithout': WHATEVER THE INPUT: true; the input reads as it did. -/
def fnExactRulesWithoutSpec : ChangeSpec := { name := "fnExactRulesWithout", fn := fun _ => fun
  | [d] => { results := [.lit (.bool true)], args := [d] }
  | _ => none }
def fnExactRulesWithoutRow : OpenClaim := { program := "ytfagnnjjojklaaa", sum := "9bc544d87d563783d0c700532d8f486fc79150aacf4a739676c8a1a71c1af981", func := "loop.example/g01235/laws.FnExactRulesWithout", spec := "fnExactRulesWithout", apart := false }
def FnExactRulesWithoutSaid : Prop := fnExactRulesWithoutRow.holds Try.pinned (OpenSpec.ofChange fnExactRulesWithoutSpec)

/-- ITS FALSE NEIGHBOUR: 'it returns false'. Refute it at one input. -/
def fnExactRulesWithoutWrong : ChangeSpec := { name := "fnExactRulesWithout", fn := fun _ => fun
  | [d] => { results := [.lit (.bool false)], args := [d] }
  | _ => none }
def FnExactRulesWithoutWrongFalsely : Prop := fnExactRulesWithoutRow.holds Try.pinned (OpenSpec.ofChange fnExactRulesWithoutWrong)

/-- 'laws.FnExactGapsUpTo': WHATEVER THE INPUT: true; the input reads as it did. -/
def fnExactGapsUpToSpec : ChangeSpec := { name := "fnExactGapsUpTo", fn := fun _ => fun
  | [d1, d2] => { results := [.lit (.bool true)], args := [d1, d2] }
  | _ => none }
def fnExactGapsUpToRow : OpenClaim := { program := "ytfagnnjjojklaaa", sum := "9bc544d87d563783d0c700532d8f486fc79150aacf4a739676c8a1a71c1af981", func := "loop.example/g01235/laws.FnExactGapsUpTo", spec := "fnExactGapsUpTo", unfollowed := true, recurses := true, apart := false }
def FnExactGapsUpToSaid : Prop := fnExactGapsUpToRow.holds Try.pinned (OpenSpec.ofChange fnExactGapsUpToSpec)

/-- ITS FALSE NEIGHBOUR: 'it returns false'. Refute it at one input. -/
def fnExactGapsUpToWrong : ChangeSpec := { name := "fnExactGapsUpTo", fn := fun _ => fun
  | [d1, d2] => { results := [.lit (.bool false)], args := [d1, d2] }
  | _ => none }
def FnExactGapsUpToWrongFalsely : Prop := fnExactGapsUpToRow.holds Try.pinned (OpenSpec.ofChange fnExactGapsUpToWrong)

/-- 'laws.FnExactCountCovers': WHATEVER THE INPUT: true; the input reads as it did. -/
def fnExactCountCoversSpec : ChangeSpec := { name := "fnExactCountCovers", fn := fun _ => fun
  | [d1, d2] => { results := [.lit (.bool true)], args := [d1, d2] }
  | _ => none }
def fnExactCountCoversRow : OpenClaim := { program := "ytfagnnjjojklaaa", sum := "9bc544d87d563783d0c700532d8f486fc79150aacf4a739676c8a1a71c1af981", func := "loop.example/g01235/laws.FnExactCountCovers", spec := "fnExactCountCovers", unfollowed := true, recurses := true, apart := false }
def FnExactCountCoversSaid : Prop := fnExactCountCoversRow.holds Try.pinned (OpenSpec.ofChange fnExactCountCoversSpec)

/-- ITS FALSE NEIGHBOUR: 'it returns false'. Refute it at one input. -/
def fnExactCountCoversWrong : ChangeSpec := { name := "fnExactCountCovers", fn := fun _ => fun
  | [d1, d2] => { results := [.lit (.bool false)], args := [d1, d2] }
  | _ => none }
def FnExactCountCoversWrongFalsely : Prop := fnExactCountCoversRow.holds Try.pinned (OpenSpec.ofChange fnExactCountCoversWrong)

/-- 'laws.FnExactPairsInPeriod': WHATEVER THE INPUT: true; the input reads as it did. -/
def fnExactPairsInPeriodSpec : ChangeSpec := { name := "fnExactPairsInPeriod", fn := fun _ => fun
  | [d1, d2] => { results := [.lit (.bool true)], args := [d1, d2] }
  | _ => none }
def fnExactPairsInPeriodRow : OpenClaim := { program := "ytfagnnjjojklaaa", sum := "9bc544d87d563783d0c700532d8f486fc79150aacf4a739676c8a1a71c1af981", func := "loop.example/g01235/laws.FnExactPairsInPeriod", spec := "fnExactPairsInPeriod", unfollowed := true, recurses := true, apart := false }
def FnExactPairsInPeriodSaid : Prop := fnExactPairsInPeriodRow.holds Try.pinned (OpenSpec.ofChange fnExactPairsInPeriodSpec)

/-- ITS FALSE NEIGHBOUR: 'it returns false'. Refute it at one input. -/
def fnExactPairsInPeriodWrong : ChangeSpec := { name := "fnExactPairsInPeriod", fn := fun _ => fun
  | [d1, d2] => { results := [.lit (.bool false)], args := [d1, d2] }
  | _ => none }
def FnExactPairsInPeriodWrongFalsely : Prop := fnExactPairsInPeriodRow.holds Try.pinned (OpenSpec.ofChange fnExactPairsInPeriodWrong)

/-- 'laws.FnExactMostCovered': WHATEVER THE INPUT: true; the input reads as it did. -/
def fnExactMostCoveredSpec : ChangeSpec := { name := "fnExactMostCovered", fn := fun _ => fun
  | [d] => { results := [.lit (.bool true)], args := [d] }
  | _ => none }
def fnExactMostCoveredRow : OpenClaim := { program := "ytfagnnjjojklaaa", sum := "9bc544d87d563783d0c700532d8f486fc79150aacf4a739676c8a1a71c1af981", func := "loop.example/g01235/laws.FnExactMostCovered", spec := "fnExactMostCovered", unfollowed := true, recurses := true, apart := false }
def FnExactMostCoveredSaid : Prop := fnExactMostCoveredRow.holds Try.pinned (OpenSpec.ofChange fnExactMostCoveredSpec)

/-- ITS FALSE NEIGHBOUR: 'it returns false'. Refute it at one input. -/
def fnExactMostCoveredWrong : ChangeSpec := { name := "fnExactMostCovered", fn := fun _ => fun
  | [d] => { results := [.lit (.bool false)], args := [d] }
  | _ => none }
def FnExactMostCoveredWrongFalsely : Prop := fnExactMostCoveredRow.holds Try.pinned (OpenSpec.ofChange fnExactMostCoveredWrong)

/-- 'laws.FnExactCountGaps': WHATEVER THE INPUT: true; the input reads as it did. -/
def fnExactCountGapsSpec : ChangeSpec := { name := "fnExactCountGaps", fn := fun _ => fun
  | [d1, d2] => { results := [.lit (.bool true)], args := [d1, d2] }
  | _ => none }
def fnExactCountGapsRow : OpenClaim := { program := "ytfagnnjjojklaaa", sum := "9bc544d87d563783d0c700532d8f486fc79150aacf4a739676c8a1a71c1af981", func := "loop.example/g01235/laws.FnExactCountGaps", spec := "fnExactCountGaps", unfollowed := true, recurses := true, apart := false }
def FnExactCountGapsSaid : Prop := fnExactCountGapsRow.holds Try.pinned (OpenSpec.ofChange fnExactCountGapsSpec)

/-- ITS FALSE NEIGHBOUR: 'it returns false'. Refute it at one input. -/
def fnExactCountGapsWrong : ChangeSpec := { name := "fnExactCountGaps", fn := fun _ => fun
  | [d1, d2] => { results := [.lit (.bool false)], args := [d1, d2] }
  | _ => none }
def FnExactCountGapsWrongFalsely : Prop := fnExactCountGapsRow.holds Try.pinned (OpenSpec.ofChange fnExactCountGapsWrong)

/-- 'laws.FnExactRecordGaps': WHATEVER THE INPUT: true; the input reads as it did. -/
def fnExactRecordGapsSpec : ChangeSpec := { name := "fnExactRecordGaps", fn := fun _ => fun
  | [d1, d2] => { results := [.lit (.bool true)], args := [d1, d2] }
  | _ => none }
def fnExactRecordGapsRow : OpenClaim := { program := "ytfagnnjjojklaaa", sum := "9bc544d87d563783d0c700532d8f486fc79150aacf4a739676c8a1a71c1af981", func := "loop.example/g01235/laws.FnExactRecordGaps", spec := "fnExactRecordGaps", unfollowed := true, recurses := true, apart := false }
def FnExactRecordGapsSaid : Prop := fnExactRecordGapsRow.holds Try.pinned (OpenSpec.ofChange fnExactRecordGapsSpec)

/-- ITS FALSE NEIGHBOUR: 'it returns false'. Refute it at one input. -/
def fnExactRecordGapsWrong : ChangeSpec := { name := "fnExactRecordGaps", fn := fun _ => fun
  | [d1, d2] => { results := [.lit (.bool false)], args := [d1, d2] }
  | _ => none }
def FnExactRecordGapsWrongFalsely : Prop := fnExactRecordGapsRow.holds Try.pinned (OpenSpec.ofChange fnExactRecordGapsWrong)

/-- 'laws.FnExactLongestRunOut': WHATEVER THE INPUT: true; the input reads as it did. -/
def fnExactLongestRunOutSpec : ChangeSpec := { name := "fnExactLongestRunOut", fn := fun _ => fun
  | [d] => { results := [.lit (.bool true)], args := [d] }
  | _ => none }
def fnExactLongestRunOutRow : OpenClaim := { program := "ytfagnnjjojklaaa", sum := "9bc544d87d563783d0c700532d8f486fc79150aacf4a739676c8a1a71c1af981", func := "loop.example/g01235/laws.FnExactLongestRunOut", spec := "fnExactLongestRunOut", unfollowed := true, recurses := true, apart := false }
def FnExactLongestRunOutSaid : Prop := fnExactLongestRunOutRow.holds Try.pinned (OpenSpec.ofChange fnExactLongestRunOutSpec)

/-- ITS FALSE NEIGHBOUR: 'it returns false'. Refute it at one input. -/
def fnExactLongestRunOutWrong : ChangeSpec := { name := "fnExactLongestRunOut", fn := fun _ => fun
  | [d] => { results := [.lit (.bool false)], args := [d] }
  | _ => none }
def FnExactLongestRunOutWrongFalsely : Prop := fnExactLongestRunOutRow.holds Try.pinned (OpenSpec.ofChange fnExactLongestRunOutWrong)

/-- 'laws.FnExactLongestGap': WHATEVER THE INPUT: true; the input reads as it did. -/
def fnExactLongestGapSpec : ChangeSpec := { name := "fnExactLongestGap", fn := fun _ => fun
  | [d] => { results := [.lit (.bool true)], args := [d] }
  | _ => none }
def fnExactLongestGapRow : OpenClaim := { program := "ytfagnnjjojklaaa", sum := "9bc544d87d563783d0c700532d8f486fc79150aacf4a739676c8a1a71c1af981", func := "loop.example/g01235/laws.FnExactLongestGap", spec := "fnExactLongestGap", unfollowed := true, recurses := true, apart := false }
def FnExactLongestGapSaid : Prop := fnExactLongestGapRow.holds Try.pinned (OpenSpec.ofChange fnExactLongestGapSpec)

/-- ITS FALSE NEIGHBOUR: 'it returns false'. Refute it at one input. -/
def fnExactLongestGapWrong : ChangeSpec := { name := "fnExactLongestGap", fn := fun _ => fun
  | [d] => { results := [.lit (.bool false)], args := [d] }
  | _ => none }
def FnExactLongestGapWrongFalsely : Prop := fnExactLongestGapRow.holds Try.pinned (OpenSpec.ofChange fnExactLongestGapWrong)

/-- 'laws.FnExactLongestRunLeft': WHATEVER THE INPUT: true; the input reads as it did. -/
def fnExactLongestRunLeftSpec : ChangeSpec := { name := "fnExactLongestRunLeft", fn := fun _ => fun
  | [d] => { results := [.lit (.bool true)], args := [d] }
  | _ => none }
def fnExactLongestRunLeftRow : OpenClaim := { program := "ytfagnnjjojklaaa", sum := "9bc544d87d563783d0c700532d8f486fc79150aacf4a739676c8a1a71c1af981", func := "loop.example/g01235/laws.FnExactLongestRunLeft", spec := "fnExactLongestRunLeft", unfollowed := true, recurses := true, apart := false }
def FnExactLongestRunLeftSaid : Prop := fnExactLongestRunLeftRow.holds Try.pinned (OpenSpec.ofChange fnExactLongestRunLeftSpec)

/-- ITS FALSE NEIGHBOUR: 'it returns false'. Refute it at one input. -/
def fnExactLongestRunLeftWrong : ChangeSpec := { name := "fnExactLongestRunLeft", fn := fun _ => fun
  | [d] => { results := [.lit (.bool false)], args := [d] }
  | _ => none }
def FnExactLongestRunLeftWrongFalsely : Prop := fnExactLongestRunLeftRow.holds Try.pinned (OpenSpec.ofChange fnExactLongestRunLeftWrong)

/- THE SECOND FORM. 'bulk': how many values and letters a reading holds, each counted each time it is reached (what is shared counts as often as it is met; a slice's spare places count too). A statement '..UptoSaid' is the law's where the arguments, and the package variables that the reading takes, are together of bulk at most 1048576: NARROWER than '..Said'. Prove '..Said' where nothing that the law and all that it calls make is longer than what came in: it says more and counts as full. Else prove '..UptoSaid'. A law counts once. -/
mutual
def uptoBulk {H : Type} : DataW H → Nat
  | .lit (.string bytes) => bytes.length + 1
  | .lit _ => 1
  | .nil => 1
  | .ptr d => uptoBulk d + 1
  | .slice elems spare => uptoBulkAll elems + uptoBulkAll spare + 1
  | .agg parts => uptoBulkAll parts + 1
  | .iface _ d => uptoBulk d + 1
  | .map entries => uptoBulkEntries entries + 1
  | .held _ => 1
def uptoBulkAll {H : Type} : List (DataW H) → Nat
  | [] => 0
  | d :: r => uptoBulk d + uptoBulkAll r
def uptoBulkEntries {H : Type} : List (Lit × DataW H) → Nat
  | [] => 0
  | x :: r => uptoBulkEntry x + uptoBulkEntries r
def uptoBulkEntry {H : Type} : Lit × DataW H → Nat
  | (.string bytes, d) => bytes.length + uptoBulk d + 1
  | (_, d) => uptoBulk d + 1
 end
def uptoSmall : (H : Type) → List (DataW H) → Bool := fun _ ds => decide (uptoBulkAll ds ≤ 1048576)
def OpenSpec.upto (s : _root_.Go.ChangeSpec) : _root_.Go.OpenSpec := { _root_.Go.OpenSpec.ofChange s with cond := some uptoSmall }

/-- 'laws.FnExactIsDesk', WHERE WHAT IT READS IS OF BULK AT MOST 1048576: true; the input reads as it did. -/
def fnExactIsDeskUptoRow : OpenClaim := { program := "ytfagnnjjojklaaa", sum := "9bc544d87d563783d0c700532d8f486fc79150aacf4a739676c8a1a71c1af981", func := "loop.example/g01235/laws.FnExactIsDesk", spec := "fnExactIsDesk", unfollowed := true, recurses := true, apart := false, narrowed := true }
def FnExactIsDeskUptoSaid : Prop := fnExactIsDeskUptoRow.holds Try.pinned (OpenSpec.upto fnExactIsDeskSpec)

/-- 'laws.FnExactIsCover', WHERE WHAT IT READS IS OF BULK AT MOST 1048576: true; the input reads as it did. -/
def fnExactIsCoverUptoRow : OpenClaim := { program := "ytfagnnjjojklaaa", sum := "9bc544d87d563783d0c700532d8f486fc79150aacf4a739676c8a1a71c1af981", func := "loop.example/g01235/laws.FnExactIsCover", spec := "fnExactIsCover", unfollowed := true, recurses := true, apart := false, narrowed := true }
def FnExactIsCoverUptoSaid : Prop := fnExactIsCoverUptoRow.holds Try.pinned (OpenSpec.upto fnExactIsCoverSpec)

/-- 'laws.FnExactRulesWithout', WHERE WHAT IT READS IS OF BULK AT MOST 1048576: true; the input reads as it did. -/
def fnExactRulesWithoutUptoRow : OpenClaim := { program := "ytfagnnjjojklaaa", sum := "9bc544d87d563783d0c700532d8f486fc79150aacf4a739676c8a1a71c1af981", func := "loop.example/g01235/laws.FnExactRulesWithout", spec := "fnExactRulesWithout", apart := false, narrowed := true }
def FnExactRulesWithoutUptoSaid : Prop := fnExactRulesWithoutUptoRow.holds Try.pinned (OpenSpec.upto fnExactRulesWithoutSpec)

/-- 'laws.FnExactGapsUpTo', WHERE WHAT IT READS IS OF BULK AT MOST 1048576: true; the input reads as it did. -/
def fnExactGapsUpToUptoRow : OpenClaim := { program := "ytfagnnjjojklaaa", sum := "9bc544d87d563783d0c700532d8f486fc79150aacf4a739676c8a1a71c1af981", func := "loop.example/g01235/laws.FnExactGapsUpTo", spec := "fnExactGapsUpTo", unfollowed := true, recurses := true, apart := false, narrowed := true }
def FnExactGapsUpToUptoSaid : Prop := fnExactGapsUpToUptoRow.holds Try.pinned (OpenSpec.upto fnExactGapsUpToSpec)

/-- 'laws.FnExactCountCovers', WHERE WHAT IT READS IS OF BULK AT MOST 1048576: true; the input reads as it did. -/
def fnExactCountCoversUptoRow : OpenClaim := { program := "ytfagnnjjojklaaa", sum := "9bc544d87d563783d0c700532d8f486fc79150aacf4a739676c8a1a71c1af981", func := "loop.example/g01235/laws.FnExactCountCovers", spec := "fnExactCountCovers", unfollowed := true, recurses := true, apart := false, narrowed := true }
def FnExactCountCoversUptoSaid : Prop := fnExactCountCoversUptoRow.holds Try.pinned (OpenSpec.upto fnExactCountCoversSpec)

/-- 'laws.FnExactPairsInPeriod', WHERE WHAT IT READS IS OF BULK AT MOST 1048576: true; the input reads as it did. -/
def fnExactPairsInPeriodUptoRow : OpenClaim := { program := "ytfagnnjjojklaaa", sum := "9bc544d87d563783d0c700532d8f486fc79150aacf4a739676c8a1a71c1af981", func := "loop.example/g01235/laws.FnExactPairsInPeriod", spec := "fnExactPairsInPeriod", unfollowed := true, recurses := true, apart := false, narrowed := true }
def FnExactPairsInPeriodUptoSaid : Prop := fnExactPairsInPeriodUptoRow.holds Try.pinned (OpenSpec.upto fnExactPairsInPeriodSpec)

/-- 'laws.FnExactMostCovered', WHERE WHAT IT READS IS OF BULK AT MOST 1048576: true; the input reads as it did. -/
def fnExactMostCoveredUptoRow : OpenClaim := { program := "ytfagnnjjojklaaa", sum := "9bc544d87d563783d0c700532d8f486fc79150aacf4a739676c8a1a71c1af981", func := "loop.example/g01235/laws.FnExactMostCovered", spec := "fnExactMostCovered", unfollowed := true, recurses := true, apart := false, narrowed := true }
def FnExactMostCoveredUptoSaid : Prop := fnExactMostCoveredUptoRow.holds Try.pinned (OpenSpec.upto fnExactMostCoveredSpec)

/-- 'laws.FnExactCountGaps', WHERE WHAT IT READS IS OF BULK AT MOST 1048576: true; the input reads as it did. -/
def fnExactCountGapsUptoRow : OpenClaim := { program := "ytfagnnjjojklaaa", sum := "9bc544d87d563783d0c700532d8f486fc79150aacf4a739676c8a1a71c1af981", func := "loop.example/g01235/laws.FnExactCountGaps", spec := "fnExactCountGaps", unfollowed := true, recurses := true, apart := false, narrowed := true }
def FnExactCountGapsUptoSaid : Prop := fnExactCountGapsUptoRow.holds Try.pinned (OpenSpec.upto fnExactCountGapsSpec)

/-- 'laws.FnExactRecordGaps', WHERE WHAT IT READS IS OF BULK AT MOST 1048576: true; the input reads as it did. -/
def fnExactRecordGapsUptoRow : OpenClaim := { program := "ytfagnnjjojklaaa", sum := "9bc544d87d563783d0c700532d8f486fc79150aacf4a739676c8a1a71c1af981", func := "loop.example/g01235/laws.FnExactRecordGaps", spec := "fnExactRecordGaps", unfollowed := true, recurses := true, apart := false, narrowed := true }
def FnExactRecordGapsUptoSaid : Prop := fnExactRecordGapsUptoRow.holds Try.pinned (OpenSpec.upto fnExactRecordGapsSpec)

/-- 'laws.FnExactLongestRunOut', WHERE WHAT IT READS IS OF BULK AT MOST 1048576: true; the input reads as it did. -/
def fnExactLongestRunOutUptoRow : OpenClaim := { program := "ytfagnnjjojklaaa", sum := "9bc544d87d563783d0c700532d8f486fc79150aacf4a739676c8a1a71c1af981", func := "loop.example/g01235/laws.FnExactLongestRunOut", spec := "fnExactLongestRunOut", unfollowed := true, recurses := true, apart := false, narrowed := true }
def FnExactLongestRunOutUptoSaid : Prop := fnExactLongestRunOutUptoRow.holds Try.pinned (OpenSpec.upto fnExactLongestRunOutSpec)

/-- 'laws.FnExactLongestGap', WHERE WHAT IT READS IS OF BULK AT MOST 1048576: true; the input reads as it did. -/
def fnExactLongestGapUptoRow : OpenClaim := { program := "ytfagnnjjojklaaa", sum := "9bc544d87d563783d0c700532d8f486fc79150aacf4a739676c8a1a71c1af981", func := "loop.example/g01235/laws.FnExactLongestGap", spec := "fnExactLongestGap", unfollowed := true, recurses := true, apart := false, narrowed := true }
def FnExactLongestGapUptoSaid : Prop := fnExactLongestGapUptoRow.holds Try.pinned (OpenSpec.upto fnExactLongestGapSpec)

/-- 'laws.FnExactLongestRunLeft', WHERE WHAT IT READS IS OF BULK AT MOST 1048576: true; the input reads as it did. -/
def fnExactLongestRunLeftUptoRow : OpenClaim := { program := "ytfagnnjjojklaaa", sum := "9bc544d87d563783d0c700532d8f486fc79150aacf4a739676c8a1a71c1af981", func := "loop.example/g01235/laws.FnExactLongestRunLeft", spec := "fnExactLongestRunLeft", unfollowed := true, recurses := true, apart := false, narrowed := true }
def FnExactLongestRunLeftUptoSaid : Prop := fnExactLongestRunLeftUptoRow.holds Try.pinned (OpenSpec.upto fnExactLongestRunLeftSpec)

end Rows
end Go.Proofs.Ytfagnnjjojklaaa
