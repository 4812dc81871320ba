/-
  No cell of these rows narrows 'for every input' (looked for: loops, veiled, ifaces, maps, wideKeys, modest, calm, conditions, laid).
  DERIVED. THE GIVEN ROWS OF THIS SEAT. 5 by the template 'for every input the law returns true; each argument reads behind the call as it read before'; 0 by the template 'total and deterministic' (their statements: YtphlfkeamhpimaaTotals.lean).
  GIVEN WITH THE SEED: the statements are not yours to turn. If you find one false, say at which input.
  Laid BY PROGRAM, IN A SANDBOX (cutbox-rows.mjs): the forced cells as the released guide's own fill.sh prints them over the translation 51b1b68968d0b4a4… (all of the seat's roots in one cut). By AI agents, Wed Nov 11 2026. No macro, syntax, notation, axiom, sorry.
-/
import Derived.Test.YtphlfkeamhpimaaChecked
import GoSem.Claim
import GoSem.ClaimJoined
import GoSem.ClaimMapViews
import Derived.JoinedTies
import Derived.KernelRfl
namespace Go.Proofs.Ytphlfkeamhpimaa
/- THE CELL 'sum', in the pinned program and in every row, IS THE sha256 OF THE DUMP (.gsa) THAT YtphlfkeamhpimaaProg.lean LOADS. Nothing in Lean hashes anything: it is a label: what it is worth is what the hold of that sum in a sandbox is worth. -/
noncomputable def Try.pinned : Pinned := { name := "ytphlfkeamhpimaa", sum := "51b1b68968d0b4a4e8be3133305f2015d2debec550fe3ee154d5bd865b7b3598", checked := Try.checked }
namespace Rows
def none {H : Type} : Left H := { results := [], args := [] }

/-- 'laws.FnExactCountCovers': WHATEVER THE INPUT: true; the input reads as it did. -/
def fnExactCountCoversSpec : ChangeSpec := { name := "fnExactCountCovers", fn := fun _ => fun
  | [d1, d2] => { results := [.lit (.bool true)], args := [d1, d2] }
  | _ => none }
def fnExactCountCoversRow : OpenClaim := { program := "ytphlfkeamhpimaa", sum := "51b1b68968d0b4a4e8be3133305f2015d2debec550fe3ee154d5bd865b7b3598", func := "loop.example/g01235/laws.FnExactCountCovers", spec := "fnExactCountCovers", unfollowed := true, recurses := true, apart := false }
def FnExactCountCoversSaid : Prop := fnExactCountCoversRow.holds Try.pinned (OpenSpec.ofChange fnExactCountCoversSpec)

/-- ITS FALSE NEIGHBOUR: 'it returns false'. Refute it at one input. -/
def fnExactCountCoversWrong : ChangeSpec := { name := "fnExactCountCovers", fn := fun _ => fun
  | [d1, d2] => { results := [.lit (.bool false)], args := [d1, d2] }
  | _ => none }
def FnExactCountCoversWrongFalsely : Prop := fnExactCountCoversRow.holds Try.pinned (OpenSpec.ofChange fnExactCountCoversWrong)

/-- 'laws.FnExactMostCovered': WHATEVER THE INPUT: true; the input reads as it did. -/
def fnExactMostCoveredSpec : ChangeSpec := { name := "fnExactMostCovered", fn := fun _ => fun
  | [d] => { results := [.lit (.bool true)], args := [d] }
  | _ => none }
def fnExactMostCoveredRow : OpenClaim := { program := "ytphlfkeamhpimaa", sum := "51b1b68968d0b4a4e8be3133305f2015d2debec550fe3ee154d5bd865b7b3598", func := "loop.example/g01235/laws.FnExactMostCovered", spec := "fnExactMostCovered", unfollowed := true, recurses := true, apart := false }
def FnExactMostCoveredSaid : Prop := fnExactMostCoveredRow.holds Try.pinned (OpenSpec.ofChange fnExactMostCoveredSpec)

/-- ITS FALSE NEIGHBOUR: 'it returns false'. Refute it at one input. -/
def fnExactMostCoveredWrong : ChangeSpec := { name := "fnExactMostCovered", fn := fun _ => fun
  | [d] => { results := [.lit (.bool false)], args := [d] }
  | _ => none }
def FnExactMostCoveredWrongFalsely : Prop := fnExactMostCoveredRow.holds Try.pinned (OpenSpec.ofChange fnExactMostCoveredWrong)

/-- 'laws.FnExactFirstCover': WHATEVER THE INPUT: true; the input reads as it did. -/
def fnExactFirstCoverSpec : ChangeSpec := { name := "fnExactFirstCover", fn := fun _ => fun
  | [d1, d2] => { results := [.lit (.bool true)], args := [d1, d2] }
  | _ => none }
def fnExactFirstCoverRow : OpenClaim := { program := "ytphlfkeamhpimaa", sum := "51b1b68968d0b4a4e8be3133305f2015d2debec550fe3ee154d5bd865b7b3598", func := "loop.example/g01235/laws.FnExactFirstCover", spec := "fnExactFirstCover", unfollowed := true, recurses := true, apart := false }
def FnExactFirstCoverSaid : Prop := fnExactFirstCoverRow.holds Try.pinned (OpenSpec.ofChange fnExactFirstCoverSpec)

/-- ITS FALSE NEIGHBOUR: 'it returns false'. Refute it at one input. -/
def fnExactFirstCoverWrong : ChangeSpec := { name := "fnExactFirstCover", fn := fun _ => fun
  | [d1, d2] => { results := [.lit (.bool false)], args := [d1, d2] }
  | _ => none }
def FnExactFirstCoverWrongFalsely : Prop := fnExactFirstCoverRow.holds Try.pinned (OpenSpec.ofChange fnExactFirstCoverWrong)

/-- 'laws.FnCoversFoundOfAll': WHATEVER THE INPUT: true; the input reads as it did. -/
def fnCoversFoundOfAllSpec : ChangeSpec := { name := "fnCoversFoundOfAll", fn := fun _ => fun
  | [d1, d2, d3, d4, d5] => { results := [.lit (.bool true)], args := [d1, d2, d3, d4, d5] }
  | _ => none }
def fnCoversFoundOfAllRow : OpenClaim := { program := "ytphlfkeamhpimaa", sum := "51b1b68968d0b4a4e8be3133305f2015d2debec550fe3ee154d5bd865b7b3598", func := "loop.example/g01235/laws.FnCoversFoundOfAll", spec := "fnCoversFoundOfAll", unfollowed := true, recurses := true, apart := false }
def FnCoversFoundOfAllSaid : Prop := fnCoversFoundOfAllRow.holds Try.pinned (OpenSpec.ofChange fnCoversFoundOfAllSpec)

/-- ITS FALSE NEIGHBOUR: 'it returns false'. Refute it at one input. -/
def fnCoversFoundOfAllWrong : ChangeSpec := { name := "fnCoversFoundOfAll", fn := fun _ => fun
  | [d1, d2, d3, d4, d5] => { results := [.lit (.bool false)], args := [d1, d2, d3, d4, d5] }
  | _ => none }
def FnCoversFoundOfAllWrongFalsely : Prop := fnCoversFoundOfAllRow.holds Try.pinned (OpenSpec.ofChange fnCoversFoundOfAllWrong)

/-- 'laws.FnGapsToldOfAll': WHATEVER THE INPUT: true; the input reads as it did. -/
def fnGapsToldOfAllSpec : ChangeSpec := { name := "fnGapsToldOfAll", fn := fun _ => fun
  | [d1, d2, d3, d4, d5, d6, d7, d8, d9] => { results := [.lit (.bool true)], args := [d1, d2, d3, d4, d5, d6, d7, d8, d9] }
  | _ => none }
def fnGapsToldOfAllRow : OpenClaim := { program := "ytphlfkeamhpimaa", sum := "51b1b68968d0b4a4e8be3133305f2015d2debec550fe3ee154d5bd865b7b3598", func := "loop.example/g01235/laws.FnGapsToldOfAll", spec := "fnGapsToldOfAll", unfollowed := true, recurses := true, apart := false }
def FnGapsToldOfAllSaid : Prop := fnGapsToldOfAllRow.holds Try.pinned (OpenSpec.ofChange fnGapsToldOfAllSpec)

/-- ITS FALSE NEIGHBOUR: 'it returns false'. Refute it at one input. -/
def fnGapsToldOfAllWrong : ChangeSpec := { name := "fnGapsToldOfAll", fn := fun _ => fun
  | [d1, d2, d3, d4, d5, d6, d7, d8, d9] => { results := [.lit (.bool false)], args := [d1, d2, d3, d4, d5, d6, d7, d8, d9] }
  | _ => none }
def FnGapsToldOfAllWrongFalsely : Prop := fnGapsToldOfAllRow.holds Try.pinned (OpenSpec.ofChange fnGapsToldOfAllWrong)

/- THE SECOND FORM. 'bulk': how many values and letters a reading holds, each counted each time it is reached (what is shared counts as often as it is met; a slice's spare places count too). A statement '..UptoSaid' is the law's where the arguments, and the package variables that the reading takes, are together of bulk at most 1048576: NARROWER than '..Said'. Prove '..Said' where nothing that the law and all that it calls make is longer than what came in: it says more and counts as full. Else prove '..UptoSaid'. A law counts once. -/
mutual
def uptoBulk {H : Type} : DataW H → Nat
  | .lit (.string bytes) => bytes.length + 1
  | .lit _ => 1
  | .nil => 1
  | .ptr d => uptoBulk d + 1
  | .slice elems spare => uptoBulkAll elems + uptoBulkAll spare + 1
  | .agg parts => uptoBulkAll parts + 1
  | .iface _ d => uptoBulk d + 1
  | .map entries => uptoBulkEntries entries + 1
  | .held _ => 1
def uptoBulkAll {H : Type} : List (DataW H) → Nat
  | [] => 0
  | d :: r => uptoBulk d + uptoBulkAll r
def uptoBulkEntries {H : Type} : List (Lit × DataW H) → Nat
  | [] => 0
  | x :: r => uptoBulkEntry x + uptoBulkEntries r
def uptoBulkEntry {H : Type} : Lit × DataW H → Nat
  | (.string bytes, d) => bytes.length + uptoBulk d + 1
  | (_, d) => uptoBulk d + 1
 end
def uptoSmall : (H : Type) → List (DataW H) → Bool := fun _ ds => decide (uptoBulkAll ds ≤ 1048576)
def OpenSpec.upto (s : _root_.Go.ChangeSpec) : _root_.Go.OpenSpec := { _root_.Go.OpenSpec.ofChange s with cond := some uptoSmall }

/-- 'laws.FnExactCountCovers', WHERE WHAT IT READS IS OF BULK AT MOST 1048576: true; the input reads as it did. -/
def fnExactCountCoversUptoRow : OpenClaim := { program := "ytphlfkeamhpimaa", sum := "51b1b68968d0b4a4e8be3133305f2015d2debec550fe3ee154d5bd865b7b3598", func := "loop.example/g01235/laws.FnExactCountCovers", spec := "fnExactCountCovers", unfollowed := true, recurses := true, apart := false, narrowed := true }
def FnExactCountCoversUptoSaid : Prop := fnExactCountCoversUptoRow.holds Try.pinned (OpenSpec.upto fnExactCountCoversSpec)

/-- 'laws.FnExactMostCovered', WHERE WHAT IT READS IS OF BULK AT MOST 1048576: true; the input reads as it did. -/
def fnExactMostCoveredUptoRow : OpenClaim := { program := "ytphlfkeamhpimaa", sum := "51b1b68968d0b4a4e8be3133305f2015d2debec550fe3ee154d5bd865b7b3598", func := "loop.example/g01235/laws.FnExactMostCovered", spec := "fnExactMostCovered", unfollowed := true, recurses := true, apart := false, narrowed := true }
def FnExactMostCoveredUptoSaid : Prop := fnExactMostCoveredUptoRow.holds Try.pinned (OpenSpec.upto fnExactMostCoveredSpec)

/-- 'laws.FnExactFirstCover', WHERE WHAT IT READS IS OF BULK AT MOST 1048576: true; the input reads as it did. -/
def fnExactFirstCoverUptoRow : OpenClaim := { program := "ytphlfkeamhpimaa", sum := "51b1b68968d0b4a4e8be3133305f2015d2debec550fe3ee154d5bd865b7b3598", func := "loop.example/g01235/laws.FnExactFirstCover", spec := "fnExactFirstCover", unfollowed := true, recurses := true, apart := false, narrowed := true }
def FnExactFirstCoverUptoSaid : Prop := fnExactFirstCoverUptoRow.holds Try.pinned (OpenSpec.upto fnExactFirstCoverSpec)

/-- 'laws.FnCoversFoundOfAll', WHERE WHAT IT READS IS OF BULK AT MOST 1048576: true; the input reads as it did. -/
def fnCoversFoundOfAllUptoRow : OpenClaim := { program := "ytphlfkeamhpimaa", sum := "51b1b68968d0b4a4e8be3133305f2015d2debec550fe3ee154d5bd865b7b3598", func := "loop.example/g01235/laws.FnCoversFoundOfAll", spec := "fnCoversFoundOfAll", unfollowed := true, recurses := true, apart := false, narrowed := true }
def FnCoversFoundOfAllUptoSaid : Prop := fnCoversFoundOfAllUptoRow.holds Try.pinned (OpenSpec.upto fnCoversFoundOfAllSpec)

/-- 'laws.FnGapsToldOfAll', WHERE WHAT IT READS IS OF BULK AT MOST 1048576: true; the input reads as it did. -/
def fnGapsToldOfAllUptoRow : OpenClaim := { program := "ytphlfkeamhpimaa", sum := "51b1b68968d0b4a4e8be3133305f2015d2debec550fe3ee154d5bd865b7b3598", func := "loop.example/g01235/laws.FnGapsToldOfAll", spec := "fnGapsToldOfAll", unfollowed := true, recurses := true, apart := false, narrowed := true }
def FnGapsToldOfAllUptoSaid : Prop := fnGapsToldOfAllUptoRow.holds Try.pinned (OpenSpec.upto fnGapsToldOfAllSpec)

end Rows
end Go.Proofs.Ytphlfkeamhpimaa
