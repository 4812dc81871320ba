/-
  No cell of these rows narrows 'for every input' (looked for: loops, veiled, ifaces, maps, wideKeys, modest, calm, conditions, laid).
  DERIVED. THE GIVEN ROWS OF THIS SEAT. 8 by the template 'for every input the law returns true; each argument reads behind the call as it read before'; 0 by the template 'total and deterministic' (their statements: YtccekbbefllbgaaTotals.lean).
  GIVEN WITH THE SEED: the statements are not yours to turn. If you find one false, say at which input.
  Laid BY PROGRAM, IN A SANDBOX (cutbox-rows.mjs): the forced cells as the released guide's own fill.sh prints them over the translation 5d89172c57fc3226… (all of the seat's roots in one cut). By AI agents, Wed Nov 11 2026. No macro, syntax, notation, axiom, sorry.
-/
import Derived.Test.YtccekbbefllbgaaChecked
import GoSem.Claim
import GoSem.ClaimJoined
import GoSem.ClaimMapViews
import Derived.JoinedTies
import Derived.KernelRfl
namespace Go.Proofs.Ytccekbbefllbgaa
/- THE CELL 'sum', in the pinned program and in every row, IS THE sha256 OF THE DUMP (.gsa) THAT YtccekbbefllbgaaProg.lean LOADS. Nothing in Lean hashes anything: it is a label: what it is worth is what the hold of that sum in a sandbox is worth. -/
noncomputable def Try.pinned : Pinned := { name := "ytccekbbefllbgaa", sum := "5d89172c57fc3226590d494bb36d4151cf833e650380288ccd208f1300eb6a3d", checked := Try.checked }
namespace Rows
def none {H : Type} : Left H := { results := [], args := [] }

/-- 'laws.FnExactGapsOfPeriod': WHATEVER THE INPUT: true; the input reads as it did. -/
def fnExactGapsOfPeriodSpec : ChangeSpec := { name := "fnExactGapsOfPeriod", fn := fun _ => fun
  | [d] => { results := [.lit (.bool true)], args := [d] }
  | _ => none }
def fnExactGapsOfPeriodRow : OpenClaim := { program := "ytccekbbefllbgaa", sum := "5d89172c57fc3226590d494bb36d4151cf833e650380288ccd208f1300eb6a3d", func := "loop.example/g01235/laws.FnExactGapsOfPeriod", spec := "fnExactGapsOfPeriod", unfollowed := true, recurses := true, apart := false }
def FnExactGapsOfPeriodSaid : Prop := fnExactGapsOfPeriodRow.holds Try.pinned (OpenSpec.ofChange fnExactGapsOfPeriodSpec)

/-- ITS FALSE NEIGHBOUR: 'it returns false'. Refute it at one input. -/
def fnExactGapsOfPeriodWrong : ChangeSpec := { name := "fnExactGapsOfPeriod", fn := fun _ => fun
  | [d] => { results := [.lit (.bool false)], args := [d] }
  | _ => none }
def FnExactGapsOfPeriodWrongFalsely : Prop := fnExactGapsOfPeriodRow.holds Try.pinned (OpenSpec.ofChange fnExactGapsOfPeriodWrong)

/-- 'laws.FnExactLeastInWindow': WHATEVER THE INPUT: true; the input reads as it did. -/
def fnExactLeastInWindowSpec : ChangeSpec := { name := "fnExactLeastInWindow", fn := fun _ => fun
  | [d1, d2] => { results := [.lit (.bool true)], args := [d1, d2] }
  | _ => none }
def fnExactLeastInWindowRow : OpenClaim := { program := "ytccekbbefllbgaa", sum := "5d89172c57fc3226590d494bb36d4151cf833e650380288ccd208f1300eb6a3d", func := "loop.example/g01235/laws.FnExactLeastInWindow", spec := "fnExactLeastInWindow", unfollowed := true, recurses := true, apart := false }
def FnExactLeastInWindowSaid : Prop := fnExactLeastInWindowRow.holds Try.pinned (OpenSpec.ofChange fnExactLeastInWindowSpec)

/-- ITS FALSE NEIGHBOUR: 'it returns false'. Refute it at one input. -/
def fnExactLeastInWindowWrong : ChangeSpec := { name := "fnExactLeastInWindow", fn := fun _ => fun
  | [d1, d2] => { results := [.lit (.bool false)], args := [d1, d2] }
  | _ => none }
def FnExactLeastInWindowWrongFalsely : Prop := fnExactLeastInWindowRow.holds Try.pinned (OpenSpec.ofChange fnExactLeastInWindowWrong)

/-- 'laws.FnExactMostInWindow': WHATEVER THE INPUT: true; the input reads as it did. -/
def fnExactMostInWindowSpec : ChangeSpec := { name := "fnExactMostInWindow", fn := fun _ => fun
  | [d1, d2] => { results := [.lit (.bool true)], args := [d1, d2] }
  | _ => none }
def fnExactMostInWindowRow : OpenClaim := { program := "ytccekbbefllbgaa", sum := "5d89172c57fc3226590d494bb36d4151cf833e650380288ccd208f1300eb6a3d", func := "loop.example/g01235/laws.FnExactMostInWindow", spec := "fnExactMostInWindow", unfollowed := true, recurses := true, apart := false }
def FnExactMostInWindowSaid : Prop := fnExactMostInWindowRow.holds Try.pinned (OpenSpec.ofChange fnExactMostInWindowSpec)

/-- ITS FALSE NEIGHBOUR: 'it returns false'. Refute it at one input. -/
def fnExactMostInWindowWrong : ChangeSpec := { name := "fnExactMostInWindow", fn := fun _ => fun
  | [d1, d2] => { results := [.lit (.bool false)], args := [d1, d2] }
  | _ => none }
def FnExactMostInWindowWrongFalsely : Prop := fnExactMostInWindowRow.holds Try.pinned (OpenSpec.ofChange fnExactMostInWindowWrong)

/-- 'laws.FnExactFirstCover': WHATEVER THE INPUT: true; the input reads as it did. -/
def fnExactFirstCoverSpec : ChangeSpec := { name := "fnExactFirstCover", fn := fun _ => fun
  | [d1, d2] => { results := [.lit (.bool true)], args := [d1, d2] }
  | _ => none }
def fnExactFirstCoverRow : OpenClaim := { program := "ytccekbbefllbgaa", sum := "5d89172c57fc3226590d494bb36d4151cf833e650380288ccd208f1300eb6a3d", func := "loop.example/g01235/laws.FnExactFirstCover", spec := "fnExactFirstCover", unfollowed := true, recurses := true, apart := false }
def FnExactFirstCoverSaid : Prop := fnExactFirstCoverRow.holds Try.pinned (OpenSpec.ofChange fnExactFirstCoverSpec)

/-- ITS FALSE NEIGHBOUR: 'it returns false'. Refute it at one input. -/
def fnExactFirstCoverWrong : ChangeSpec := { name := "fnExactFirstCover", fn := fun _ => fun
  | [d1, d2] => { results := [.lit (.bool false)], args := [d1, d2] }
  | _ => none }
def FnExactFirstCoverWrongFalsely : Prop := fnExactFirstCoverRow.holds Try.pinned (OpenSpec.ofChange fnExactFirstCoverWrong)

/-- 'laws.FnCoversFoundOfAll': WHATEVER THE INPUT: true; the input reads as it did. -/
def fnCoversFoundOfAllSpec : ChangeSpec := { name := "fnCoversFoundOfAll", fn := fun _ => fun
  | [d1, d2, d3, d4, d5] => { results := [.lit (.bool true)], args := [d1, d2, d3, d4, d5] }
  | _ => none }
def fnCoversFoundOfAllRow : OpenClaim := { program := "ytccekbbefllbgaa", sum := "5d89172c57fc3226590d494bb36d4151cf833e650380288ccd208f1300eb6a3d", func := "loop.example/g01235/laws.FnCoversFoundOfAll", spec := "fnCoversFoundOfAll", unfollowed := true, recurses := true, apart := false }
def FnCoversFoundOfAllSaid : Prop := fnCoversFoundOfAllRow.holds Try.pinned (OpenSpec.ofChange fnCoversFoundOfAllSpec)

/-- ITS FALSE NEIGHBOUR: 'it returns false'. Refute it at one input. -/
def fnCoversFoundOfAllWrong : ChangeSpec := { name := "fnCoversFoundOfAll", fn := fun _ => fun
  | [d1, d2, d3, d4, d5] => { results := [.lit (.bool false)], args := [d1, d2, d3, d4, d5] }
  | _ => none }
def FnCoversFoundOfAllWrongFalsely : Prop := fnCoversFoundOfAllRow.holds Try.pinned (OpenSpec.ofChange fnCoversFoundOfAllWrong)

/-- 'laws.FnCoversFound': WHATEVER THE INPUT: true; the input reads as it did. -/
def fnCoversFoundSpec : ChangeSpec := { name := "fnCoversFound", fn := fun _ => fun
  | [d1, d2] => { results := [.lit (.bool true)], args := [d1, d2] }
  | _ => none }
def fnCoversFoundRow : OpenClaim := { program := "ytccekbbefllbgaa", sum := "5d89172c57fc3226590d494bb36d4151cf833e650380288ccd208f1300eb6a3d", func := "loop.example/g01235/laws.FnCoversFound", spec := "fnCoversFound", unfollowed := true, recurses := true, apart := false }
def FnCoversFoundSaid : Prop := fnCoversFoundRow.holds Try.pinned (OpenSpec.ofChange fnCoversFoundSpec)

/-- ITS FALSE NEIGHBOUR: 'it returns false'. Refute it at one input. -/
def fnCoversFoundWrong : ChangeSpec := { name := "fnCoversFound", fn := fun _ => fun
  | [d1, d2] => { results := [.lit (.bool false)], args := [d1, d2] }
  | _ => none }
def FnCoversFoundWrongFalsely : Prop := fnCoversFoundRow.holds Try.pinned (OpenSpec.ofChange fnCoversFoundWrong)

/-- 'laws.FnGapsToldOfAll': WHATEVER THE INPUT: true; the input reads as it did. -/
def fnGapsToldOfAllSpec : ChangeSpec := { name := "fnGapsToldOfAll", fn := fun _ => fun
  | [d1, d2, d3, d4, d5, d6, d7, d8, d9] => { results := [.lit (.bool true)], args := [d1, d2, d3, d4, d5, d6, d7, d8, d9] }
  | _ => none }
def fnGapsToldOfAllRow : OpenClaim := { program := "ytccekbbefllbgaa", sum := "5d89172c57fc3226590d494bb36d4151cf833e650380288ccd208f1300eb6a3d", func := "loop.example/g01235/laws.FnGapsToldOfAll", spec := "fnGapsToldOfAll", unfollowed := true, recurses := true, apart := false }
def FnGapsToldOfAllSaid : Prop := fnGapsToldOfAllRow.holds Try.pinned (OpenSpec.ofChange fnGapsToldOfAllSpec)

/-- ITS FALSE NEIGHBOUR: 'it returns false'. Refute it at one input. -/
def fnGapsToldOfAllWrong : ChangeSpec := { name := "fnGapsToldOfAll", fn := fun _ => fun
  | [d1, d2, d3, d4, d5, d6, d7, d8, d9] => { results := [.lit (.bool false)], args := [d1, d2, d3, d4, d5, d6, d7, d8, d9] }
  | _ => none }
def FnGapsToldOfAllWrongFalsely : Prop := fnGapsToldOfAllRow.holds Try.pinned (OpenSpec.ofChange fnGapsToldOfAllWrong)

/-- 'laws.FnGapsTold': WHATEVER THE INPUT: true; the input reads as it did. -/
def fnGapsToldSpec : ChangeSpec := { name := "fnGapsTold", fn := fun _ => fun
  | [d1, d2] => { results := [.lit (.bool true)], args := [d1, d2] }
  | _ => none }
def fnGapsToldRow : OpenClaim := { program := "ytccekbbefllbgaa", sum := "5d89172c57fc3226590d494bb36d4151cf833e650380288ccd208f1300eb6a3d", func := "loop.example/g01235/laws.FnGapsTold", spec := "fnGapsTold", unfollowed := true, recurses := true, apart := false }
def FnGapsToldSaid : Prop := fnGapsToldRow.holds Try.pinned (OpenSpec.ofChange fnGapsToldSpec)

/-- ITS FALSE NEIGHBOUR: 'it returns false'. Refute it at one input. -/
def fnGapsToldWrong : ChangeSpec := { name := "fnGapsTold", fn := fun _ => fun
  | [d1, d2] => { results := [.lit (.bool false)], args := [d1, d2] }
  | _ => none }
def FnGapsToldWrongFalsely : Prop := fnGapsToldRow.holds Try.pinned (OpenSpec.ofChange fnGapsToldWrong)

/- THE SECOND FORM. 'bulk': how many values and letters a reading holds, each counted each time it is reached (what is shared counts as often as it is met; a slice's spare places count too). A statement '..UptoSaid' is the law's where the arguments, and the package variables that the reading takes, are together of bulk at most 1048576: NARROWER than '..Said'. Prove '..Said' where nothing that the law and all that it calls make is longer than what came in: it says more and counts as full. Else prove '..UptoSaid'. A law counts once. -/
mutual
def uptoBulk {H : Type} : DataW H → Nat
  | .lit (.string bytes) => bytes.length + 1
  | .lit _ => 1
  | .nil => 1
  | .ptr d => uptoBulk d + 1
  | .slice elems spare => uptoBulkAll elems + uptoBulkAll spare + 1
  | .agg parts => uptoBulkAll parts + 1
  | .iface _ d => uptoBulk d + 1
  | .map entries => uptoBulkEntries entries + 1
  | .held _ => 1
def uptoBulkAll {H : Type} : List (DataW H) → Nat
  | [] => 0
  | d :: r => uptoBulk d + uptoBulkAll r
def uptoBulkEntries {H : Type} : List (Lit × DataW H) → Nat
  | [] => 0
  | x :: r => uptoBulkEntry x + uptoBulkEntries r
def uptoBulkEntry {H : Type} : Lit × DataW H → Nat
  | (.string bytes, d) => bytes.length + uptoBulk d + 1
  | (_, d) => uptoBulk d + 1
 end
def uptoSmall : (H : Type) → List (DataW H) → Bool := fun _ ds => decide (uptoBulkAll ds ≤ 1048576)
def OpenSpec.upto (s : _root_.Go.ChangeSpec) : _root_.Go.OpenSpec := { _root_.Go.OpenSpec.ofChange s with cond := some uptoSmall }

/-- 'laws.FnExactGapsOfPeriod', WHERE WHAT IT READS IS OF BULK AT MOST 1048576: true; the input reads as it did. -/
def fnExactGapsOfPeriodUptoRow : OpenClaim := { program := "ytccekbbefllbgaa", sum := "5d89172c57fc3226590d494bb36d4151cf833e650380288ccd208f1300eb6a3d", func := "loop.example/g01235/laws.FnExactGapsOfPeriod", spec := "fnExactGapsOfPeriod", unfollowed := true, recurses := true, apart := false, narrowed := true }
def FnExactGapsOfPeriodUptoSaid : Prop := fnExactGapsOfPeriodUptoRow.holds Try.pinned (OpenSpec.upto fnExactGapsOfPeriodSpec)

/-- 'laws.FnExactLeastInWindow', WHERE WHAT IT READS IS OF BULK AT MOST 1048576: true; the input reads as it did. -/
def fnExactLeastInWindowUptoRow : OpenClaim := { program := "ytccekbbefllbgaa", sum := "5d89172c57fc3226590d494bb36d4151cf833e650380288ccd208f1300eb6a3d", func := "loop.example/g01235/laws.FnExactLeastInWindow", spec := "fnExactLeastInWindow", unfollowed := true, recurses := true, apart := false, narrowed := true }
def FnExactLeastInWindowUptoSaid : Prop := fnExactLeastInWindowUptoRow.holds Try.pinned (OpenSpec.upto fnExactLeastInWindowSpec)

/-- 'laws.FnExactMostInWindow', WHERE WHAT IT READS IS OF BULK AT MOST 1048576: true; the input reads as it did. -/
def fnExactMostInWindowUptoRow : OpenClaim := { program := "ytccekbbefllbgaa", sum := "5d89172c57fc3226590d494bb36d4151cf833e650380288ccd208f1300eb6a3d", func := "loop.example/g01235/laws.FnExactMostInWindow", spec := "fnExactMostInWindow", unfollowed := true, recurses := true, apart := false, narrowed := true }
def FnExactMostInWindowUptoSaid : Prop := fnExactMostInWindowUptoRow.holds Try.pinned (OpenSpec.upto fnExactMostInWindowSpec)

/-- 'laws.FnExactFirstCover', WHERE WHAT IT READS IS OF BULK AT MOST 1048576: true; the input reads as it did. -/
def fnExactFirstCoverUptoRow : OpenClaim := { program := "ytccekbbefllbgaa", sum := "5d89172c57fc3226590d494bb36d4151cf833e650380288ccd208f1300eb6a3d", func := "loop.example/g01235/laws.FnExactFirstCover", spec := "fnExactFirstCover", unfollowed := true, recurses := true, apart := false, narrowed := true }
def FnExactFirstCoverUptoSaid : Prop := fnExactFirstCoverUptoRow.holds Try.pinned (OpenSpec.upto fnExactFirstCoverSpec)

/-- 'laws.FnCoversFoundOfAll', WHERE WHAT IT READS IS OF BULK AT MOST 1048576: true; the input reads as it did. -/
def fnCoversFoundOfAllUptoRow : OpenClaim := { program := "ytccekbbefllbgaa", sum := "5d89172c57fc3226590d494bb36d4151cf833e650380288ccd208f1300eb6a3d", func := "loop.example/g01235/laws.FnCoversFoundOfAll", spec := "fnCoversFoundOfAll", unfollowed := true, recurses := true, apart := false, narrowed := true }
def FnCoversFoundOfAllUptoSaid : Prop := fnCoversFoundOfAllUptoRow.holds Try.pinned (OpenSpec.upto fnCoversFoundOfAllSpec)

/-- 'laws.FnCoversFound', WHERE WHAT IT READS IS OF BULK AT MOST 1048576: true; the input reads as it did. -/
def fnCoversFoundUptoRow : OpenClaim := { program := "ytccekbbefllbgaa", sum := "5d89172c57fc3226590d494bb36d4151cf833e650380288ccd208f1300eb6a3d", func := "loop.example/g01235/laws.FnCoversFound", spec := "fnCoversFound", unfollowed := true, recurses := true, apart := false, narrowed := true }
def FnCoversFoundUptoSaid : Prop := fnCoversFoundUptoRow.holds Try.pinned (OpenSpec.upto fnCoversFoundSpec)

/-- 'laws.FnGapsToldOfAll', WHERE WHAT IT READS IS OF BULK AT MOST 1048576: true; the input reads as it did. -/
def fnGapsToldOfAllUptoRow : OpenClaim := { program := "ytccekbbefllbgaa", sum := "5d89172c57fc3226590d494bb36d4151cf833e650380288ccd208f1300eb6a3d", func := "loop.example/g01235/laws.FnGapsToldOfAll", spec := "fnGapsToldOfAll", unfollowed := true, recurses := true, apart := false, narrowed := true }
def FnGapsToldOfAllUptoSaid : Prop := fnGapsToldOfAllUptoRow.holds Try.pinned (OpenSpec.upto fnGapsToldOfAllSpec)

/-- 'laws.FnGapsTold', WHERE WHAT IT READS IS OF BULK AT MOST 1048576: true; the input reads as it did. -/
def fnGapsToldUptoRow : OpenClaim := { program := "ytccekbbefllbgaa", sum := "5d89172c57fc3226590d494bb36d4151cf833e650380288ccd208f1300eb6a3d", func := "loop.example/g01235/laws.FnGapsTold", spec := "fnGapsTold", unfollowed := true, recurses := true, apart := false, narrowed := true }
def FnGapsToldUptoSaid : Prop := fnGapsToldUptoRow.holds Try.pinned (OpenSpec.upto fnGapsToldSpec)

end Rows
end Go.Proofs.Ytccekbbefllbgaa
