/-
  NARROWER THAN 'FOR EVERY INPUT', by the rows' own cells (each row's printed sentence says how): FnExactIsPuzzle: laid · FnExactHideNumber: laid · FnExactShowNumber: laid · FnExactRulesThatFit: laid · FnExactHintOf: laid · FnExactFewestRules: laid · FnExactCountAnswers: laid · FnExactIsAnswer: laid · FnExactHarderPuzzle: laid · FnExactFirstAnswer: laid.
  DERIVED. THE GIVEN ROWS OF THIS SEAT. 10 by the template 'for every input the law returns true; each argument reads behind the call as it read before'; 0 by the template 'total and deterministic' (their statements: YtjekkcjlfgfnkaaDoorTotals.lean).
  GIVEN WITH THE SEED: the statements are not yours to turn. If you find one false, say at which input.
  Laid BY PROGRAM, IN A SANDBOX (cutbox-rows.mjs): the forced cells as the released guide's own fill.sh prints them over the translation 8edc1f2e42bdac03… (all of the seat's roots in one cut). By AI agents, Wed Nov 11 2026. No macro, syntax, notation, axiom, sorry.
-/
import Derived.Test.YtjekkcjlfgfnkaaDoorChecked
import GoSem.PinnedTables
import GoSem.Claim
import GoSem.ClaimJoined
import GoSem.ClaimMapViews
import Derived.JoinedTies
import Derived.KernelRfl
namespace Go.Proofs.YtjekkcjlfgfnkaaDoor
/- THE CELL 'sum', in the pinned program and in every row, IS THE sha256 OF THE DUMP (.gsa) THAT YtjekkcjlfgfnkaaDoorProg.lean LOADS. Nothing in Lean hashes anything: it is a label: what it is worth is what the hold of that sum in a sandbox is worth. -/
noncomputable def Tryd.pinned : Pinned := { name := "ytjekkcjlfgfnkaadoor", sum := "8edc1f2e42bdac032c98de64068928b511f0ad68844efdb16a14e9680f0452e4", checked := Tryd.checked }
namespace Rows
def none {H : Type} : Left H := { results := [], args := [] }

/- WHAT THE LISTED PACKAGE-LEVEL VARIABLES READ AS WHEN THE CALL BEGINS. Each datum BY PROGRAM (the guide's laid-datum.mjs) off the statement by which the dump's own 'gosem.cut.vars' lays the variable. In a bare row this is a premise. The card (YtjekkcjlfgfnkaaDoorCards.lean) ties it to the program's text. -/
def laid_unicode_utf8_acceptRanges {H : Type} : DataW H := .agg [.agg [.lit (.int .u8 128), .lit (.int .u8 191)], .agg [.lit (.int .u8 160), .lit (.int .u8 191)], .agg [.lit (.int .u8 128), .lit (.int .u8 159)], .agg [.lit (.int .u8 144), .lit (.int .u8 191)], .agg [.lit (.int .u8 128), .lit (.int .u8 143)], .agg [.lit (.int .u8 0), .lit (.int .u8 0)], .agg [.lit (.int .u8 0), .lit (.int .u8 0)], .agg [.lit (.int .u8 0), .lit (.int .u8 0)], .agg [.lit (.int .u8 0), .lit (.int .u8 0)], .agg [.lit (.int .u8 0), .lit (.int .u8 0)], .agg [.lit (.int .u8 0), .lit (.int .u8 0)], .agg [.lit (.int .u8 0), .lit (.int .u8 0)], .agg [.lit (.int .u8 0), .lit (.int .u8 0)], .agg [.lit (.int .u8 0), .lit (.int .u8 0)], .agg [.lit (.int .u8 0), .lit (.int .u8 0)], .agg [.lit (.int .u8 0), .lit (.int .u8 0)]]
/-- One of Go's own tables, pinned by name: the form's constant. -/
def laid_unicode_utf8_first : DataW Unit := Go.Pinned.utf8First

/-- 'laws.FnExactIsPuzzle': WHATEVER THE INPUT: true; the input reads as it did. -/
def fnExactIsPuzzleSpec : ChangeSpec := { name := "fnExactIsPuzzle", fn := fun _ => fun
  | [d] => { results := [.lit (.bool true)], args := [d] }
  | _ => none }
def fnExactIsPuzzleRow : OpenClaim := { program := "ytjekkcjlfgfnkaadoor", sum := "8edc1f2e42bdac032c98de64068928b511f0ad68844efdb16a14e9680f0452e4", func := "loop.example/g01235/laws.FnExactIsPuzzle", spec := "fnExactIsPuzzle", inPlace := ["internal/bytealg.IndexByteString", "internal/bytealg.IndexString"], named := ["unicode/utf8.first", "unicode/utf8.acceptRanges", "internal/bytealg.MaxLen"], apart := false, laid := [("unicode/utf8.acceptRanges", laid_unicode_utf8_acceptRanges), ("unicode/utf8.first", laid_unicode_utf8_first)] }
def FnExactIsPuzzleSaid : Prop := fnExactIsPuzzleRow.holds Tryd.pinned (OpenSpec.ofChange fnExactIsPuzzleSpec)

/-- ITS FALSE NEIGHBOUR: 'it returns false'. Refute it at one input. -/
def fnExactIsPuzzleWrong : ChangeSpec := { name := "fnExactIsPuzzle", fn := fun _ => fun
  | [d] => { results := [.lit (.bool false)], args := [d] }
  | _ => none }
def FnExactIsPuzzleWrongFalsely : Prop := fnExactIsPuzzleRow.holds Tryd.pinned (OpenSpec.ofChange fnExactIsPuzzleWrong)

/-- 'laws.FnExactHideNumber': WHATEVER THE INPUT: true; the input reads as it did. -/
def fnExactHideNumberSpec : ChangeSpec := { name := "fnExactHideNumber", fn := fun _ => fun
  | [d1, d2] => { results := [.lit (.bool true)], args := [d1, d2] }
  | _ => none }
def fnExactHideNumberRow : OpenClaim := { program := "ytjekkcjlfgfnkaadoor", sum := "8edc1f2e42bdac032c98de64068928b511f0ad68844efdb16a14e9680f0452e4", func := "loop.example/g01235/laws.FnExactHideNumber", spec := "fnExactHideNumber", inPlace := ["internal/bytealg.IndexByteString", "internal/bytealg.IndexString"], named := ["unicode/utf8.first", "unicode/utf8.acceptRanges", "internal/bytealg.MaxLen"], apart := false, laid := [("unicode/utf8.acceptRanges", laid_unicode_utf8_acceptRanges), ("unicode/utf8.first", laid_unicode_utf8_first)] }
def FnExactHideNumberSaid : Prop := fnExactHideNumberRow.holds Tryd.pinned (OpenSpec.ofChange fnExactHideNumberSpec)

/-- ITS FALSE NEIGHBOUR: 'it returns false'. Refute it at one input. -/
def fnExactHideNumberWrong : ChangeSpec := { name := "fnExactHideNumber", fn := fun _ => fun
  | [d1, d2] => { results := [.lit (.bool false)], args := [d1, d2] }
  | _ => none }
def FnExactHideNumberWrongFalsely : Prop := fnExactHideNumberRow.holds Tryd.pinned (OpenSpec.ofChange fnExactHideNumberWrong)

/-- 'laws.FnExactShowNumber': WHATEVER THE INPUT: true; the input reads as it did. -/
def fnExactShowNumberSpec : ChangeSpec := { name := "fnExactShowNumber", fn := fun _ => fun
  | [d1, d2, d3] => { results := [.lit (.bool true)], args := [d1, d2, d3] }
  | _ => none }
def fnExactShowNumberRow : OpenClaim := { program := "ytjekkcjlfgfnkaadoor", sum := "8edc1f2e42bdac032c98de64068928b511f0ad68844efdb16a14e9680f0452e4", func := "loop.example/g01235/laws.FnExactShowNumber", spec := "fnExactShowNumber", inPlace := ["internal/bytealg.IndexByteString", "internal/bytealg.IndexString"], named := ["unicode/utf8.first", "unicode/utf8.acceptRanges", "internal/bytealg.MaxLen"], apart := false, laid := [("unicode/utf8.acceptRanges", laid_unicode_utf8_acceptRanges), ("unicode/utf8.first", laid_unicode_utf8_first)] }
def FnExactShowNumberSaid : Prop := fnExactShowNumberRow.holds Tryd.pinned (OpenSpec.ofChange fnExactShowNumberSpec)

/-- ITS FALSE NEIGHBOUR: 'it returns false'. Refute it at one input. -/
def fnExactShowNumberWrong : ChangeSpec := { name := "fnExactShowNumber", fn := fun _ => fun
  | [d1, d2, d3] => { results := [.lit (.bool false)], args := [d1, d2, d3] }
  | _ => none }
def FnExactShowNumberWrongFalsely : Prop := fnExactShowNumberRow.holds Tryd.pinned (OpenSpec.ofChange fnExactShowNumberWrong)

/-- 'laws.FnExactRulesThatFit': WHATEVER THE INPUT: true; the input reads as it did. -/
def fnExactRulesThatFitSpec : ChangeSpec := { name := "fnExactRulesThatFit", fn := fun _ => fun
  | [d] => { results := [.lit (.bool true)], args := [d] }
  | _ => none }
def fnExactRulesThatFitRow : OpenClaim := { program := "ytjekkcjlfgfnkaadoor", sum := "8edc1f2e42bdac032c98de64068928b511f0ad68844efdb16a14e9680f0452e4", func := "loop.example/g01235/laws.FnExactRulesThatFit", spec := "fnExactRulesThatFit", inPlace := ["internal/bytealg.IndexByteString", "internal/bytealg.IndexString"], named := ["unicode/utf8.first", "unicode/utf8.acceptRanges", "internal/bytealg.MaxLen"], apart := false, laid := [("unicode/utf8.acceptRanges", laid_unicode_utf8_acceptRanges), ("unicode/utf8.first", laid_unicode_utf8_first)] }
def FnExactRulesThatFitSaid : Prop := fnExactRulesThatFitRow.holds Tryd.pinned (OpenSpec.ofChange fnExactRulesThatFitSpec)

/-- ITS FALSE NEIGHBOUR: 'it returns false'. Refute it at one input. -/
def fnExactRulesThatFitWrong : ChangeSpec := { name := "fnExactRulesThatFit", fn := fun _ => fun
  | [d] => { results := [.lit (.bool false)], args := [d] }
  | _ => none }
def FnExactRulesThatFitWrongFalsely : Prop := fnExactRulesThatFitRow.holds Tryd.pinned (OpenSpec.ofChange fnExactRulesThatFitWrong)

/-- 'laws.FnExactHintOf': WHATEVER THE INPUT: true; the input reads as it did. -/
def fnExactHintOfSpec : ChangeSpec := { name := "fnExactHintOf", fn := fun _ => fun
  | [d] => { results := [.lit (.bool true)], args := [d] }
  | _ => none }
def fnExactHintOfRow : OpenClaim := { program := "ytjekkcjlfgfnkaadoor", sum := "8edc1f2e42bdac032c98de64068928b511f0ad68844efdb16a14e9680f0452e4", func := "loop.example/g01235/laws.FnExactHintOf", spec := "fnExactHintOf", inPlace := ["internal/bytealg.IndexByteString", "internal/bytealg.IndexString"], unfollowed := true, recurses := true, named := ["unicode/utf8.first", "unicode/utf8.acceptRanges", "internal/bytealg.MaxLen"], apart := false, laid := [("unicode/utf8.acceptRanges", laid_unicode_utf8_acceptRanges), ("unicode/utf8.first", laid_unicode_utf8_first)] }
def FnExactHintOfSaid : Prop := fnExactHintOfRow.holds Tryd.pinned (OpenSpec.ofChange fnExactHintOfSpec)

/-- ITS FALSE NEIGHBOUR: 'it returns false'. Refute it at one input. -/
def fnExactHintOfWrong : ChangeSpec := { name := "fnExactHintOf", fn := fun _ => fun
  | [d] => { results := [.lit (.bool false)], args := [d] }
  | _ => none }
def FnExactHintOfWrongFalsely : Prop := fnExactHintOfRow.holds Tryd.pinned (OpenSpec.ofChange fnExactHintOfWrong)

/-- 'laws.FnExactFewestRules': WHATEVER THE INPUT: true; the input reads as it did. -/
def fnExactFewestRulesSpec : ChangeSpec := { name := "fnExactFewestRules", fn := fun _ => fun
  | [d] => { results := [.lit (.bool true)], args := [d] }
  | _ => none }
def fnExactFewestRulesRow : OpenClaim := { program := "ytjekkcjlfgfnkaadoor", sum := "8edc1f2e42bdac032c98de64068928b511f0ad68844efdb16a14e9680f0452e4", func := "loop.example/g01235/laws.FnExactFewestRules", spec := "fnExactFewestRules", inPlace := ["internal/bytealg.IndexByteString", "internal/bytealg.IndexString"], unfollowed := true, recurses := true, named := ["unicode/utf8.first", "unicode/utf8.acceptRanges", "internal/bytealg.MaxLen"], apart := false, laid := [("unicode/utf8.acceptRanges", laid_unicode_utf8_acceptRanges), ("unicode/utf8.first", laid_unicode_utf8_first)] }
def FnExactFewestRulesSaid : Prop := fnExactFewestRulesRow.holds Tryd.pinned (OpenSpec.ofChange fnExactFewestRulesSpec)

/-- ITS FALSE NEIGHBOUR: 'it returns false'. Refute it at one input. -/
def fnExactFewestRulesWrong : ChangeSpec := { name := "fnExactFewestRules", fn := fun _ => fun
  | [d] => { results := [.lit (.bool false)], args := [d] }
  | _ => none }
def FnExactFewestRulesWrongFalsely : Prop := fnExactFewestRulesRow.holds Tryd.pinned (OpenSpec.ofChange fnExactFewestRulesWrong)

/-- 'laws.FnExactCountAnswers': WHATEVER THE INPUT: true; the input reads as it did. -/
def fnExactCountAnswersSpec : ChangeSpec := { name := "fnExactCountAnswers", fn := fun _ => fun
  | [d] => { results := [.lit (.bool true)], args := [d] }
  | _ => none }
def fnExactCountAnswersRow : OpenClaim := { program := "ytjekkcjlfgfnkaadoor", sum := "8edc1f2e42bdac032c98de64068928b511f0ad68844efdb16a14e9680f0452e4", func := "loop.example/g01235/laws.FnExactCountAnswers", spec := "fnExactCountAnswers", inPlace := ["internal/bytealg.IndexByteString", "internal/bytealg.IndexString"], unfollowed := true, recurses := true, named := ["unicode/utf8.first", "unicode/utf8.acceptRanges", "internal/bytealg.MaxLen"], apart := false, laid := [("unicode/utf8.acceptRanges", laid_unicode_utf8_acceptRanges), ("unicode/utf8.first", laid_unicode_utf8_first)] }
def FnExactCountAnswersSaid : Prop := fnExactCountAnswersRow.holds Tryd.pinned (OpenSpec.ofChange fnExactCountAnswersSpec)

/-- ITS FALSE NEIGHBOUR: 'it returns false'. Refute it at one input. -/
def fnExactCountAnswersWrong : ChangeSpec := { name := "fnExactCountAnswers", fn := fun _ => fun
  | [d] => { results := [.lit (.bool false)], args := [d] }
  | _ => none }
def FnExactCountAnswersWrongFalsely : Prop := fnExactCountAnswersRow.holds Tryd.pinned (OpenSpec.ofChange fnExactCountAnswersWrong)

/-- 'laws.FnExactIsAnswer': WHATEVER THE INPUT: true; the input reads as it did. -/
def fnExactIsAnswerSpec : ChangeSpec := { name := "fnExactIsAnswer", fn := fun _ => fun
  | [d1, d2] => { results := [.lit (.bool true)], args := [d1, d2] }
  | _ => none }
def fnExactIsAnswerRow : OpenClaim := { program := "ytjekkcjlfgfnkaadoor", sum := "8edc1f2e42bdac032c98de64068928b511f0ad68844efdb16a14e9680f0452e4", func := "loop.example/g01235/laws.FnExactIsAnswer", spec := "fnExactIsAnswer", inPlace := ["internal/bytealg.IndexByteString", "internal/bytealg.IndexString"], unfollowed := true, recurses := true, named := ["unicode/utf8.first", "unicode/utf8.acceptRanges", "internal/bytealg.MaxLen"], apart := false, laid := [("unicode/utf8.acceptRanges", laid_unicode_utf8_acceptRanges), ("unicode/utf8.first", laid_unicode_utf8_first)] }
def FnExactIsAnswerSaid : Prop := fnExactIsAnswerRow.holds Tryd.pinned (OpenSpec.ofChange fnExactIsAnswerSpec)

/-- ITS FALSE NEIGHBOUR: 'it returns false'. Refute it at one input. -/
def fnExactIsAnswerWrong : ChangeSpec := { name := "fnExactIsAnswer", fn := fun _ => fun
  | [d1, d2] => { results := [.lit (.bool false)], args := [d1, d2] }
  | _ => none }
def FnExactIsAnswerWrongFalsely : Prop := fnExactIsAnswerRow.holds Tryd.pinned (OpenSpec.ofChange fnExactIsAnswerWrong)

/-- 'laws.FnExactHarderPuzzle': WHATEVER THE INPUT: true; the input reads as it did. -/
def fnExactHarderPuzzleSpec : ChangeSpec := { name := "fnExactHarderPuzzle", fn := fun _ => fun
  | [d] => { results := [.lit (.bool true)], args := [d] }
  | _ => none }
def fnExactHarderPuzzleRow : OpenClaim := { program := "ytjekkcjlfgfnkaadoor", sum := "8edc1f2e42bdac032c98de64068928b511f0ad68844efdb16a14e9680f0452e4", func := "loop.example/g01235/laws.FnExactHarderPuzzle", spec := "fnExactHarderPuzzle", inPlace := ["internal/bytealg.IndexByteString", "internal/bytealg.IndexString"], unfollowed := true, recurses := true, named := ["unicode/utf8.first", "unicode/utf8.acceptRanges", "internal/bytealg.MaxLen"], apart := false, laid := [("unicode/utf8.acceptRanges", laid_unicode_utf8_acceptRanges), ("unicode/utf8.first", laid_unicode_utf8_first)] }
def FnExactHarderPuzzleSaid : Prop := fnExactHarderPuzzleRow.holds Tryd.pinned (OpenSpec.ofChange fnExactHarderPuzzleSpec)

/-- ITS FALSE NEIGHBOUR: 'it returns false'. Refute it at one input. -/
def fnExactHarderPuzzleWrong : ChangeSpec := { name := "fnExactHarderPuzzle", fn := fun _ => fun
  | [d] => { results := [.lit (.bool false)], args := [d] }
  | _ => none }
def FnExactHarderPuzzleWrongFalsely : Prop := fnExactHarderPuzzleRow.holds Tryd.pinned (OpenSpec.ofChange fnExactHarderPuzzleWrong)

/-- 'laws.FnExactFirstAnswer': WHATEVER THE INPUT: true; the input reads as it did. -/
def fnExactFirstAnswerSpec : ChangeSpec := { name := "fnExactFirstAnswer", fn := fun _ => fun
  | [d] => { results := [.lit (.bool true)], args := [d] }
  | _ => none }
def fnExactFirstAnswerRow : OpenClaim := { program := "ytjekkcjlfgfnkaadoor", sum := "8edc1f2e42bdac032c98de64068928b511f0ad68844efdb16a14e9680f0452e4", func := "loop.example/g01235/laws.FnExactFirstAnswer", spec := "fnExactFirstAnswer", inPlace := ["internal/bytealg.IndexByteString", "internal/bytealg.IndexString"], unfollowed := true, recurses := true, named := ["unicode/utf8.first", "unicode/utf8.acceptRanges", "internal/bytealg.MaxLen"], apart := false, laid := [("unicode/utf8.acceptRanges", laid_unicode_utf8_acceptRanges), ("unicode/utf8.first", laid_unicode_utf8_first)] }
def FnExactFirstAnswerSaid : Prop := fnExactFirstAnswerRow.holds Tryd.pinned (OpenSpec.ofChange fnExactFirstAnswerSpec)

/-- ITS FALSE NEIGHBOUR: 'it returns false'. Refute it at one input. -/
def fnExactFirstAnswerWrong : ChangeSpec := { name := "fnExactFirstAnswer", fn := fun _ => fun
  | [d] => { results := [.lit (.bool false)], args := [d] }
  | _ => none }
def FnExactFirstAnswerWrongFalsely : Prop := fnExactFirstAnswerRow.holds Tryd.pinned (OpenSpec.ofChange fnExactFirstAnswerWrong)

/- THE SECOND FORM. 'bulk': how many values and letters a reading holds, each counted each time it is reached (what is shared counts as often as it is met; a slice's spare places count too). A statement '..UptoSaid' is the law's where the arguments, and the package variables that the reading takes, are together of bulk at most 1048576: NARROWER than '..Said'. Prove '..Said' where nothing that the law and all that it calls make is longer than what came in: it says more and counts as full. Else prove '..UptoSaid'. A law counts once. -/
mutual
def uptoBulk {H : Type} : DataW H → Nat
  | .lit (.string bytes) => bytes.length + 1
  | .lit _ => 1
  | .nil => 1
  | .ptr d => uptoBulk d + 1
  | .slice elems spare => uptoBulkAll elems + uptoBulkAll spare + 1
  | .agg parts => uptoBulkAll parts + 1
  | .iface _ d => uptoBulk d + 1
  | .map entries => uptoBulkEntries entries + 1
  | .held _ => 1
def uptoBulkAll {H : Type} : List (DataW H) → Nat
  | [] => 0
  | d :: r => uptoBulk d + uptoBulkAll r
def uptoBulkEntries {H : Type} : List (Lit × DataW H) → Nat
  | [] => 0
  | x :: r => uptoBulkEntry x + uptoBulkEntries r
def uptoBulkEntry {H : Type} : Lit × DataW H → Nat
  | (.string bytes, d) => bytes.length + uptoBulk d + 1
  | (_, d) => uptoBulk d + 1
 end
def uptoSmall : (H : Type) → List (DataW H) → Bool := fun _ ds => decide (uptoBulkAll ds ≤ 1048576)
def OpenSpec.upto (s : _root_.Go.ChangeSpec) : _root_.Go.OpenSpec := { _root_.Go.OpenSpec.ofChange s with cond := some uptoSmall }

/-- 'laws.FnExactIsPuzzle', WHERE WHAT IT READS IS OF BULK AT MOST 1048576: true; the input reads as it did. -/
def fnExactIsPuzzleUptoRow : OpenClaim := { program := "ytjekkcjlfgfnkaadoor", sum := "8edc1f2e42bdac032c98de64068928b511f0ad68844efdb16a14e9680f0452e4", func := "loop.example/g01235/laws.FnExactIsPuzzle", spec := "fnExactIsPuzzle", inPlace := ["internal/bytealg.IndexByteString", "internal/bytealg.IndexString"], named := ["unicode/utf8.first", "unicode/utf8.acceptRanges", "internal/bytealg.MaxLen"], apart := false, laid := [("unicode/utf8.acceptRanges", laid_unicode_utf8_acceptRanges), ("unicode/utf8.first", laid_unicode_utf8_first)], narrowed := true }
def FnExactIsPuzzleUptoSaid : Prop := fnExactIsPuzzleUptoRow.holds Tryd.pinned (OpenSpec.upto fnExactIsPuzzleSpec)

/-- 'laws.FnExactHideNumber', WHERE WHAT IT READS IS OF BULK AT MOST 1048576: true; the input reads as it did. -/
def fnExactHideNumberUptoRow : OpenClaim := { program := "ytjekkcjlfgfnkaadoor", sum := "8edc1f2e42bdac032c98de64068928b511f0ad68844efdb16a14e9680f0452e4", func := "loop.example/g01235/laws.FnExactHideNumber", spec := "fnExactHideNumber", inPlace := ["internal/bytealg.IndexByteString", "internal/bytealg.IndexString"], named := ["unicode/utf8.first", "unicode/utf8.acceptRanges", "internal/bytealg.MaxLen"], apart := false, laid := [("unicode/utf8.acceptRanges", laid_unicode_utf8_acceptRanges), ("unicode/utf8.first", laid_unicode_utf8_first)], narrowed := true }
def FnExactHideNumberUptoSaid : Prop := fnExactHideNumberUptoRow.holds Tryd.pinned (OpenSpec.upto fnExactHideNumberSpec)

/-- 'laws.FnExactShowNumber', WHERE WHAT IT READS IS OF BULK AT MOST 1048576: true; the input reads as it did. -/
def fnExactShowNumberUptoRow : OpenClaim := { program := "ytjekkcjlfgfnkaadoor", sum := "8edc1f2e42bdac032c98de64068928b511f0ad68844efdb16a14e9680f0452e4", func := "loop.example/g01235/laws.FnExactShowNumber", spec := "fnExactShowNumber", inPlace := ["internal/bytealg.IndexByteString", "internal/bytealg.IndexString"], named := ["unicode/utf8.first", "unicode/utf8.acceptRanges", "internal/bytealg.MaxLen"], apart := false, laid := [("unicode/utf8.acceptRanges", laid_unicode_utf8_acceptRanges), ("unicode/utf8.first", laid_unicode_utf8_first)], narrowed := true }
def FnExactShowNumberUptoSaid : Prop := fnExactShowNumberUptoRow.holds Tryd.pinned (OpenSpec.upto fnExactShowNumberSpec)

/-- 'laws.FnExactRulesThatFit', WHERE WHAT IT READS IS OF BULK AT MOST 1048576: true; the input reads as it did. -/
def fnExactRulesThatFitUptoRow : OpenClaim := { program := "ytjekkcjlfgfnkaadoor", sum := "8edc1f2e42bdac032c98de64068928b511f0ad68844efdb16a14e9680f0452e4", func := "loop.example/g01235/laws.FnExactRulesThatFit", spec := "fnExactRulesThatFit", inPlace := ["internal/bytealg.IndexByteString", "internal/bytealg.IndexString"], named := ["unicode/utf8.first", "unicode/utf8.acceptRanges", "internal/bytealg.MaxLen"], apart := false, laid := [("unicode/utf8.acceptRanges", laid_unicode_utf8_acceptRanges), ("unicode/utf8.first", laid_unicode_utf8_first)], narrowed := true }
def FnExactRulesThatFitUptoSaid : Prop := fnExactRulesThatFitUptoRow.holds Tryd.pinned (OpenSpec.upto fnExactRulesThatFitSpec)

/-- 'laws.FnExactHintOf', WHERE WHAT IT READS IS OF BULK AT MOST 1048576: true; the input reads as it did. -/
def fnExactHintOfUptoRow : OpenClaim := { program := "ytjekkcjlfgfnkaadoor", sum := "8edc1f2e42bdac032c98de64068928b511f0ad68844efdb16a14e9680f0452e4", func := "loop.example/g01235/laws.FnExactHintOf", spec := "fnExactHintOf", inPlace := ["internal/bytealg.IndexByteString", "internal/bytealg.IndexString"], unfollowed := true, recurses := true, named := ["unicode/utf8.first", "unicode/utf8.acceptRanges", "internal/bytealg.MaxLen"], apart := false, laid := [("unicode/utf8.acceptRanges", laid_unicode_utf8_acceptRanges), ("unicode/utf8.first", laid_unicode_utf8_first)], narrowed := true }
def FnExactHintOfUptoSaid : Prop := fnExactHintOfUptoRow.holds Tryd.pinned (OpenSpec.upto fnExactHintOfSpec)

/-- 'laws.FnExactFewestRules', WHERE WHAT IT READS IS OF BULK AT MOST 1048576: true; the input reads as it did. -/
def fnExactFewestRulesUptoRow : OpenClaim := { program := "ytjekkcjlfgfnkaadoor", sum := "8edc1f2e42bdac032c98de64068928b511f0ad68844efdb16a14e9680f0452e4", func := "loop.example/g01235/laws.FnExactFewestRules", spec := "fnExactFewestRules", inPlace := ["internal/bytealg.IndexByteString", "internal/bytealg.IndexString"], unfollowed := true, recurses := true, named := ["unicode/utf8.first", "unicode/utf8.acceptRanges", "internal/bytealg.MaxLen"], apart := false, laid := [("unicode/utf8.acceptRanges", laid_unicode_utf8_acceptRanges), ("unicode/utf8.first", laid_unicode_utf8_first)], narrowed := true }
def FnExactFewestRulesUptoSaid : Prop := fnExactFewestRulesUptoRow.holds Tryd.pinned (OpenSpec.upto fnExactFewestRulesSpec)

/-- 'laws.FnExactCountAnswers', WHERE WHAT IT READS IS OF BULK AT MOST 1048576: true; the input reads as it did. -/
def fnExactCountAnswersUptoRow : OpenClaim := { program := "ytjekkcjlfgfnkaadoor", sum := "8edc1f2e42bdac032c98de64068928b511f0ad68844efdb16a14e9680f0452e4", func := "loop.example/g01235/laws.FnExactCountAnswers", spec := "fnExactCountAnswers", inPlace := ["internal/bytealg.IndexByteString", "internal/bytealg.IndexString"], unfollowed := true, recurses := true, named := ["unicode/utf8.first", "unicode/utf8.acceptRanges", "internal/bytealg.MaxLen"], apart := false, laid := [("unicode/utf8.acceptRanges", laid_unicode_utf8_acceptRanges), ("unicode/utf8.first", laid_unicode_utf8_first)], narrowed := true }
def FnExactCountAnswersUptoSaid : Prop := fnExactCountAnswersUptoRow.holds Tryd.pinned (OpenSpec.upto fnExactCountAnswersSpec)

/-- 'laws.FnExactIsAnswer', WHERE WHAT IT READS IS OF BULK AT MOST 1048576: true; the input reads as it did. -/
def fnExactIsAnswerUptoRow : OpenClaim := { program := "ytjekkcjlfgfnkaadoor", sum := "8edc1f2e42bdac032c98de64068928b511f0ad68844efdb16a14e9680f0452e4", func := "loop.example/g01235/laws.FnExactIsAnswer", spec := "fnExactIsAnswer", inPlace := ["internal/bytealg.IndexByteString", "internal/bytealg.IndexString"], unfollowed := true, recurses := true, named := ["unicode/utf8.first", "unicode/utf8.acceptRanges", "internal/bytealg.MaxLen"], apart := false, laid := [("unicode/utf8.acceptRanges", laid_unicode_utf8_acceptRanges), ("unicode/utf8.first", laid_unicode_utf8_first)], narrowed := true }
def FnExactIsAnswerUptoSaid : Prop := fnExactIsAnswerUptoRow.holds Tryd.pinned (OpenSpec.upto fnExactIsAnswerSpec)

/-- 'laws.FnExactHarderPuzzle', WHERE WHAT IT READS IS OF BULK AT MOST 1048576: true; the input reads as it did. -/
def fnExactHarderPuzzleUptoRow : OpenClaim := { program := "ytjekkcjlfgfnkaadoor", sum := "8edc1f2e42bdac032c98de64068928b511f0ad68844efdb16a14e9680f0452e4", func := "loop.example/g01235/laws.FnExactHarderPuzzle", spec := "fnExactHarderPuzzle", inPlace := ["internal/bytealg.IndexByteString", "internal/bytealg.IndexString"], unfollowed := true, recurses := true, named := ["unicode/utf8.first", "unicode/utf8.acceptRanges", "internal/bytealg.MaxLen"], apart := false, laid := [("unicode/utf8.acceptRanges", laid_unicode_utf8_acceptRanges), ("unicode/utf8.first", laid_unicode_utf8_first)], narrowed := true }
def FnExactHarderPuzzleUptoSaid : Prop := fnExactHarderPuzzleUptoRow.holds Tryd.pinned (OpenSpec.upto fnExactHarderPuzzleSpec)

/-- 'laws.FnExactFirstAnswer', WHERE WHAT IT READS IS OF BULK AT MOST 1048576: true; the input reads as it did. -/
def fnExactFirstAnswerUptoRow : OpenClaim := { program := "ytjekkcjlfgfnkaadoor", sum := "8edc1f2e42bdac032c98de64068928b511f0ad68844efdb16a14e9680f0452e4", func := "loop.example/g01235/laws.FnExactFirstAnswer", spec := "fnExactFirstAnswer", inPlace := ["internal/bytealg.IndexByteString", "internal/bytealg.IndexString"], unfollowed := true, recurses := true, named := ["unicode/utf8.first", "unicode/utf8.acceptRanges", "internal/bytealg.MaxLen"], apart := false, laid := [("unicode/utf8.acceptRanges", laid_unicode_utf8_acceptRanges), ("unicode/utf8.first", laid_unicode_utf8_first)], narrowed := true }
def FnExactFirstAnswerUptoSaid : Prop := fnExactFirstAnswerUptoRow.holds Tryd.pinned (OpenSpec.upto fnExactFirstAnswerSpec)

end Rows
end Go.Proofs.YtjekkcjlfgfnkaaDoor
