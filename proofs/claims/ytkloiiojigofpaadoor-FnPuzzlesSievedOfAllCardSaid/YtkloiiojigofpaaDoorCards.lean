/-
  DERIVED. GIVEN WITH THE SEED: THE CARDS: each row of YtkloiiojigofpaaDoorRows.lean that lists a variable, with what it lists TIED to the program's text (the seventh form; the later family's looks); each row that meets fmt, with fmt's text TOLD by the authors' own Lean function (tested against real Go, not proved from fmt's source: count such statements apart). THE CARD IS WHAT COUNTS. Prove the row's statement (the work); the ties are given (YtkloiiojigofpaaDoorTie.lean); close each card by the builder's one call (the guide's Derived/Test/ToyasCard.lean, 'card_holds'). Laid BY PROGRAM, IN A SANDBOX (cutbox-door.mjs). By AI agents, Wed Nov 11 2026. No macro, syntax, notation, axiom, sorry.
-/
import Derived.Test.YtkloiiojigofpaaDoorRows
import GoSem.ClaimSeven
namespace Go.Proofs.YtkloiiojigofpaaDoor
namespace Rows

/-- THE TIED CARD OF 'laws.FnExactAnswers'. -/
def fnExactAnswersCard : Claim7 := { stood := { row := fnExactAnswersRow, standIns := [], harness := (true, "13ba4392150f4c6f3271e92703d0628c83251d3c2c615a6604434b02ee1939aa"), looks := true }, kinds := [], alts := [], laidByText := true, laidKinds := [.data, .pinned], laidTests := true, laidLooks := .later }
def FnExactAnswersCardSaid : Prop := Claim7.holds Tryd.pinned (.plain (OpenSpec.ofChange fnExactAnswersSpec)) fnExactAnswersCard

/-- THE TIED CARD OF 'laws.FnExactSureRules'. -/
def fnExactSureRulesCard : Claim7 := { stood := { row := fnExactSureRulesRow, standIns := [], harness := (true, "13ba4392150f4c6f3271e92703d0628c83251d3c2c615a6604434b02ee1939aa"), looks := true }, kinds := [], alts := [], laidByText := true, laidKinds := [.data, .pinned], laidTests := true, laidLooks := .later }
def FnExactSureRulesCardSaid : Prop := Claim7.holds Tryd.pinned (.plain (OpenSpec.ofChange fnExactSureRulesSpec)) fnExactSureRulesCard

/-- THE TIED CARD OF 'laws.FnExactParsePuzzle'. -/
def fnExactParsePuzzleCard : Claim7 := { stood := { row := fnExactParsePuzzleRow, standIns := [], harness := (true, "13ba4392150f4c6f3271e92703d0628c83251d3c2c615a6604434b02ee1939aa"), looks := true }, kinds := [], alts := [], laidByText := true, laidKinds := [.data, .data, .data, .data, .sentinel, .sentinel, .pinned], laidTests := true, laidLooks := .later }
def FnExactParsePuzzleCardSaid : Prop := Claim7.holds Tryd.pinned (.plain (OpenSpec.ofChange fnExactParsePuzzleSpec)) fnExactParsePuzzleCard

/-- THE TIED CARD OF 'laws.FnPuzzlesSievedOfAll'. -/
def fnPuzzlesSievedOfAllCard : Claim7 := { stood := { row := fnPuzzlesSievedOfAllRow, standIns := [], harness := (true, "13ba4392150f4c6f3271e92703d0628c83251d3c2c615a6604434b02ee1939aa"), looks := true }, kinds := [], alts := [], laidByText := true, laidKinds := [.data, .pinned], laidTests := true, laidLooks := .later }
def FnPuzzlesSievedOfAllCardSaid : Prop := Claim7.holds Tryd.pinned (.plain (OpenSpec.ofChange fnPuzzlesSievedOfAllSpec)) fnPuzzlesSievedOfAllCard

/-- THE SECOND FORM's CARD OF 'laws.FnExactAnswers'. -/
def fnExactAnswersUptoCard : Claim7 := { stood := { row := fnExactAnswersUptoRow, standIns := [], harness := (true, "13ba4392150f4c6f3271e92703d0628c83251d3c2c615a6604434b02ee1939aa"), looks := true }, kinds := [], alts := [], laidByText := true, laidKinds := [.data, .pinned], laidTests := true, laidLooks := .later }
def FnExactAnswersUptoCardSaid : Prop := Claim7.holds Tryd.pinned (.plain (OpenSpec.upto fnExactAnswersSpec)) fnExactAnswersUptoCard

/-- THE SECOND FORM's CARD OF 'laws.FnExactSureRules'. -/
def fnExactSureRulesUptoCard : Claim7 := { stood := { row := fnExactSureRulesUptoRow, standIns := [], harness := (true, "13ba4392150f4c6f3271e92703d0628c83251d3c2c615a6604434b02ee1939aa"), looks := true }, kinds := [], alts := [], laidByText := true, laidKinds := [.data, .pinned], laidTests := true, laidLooks := .later }
def FnExactSureRulesUptoCardSaid : Prop := Claim7.holds Tryd.pinned (.plain (OpenSpec.upto fnExactSureRulesSpec)) fnExactSureRulesUptoCard

/-- THE SECOND FORM's CARD OF 'laws.FnExactParsePuzzle'. -/
def fnExactParsePuzzleUptoCard : Claim7 := { stood := { row := fnExactParsePuzzleUptoRow, standIns := [], harness := (true, "13ba4392150f4c6f3271e92703d0628c83251d3c2c615a6604434b02ee1939aa"), looks := true }, kinds := [], alts := [], laidByText := true, laidKinds := [.data, .data, .data, .data, .sentinel, .sentinel, .pinned], laidTests := true, laidLooks := .later }
def FnExactParsePuzzleUptoCardSaid : Prop := Claim7.holds Tryd.pinned (.plain (OpenSpec.upto fnExactParsePuzzleSpec)) fnExactParsePuzzleUptoCard

/-- THE SECOND FORM's CARD OF 'laws.FnPuzzlesSievedOfAll'. -/
def fnPuzzlesSievedOfAllUptoCard : Claim7 := { stood := { row := fnPuzzlesSievedOfAllUptoRow, standIns := [], harness := (true, "13ba4392150f4c6f3271e92703d0628c83251d3c2c615a6604434b02ee1939aa"), looks := true }, kinds := [], alts := [], laidByText := true, laidKinds := [.data, .pinned], laidTests := true, laidLooks := .later }
def FnPuzzlesSievedOfAllUptoCardSaid : Prop := Claim7.holds Tryd.pinned (.plain (OpenSpec.upto fnPuzzlesSievedOfAllSpec)) fnPuzzlesSievedOfAllUptoCard
end Rows
end Go.Proofs.YtkloiiojigofpaaDoor
