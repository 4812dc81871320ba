/-
  DERIVED. GIVEN WITH THE SEED: THE CARDS: each row of YtjekkcjlfgfnkaaDoorRows.lean that lists a variable, with what it lists TIED to the program's text (the seventh form; the later family's looks); each row that meets fmt, with fmt's text TOLD by the authors' own Lean function (tested against real Go, not proved from fmt's source: count such statements apart). THE CARD IS WHAT COUNTS. Prove the row's statement (the work); the ties are given (YtjekkcjlfgfnkaaDoorTie.lean); close each card by the builder's one call (the guide's Derived/Test/ToyasCard.lean, 'card_holds'). Laid BY PROGRAM, IN A SANDBOX (cutbox-door.mjs). By AI agents, Wed Nov 11 2026. No macro, syntax, notation, axiom, sorry.
-/
import Derived.Test.YtjekkcjlfgfnkaaDoorRows
import GoSem.ClaimSeven
namespace Go.Proofs.YtjekkcjlfgfnkaaDoor
namespace Rows

/-- THE TIED CARD OF 'laws.FnExactIsPuzzle'. -/
def fnExactIsPuzzleCard : Claim7 := { stood := { row := fnExactIsPuzzleRow, standIns := [], harness := (true, "87fc5de9fc60a20f2fe0934d2a025d3e02aa12285f45e9d4239d54e39b42bf74"), looks := false }, kinds := [], alts := [], laidByText := true, laidKinds := [.data, .pinned], laidTests := true, laidLooks := .later }
def FnExactIsPuzzleCardSaid : Prop := Claim7.holds Tryd.pinned (.plain (OpenSpec.ofChange fnExactIsPuzzleSpec)) fnExactIsPuzzleCard

/-- THE TIED CARD OF 'laws.FnExactHideNumber'. -/
def fnExactHideNumberCard : Claim7 := { stood := { row := fnExactHideNumberRow, standIns := [], harness := (true, "87fc5de9fc60a20f2fe0934d2a025d3e02aa12285f45e9d4239d54e39b42bf74"), looks := false }, kinds := [], alts := [], laidByText := true, laidKinds := [.data, .pinned], laidTests := true, laidLooks := .later }
def FnExactHideNumberCardSaid : Prop := Claim7.holds Tryd.pinned (.plain (OpenSpec.ofChange fnExactHideNumberSpec)) fnExactHideNumberCard

/-- THE TIED CARD OF 'laws.FnExactShowNumber'. -/
def fnExactShowNumberCard : Claim7 := { stood := { row := fnExactShowNumberRow, standIns := [], harness := (true, "87fc5de9fc60a20f2fe0934d2a025d3e02aa12285f45e9d4239d54e39b42bf74"), looks := false }, kinds := [], alts := [], laidByText := true, laidKinds := [.data, .pinned], laidTests := true, laidLooks := .later }
def FnExactShowNumberCardSaid : Prop := Claim7.holds Tryd.pinned (.plain (OpenSpec.ofChange fnExactShowNumberSpec)) fnExactShowNumberCard

/-- THE TIED CARD OF 'laws.FnExactRulesThatFit'. -/
def fnExactRulesThatFitCard : Claim7 := { stood := { row := fnExactRulesThatFitRow, standIns := [], harness := (true, "87fc5de9fc60a20f2fe0934d2a025d3e02aa12285f45e9d4239d54e39b42bf74"), looks := false }, kinds := [], alts := [], laidByText := true, laidKinds := [.data, .pinned], laidTests := true, laidLooks := .later }
def FnExactRulesThatFitCardSaid : Prop := Claim7.holds Tryd.pinned (.plain (OpenSpec.ofChange fnExactRulesThatFitSpec)) fnExactRulesThatFitCard

/-- THE TIED CARD OF 'laws.FnExactHintOf'. -/
def fnExactHintOfCard : Claim7 := { stood := { row := fnExactHintOfRow, standIns := [], harness := (true, "87fc5de9fc60a20f2fe0934d2a025d3e02aa12285f45e9d4239d54e39b42bf74"), looks := false }, kinds := [], alts := [], laidByText := true, laidKinds := [.data, .pinned], laidTests := true, laidLooks := .later }
def FnExactHintOfCardSaid : Prop := Claim7.holds Tryd.pinned (.plain (OpenSpec.ofChange fnExactHintOfSpec)) fnExactHintOfCard

/-- THE TIED CARD OF 'laws.FnExactFewestRules'. -/
def fnExactFewestRulesCard : Claim7 := { stood := { row := fnExactFewestRulesRow, standIns := [], harness := (true, "87fc5de9fc60a20f2fe0934d2a025d3e02aa12285f45e9d4239d54e39b42bf74"), looks := false }, kinds := [], alts := [], laidByText := true, laidKinds := [.data, .pinned], laidTests := true, laidLooks := .later }
def FnExactFewestRulesCardSaid : Prop := Claim7.holds Tryd.pinned (.plain (OpenSpec.ofChange fnExactFewestRulesSpec)) fnExactFewestRulesCard

/-- THE TIED CARD OF 'laws.FnExactCountAnswers'. -/
def fnExactCountAnswersCard : Claim7 := { stood := { row := fnExactCountAnswersRow, standIns := [], harness := (true, "87fc5de9fc60a20f2fe0934d2a025d3e02aa12285f45e9d4239d54e39b42bf74"), looks := false }, kinds := [], alts := [], laidByText := true, laidKinds := [.data, .pinned], laidTests := true, laidLooks := .later }
def FnExactCountAnswersCardSaid : Prop := Claim7.holds Tryd.pinned (.plain (OpenSpec.ofChange fnExactCountAnswersSpec)) fnExactCountAnswersCard

/-- THE TIED CARD OF 'laws.FnExactIsAnswer'. -/
def fnExactIsAnswerCard : Claim7 := { stood := { row := fnExactIsAnswerRow, standIns := [], harness := (true, "87fc5de9fc60a20f2fe0934d2a025d3e02aa12285f45e9d4239d54e39b42bf74"), looks := false }, kinds := [], alts := [], laidByText := true, laidKinds := [.data, .pinned], laidTests := true, laidLooks := .later }
def FnExactIsAnswerCardSaid : Prop := Claim7.holds Tryd.pinned (.plain (OpenSpec.ofChange fnExactIsAnswerSpec)) fnExactIsAnswerCard

/-- THE TIED CARD OF 'laws.FnExactHarderPuzzle'. -/
def fnExactHarderPuzzleCard : Claim7 := { stood := { row := fnExactHarderPuzzleRow, standIns := [], harness := (true, "87fc5de9fc60a20f2fe0934d2a025d3e02aa12285f45e9d4239d54e39b42bf74"), looks := false }, kinds := [], alts := [], laidByText := true, laidKinds := [.data, .pinned], laidTests := true, laidLooks := .later }
def FnExactHarderPuzzleCardSaid : Prop := Claim7.holds Tryd.pinned (.plain (OpenSpec.ofChange fnExactHarderPuzzleSpec)) fnExactHarderPuzzleCard

/-- THE TIED CARD OF 'laws.FnExactFirstAnswer'. -/
def fnExactFirstAnswerCard : Claim7 := { stood := { row := fnExactFirstAnswerRow, standIns := [], harness := (true, "87fc5de9fc60a20f2fe0934d2a025d3e02aa12285f45e9d4239d54e39b42bf74"), looks := false }, kinds := [], alts := [], laidByText := true, laidKinds := [.data, .pinned], laidTests := true, laidLooks := .later }
def FnExactFirstAnswerCardSaid : Prop := Claim7.holds Tryd.pinned (.plain (OpenSpec.ofChange fnExactFirstAnswerSpec)) fnExactFirstAnswerCard

/-- THE SECOND FORM's CARD OF 'laws.FnExactIsPuzzle'. -/
def fnExactIsPuzzleUptoCard : Claim7 := { stood := { row := fnExactIsPuzzleUptoRow, standIns := [], harness := (true, "87fc5de9fc60a20f2fe0934d2a025d3e02aa12285f45e9d4239d54e39b42bf74"), looks := false }, kinds := [], alts := [], laidByText := true, laidKinds := [.data, .pinned], laidTests := true, laidLooks := .later }
def FnExactIsPuzzleUptoCardSaid : Prop := Claim7.holds Tryd.pinned (.plain (OpenSpec.upto fnExactIsPuzzleSpec)) fnExactIsPuzzleUptoCard

/-- THE SECOND FORM's CARD OF 'laws.FnExactHideNumber'. -/
def fnExactHideNumberUptoCard : Claim7 := { stood := { row := fnExactHideNumberUptoRow, standIns := [], harness := (true, "87fc5de9fc60a20f2fe0934d2a025d3e02aa12285f45e9d4239d54e39b42bf74"), looks := false }, kinds := [], alts := [], laidByText := true, laidKinds := [.data, .pinned], laidTests := true, laidLooks := .later }
def FnExactHideNumberUptoCardSaid : Prop := Claim7.holds Tryd.pinned (.plain (OpenSpec.upto fnExactHideNumberSpec)) fnExactHideNumberUptoCard

/-- THE SECOND FORM's CARD OF 'laws.FnExactShowNumber'. -/
def fnExactShowNumberUptoCard : Claim7 := { stood := { row := fnExactShowNumberUptoRow, standIns := [], harness := (true, "87fc5de9fc60a20f2fe0934d2a025d3e02aa12285f45e9d4239d54e39b42bf74"), looks := false }, kinds := [], alts := [], laidByText := true, laidKinds := [.data, .pinned], laidTests := true, laidLooks := .later }
def FnExactShowNumberUptoCardSaid : Prop := Claim7.holds Tryd.pinned (.plain (OpenSpec.upto fnExactShowNumberSpec)) fnExactShowNumberUptoCard

/-- THE SECOND FORM's CARD OF 'laws.FnExactRulesThatFit'. -/
def fnExactRulesThatFitUptoCard : Claim7 := { stood := { row := fnExactRulesThatFitUptoRow, standIns := [], harness := (true, "87fc5de9fc60a20f2fe0934d2a025d3e02aa12285f45e9d4239d54e39b42bf74"), looks := false }, kinds := [], alts := [], laidByText := true, laidKinds := [.data, .pinned], laidTests := true, laidLooks := .later }
def FnExactRulesThatFitUptoCardSaid : Prop := Claim7.holds Tryd.pinned (.plain (OpenSpec.upto fnExactRulesThatFitSpec)) fnExactRulesThatFitUptoCard

/-- THE SECOND FORM's CARD OF 'laws.FnExactHintOf'. -/
def fnExactHintOfUptoCard : Claim7 := { stood := { row := fnExactHintOfUptoRow, standIns := [], harness := (true, "87fc5de9fc60a20f2fe0934d2a025d3e02aa12285f45e9d4239d54e39b42bf74"), looks := false }, kinds := [], alts := [], laidByText := true, laidKinds := [.data, .pinned], laidTests := true, laidLooks := .later }
def FnExactHintOfUptoCardSaid : Prop := Claim7.holds Tryd.pinned (.plain (OpenSpec.upto fnExactHintOfSpec)) fnExactHintOfUptoCard

/-- THE SECOND FORM's CARD OF 'laws.FnExactFewestRules'. -/
def fnExactFewestRulesUptoCard : Claim7 := { stood := { row := fnExactFewestRulesUptoRow, standIns := [], harness := (true, "87fc5de9fc60a20f2fe0934d2a025d3e02aa12285f45e9d4239d54e39b42bf74"), looks := false }, kinds := [], alts := [], laidByText := true, laidKinds := [.data, .pinned], laidTests := true, laidLooks := .later }
def FnExactFewestRulesUptoCardSaid : Prop := Claim7.holds Tryd.pinned (.plain (OpenSpec.upto fnExactFewestRulesSpec)) fnExactFewestRulesUptoCard

/-- THE SECOND FORM's CARD OF 'laws.FnExactCountAnswers'. -/
def fnExactCountAnswersUptoCard : Claim7 := { stood := { row := fnExactCountAnswersUptoRow, standIns := [], harness := (true, "87fc5de9fc60a20f2fe0934d2a025d3e02aa12285f45e9d4239d54e39b42bf74"), looks := false }, kinds := [], alts := [], laidByText := true, laidKinds := [.data, .pinned], laidTests := true, laidLooks := .later }
def FnExactCountAnswersUptoCardSaid : Prop := Claim7.holds Tryd.pinned (.plain (OpenSpec.upto fnExactCountAnswersSpec)) fnExactCountAnswersUptoCard

/-- THE SECOND FORM's CARD OF 'laws.FnExactIsAnswer'. -/
def fnExactIsAnswerUptoCard : Claim7 := { stood := { row := fnExactIsAnswerUptoRow, standIns := [], harness := (true, "87fc5de9fc60a20f2fe0934d2a025d3e02aa12285f45e9d4239d54e39b42bf74"), looks := false }, kinds := [], alts := [], laidByText := true, laidKinds := [.data, .pinned], laidTests := true, laidLooks := .later }
def FnExactIsAnswerUptoCardSaid : Prop := Claim7.holds Tryd.pinned (.plain (OpenSpec.upto fnExactIsAnswerSpec)) fnExactIsAnswerUptoCard

/-- THE SECOND FORM's CARD OF 'laws.FnExactHarderPuzzle'. -/
def fnExactHarderPuzzleUptoCard : Claim7 := { stood := { row := fnExactHarderPuzzleUptoRow, standIns := [], harness := (true, "87fc5de9fc60a20f2fe0934d2a025d3e02aa12285f45e9d4239d54e39b42bf74"), looks := false }, kinds := [], alts := [], laidByText := true, laidKinds := [.data, .pinned], laidTests := true, laidLooks := .later }
def FnExactHarderPuzzleUptoCardSaid : Prop := Claim7.holds Tryd.pinned (.plain (OpenSpec.upto fnExactHarderPuzzleSpec)) fnExactHarderPuzzleUptoCard

/-- THE SECOND FORM's CARD OF 'laws.FnExactFirstAnswer'. -/
def fnExactFirstAnswerUptoCard : Claim7 := { stood := { row := fnExactFirstAnswerUptoRow, standIns := [], harness := (true, "87fc5de9fc60a20f2fe0934d2a025d3e02aa12285f45e9d4239d54e39b42bf74"), looks := false }, kinds := [], alts := [], laidByText := true, laidKinds := [.data, .pinned], laidTests := true, laidLooks := .later }
def FnExactFirstAnswerUptoCardSaid : Prop := Claim7.holds Tryd.pinned (.plain (OpenSpec.upto fnExactFirstAnswerSpec)) fnExactFirstAnswerUptoCard
end Rows
end Go.Proofs.YtjekkcjlfgfnkaaDoor
