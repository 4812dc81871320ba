/-
  DERIVED. GIVEN WITH THE SEED: THE CARDS: each row of YtbnmajedmajfoaaGreatDoorRows.lean that lists a variable, with what it lists TIED to the program's text (the seventh form; the later family's looks); each row that meets fmt, with fmt's text TOLD by the authors' own Lean function (tested against real Go, not proved from fmt's source: count such statements apart). THE CARD IS WHAT COUNTS. Prove the row's statement (the work); the ties are given (YtbnmajedmajfoaaGreatDoorTie.lean); close each card by the builder's one call (the guide's Derived/Test/ToyasCard.lean, 'card_holds'). Laid BY PROGRAM, IN A SANDBOX (cutbox-door.mjs). By AI agents, Wed Nov 11 2026. No macro, syntax, notation, axiom, sorry.
-/
import Derived.Test.YtbnmajedmajfoaaGreatDoorRows
import GoSem.ClaimSeven
namespace Go.Proofs.YtbnmajedmajfoaaGreatDoor
namespace Rows

/-- THE TIED CARD OF 'laws.FnPatternsAnsweredOfAll'. -/
def fnPatternsAnsweredOfAllCard : Claim7 := { stood := { row := fnPatternsAnsweredOfAllRow, standIns := [], harness := (true, "103fed968c933e827359148e7862876332527c1b75a42e76d3a02f3b65dc8837"), looks := true }, kinds := [], alts := [], laidByText := true, laidKinds := [.data, .data, .data, .data, .sentinel, .sentinel, .pinned], laidTests := true, laidLooks := .later }
def FnPatternsAnsweredOfAllCardSaid : Prop := Claim7.holds Tryz.pinned (.plain (OpenSpec.ofChange fnPatternsAnsweredOfAllSpec)) fnPatternsAnsweredOfAllCard

/-- THE TIED CARD OF 'laws.FnPatternsAnswered'. -/
def fnPatternsAnsweredCard : Claim7 := { stood := { row := fnPatternsAnsweredRow, standIns := [], harness := (true, "103fed968c933e827359148e7862876332527c1b75a42e76d3a02f3b65dc8837"), looks := true }, kinds := [], alts := [], laidByText := true, laidKinds := [.data, .data, .data, .data, .sentinel, .sentinel, .pinned], laidTests := true, laidLooks := .later }
def FnPatternsAnsweredCardSaid : Prop := Claim7.holds Tryz.pinned (.plain (OpenSpec.ofChange fnPatternsAnsweredSpec)) fnPatternsAnsweredCard

/-- THE SECOND FORM's CARD OF 'laws.FnPatternsAnsweredOfAll'. -/
def fnPatternsAnsweredOfAllUptoCard : Claim7 := { stood := { row := fnPatternsAnsweredOfAllUptoRow, standIns := [], harness := (true, "103fed968c933e827359148e7862876332527c1b75a42e76d3a02f3b65dc8837"), looks := true }, kinds := [], alts := [], laidByText := true, laidKinds := [.data, .data, .data, .data, .sentinel, .sentinel, .pinned], laidTests := true, laidLooks := .later }
def FnPatternsAnsweredOfAllUptoCardSaid : Prop := Claim7.holds Tryz.pinned (.plain (OpenSpec.upto fnPatternsAnsweredOfAllSpec)) fnPatternsAnsweredOfAllUptoCard

/-- THE SECOND FORM's CARD OF 'laws.FnPatternsAnswered'. -/
def fnPatternsAnsweredUptoCard : Claim7 := { stood := { row := fnPatternsAnsweredUptoRow, standIns := [], harness := (true, "103fed968c933e827359148e7862876332527c1b75a42e76d3a02f3b65dc8837"), looks := true }, kinds := [], alts := [], laidByText := true, laidKinds := [.data, .data, .data, .data, .sentinel, .sentinel, .pinned], laidTests := true, laidLooks := .later }
def FnPatternsAnsweredUptoCardSaid : Prop := Claim7.holds Tryz.pinned (.plain (OpenSpec.upto fnPatternsAnsweredSpec)) fnPatternsAnsweredUptoCard
end Rows
end Go.Proofs.YtbnmajedmajfoaaGreatDoor
