/-
  DERIVED. GIVEN WITH THE SEED: THE CARDS: each row of YtgmfaleamhpfjaaDoorRows.lean that lists a variable, with what it lists TIED to the program's text (the seventh form; the later family's looks); each row that meets fmt, with fmt's text TOLD by the authors' own Lean function (tested against real Go, not proved from fmt's source: count such statements apart). THE CARD IS WHAT COUNTS. Prove the row's statement (the work); the ties are given (YtgmfaleamhpfjaaDoorTie.lean); close each card by the builder's one call (the guide's Derived/Test/ToyasCard.lean, 'card_holds'). Laid BY PROGRAM, IN A SANDBOX (cutbox-door.mjs). By AI agents, Wed Nov 11 2026. No macro, syntax, notation, axiom, sorry.
-/
import Derived.Test.YtgmfaleamhpfjaaDoorRows
import GoSem.ClaimSeven
namespace Go.Proofs.YtgmfaleamhpfjaaDoor
namespace Rows

/-- THE TIED CARD OF 'laws.FnPuzzlesSieved'. -/
def fnPuzzlesSievedCard : Claim7 := { stood := { row := fnPuzzlesSievedRow, standIns := [], harness := (true, "acd76d70ec3f42209f6fe8601103953c8e9ba5e91a3ad2bd899c3741c1a6e64f"), looks := false }, kinds := [], alts := [], laidByText := true, laidKinds := [.data, .pinned], laidTests := true, laidLooks := .later }
def FnPuzzlesSievedCardSaid : Prop := Claim7.holds Tryd.pinned (.plain (OpenSpec.ofChange fnPuzzlesSievedSpec)) fnPuzzlesSievedCard

/-- THE SECOND FORM's CARD OF 'laws.FnPuzzlesSieved'. -/
def fnPuzzlesSievedUptoCard : Claim7 := { stood := { row := fnPuzzlesSievedUptoRow, standIns := [], harness := (true, "acd76d70ec3f42209f6fe8601103953c8e9ba5e91a3ad2bd899c3741c1a6e64f"), looks := false }, kinds := [], alts := [], laidByText := true, laidKinds := [.data, .pinned], laidTests := true, laidLooks := .later }
def FnPuzzlesSievedUptoCardSaid : Prop := Claim7.holds Tryd.pinned (.plain (OpenSpec.upto fnPuzzlesSievedSpec)) fnPuzzlesSievedUptoCard
end Rows
end Go.Proofs.YtgmfaleamhpfjaaDoor
