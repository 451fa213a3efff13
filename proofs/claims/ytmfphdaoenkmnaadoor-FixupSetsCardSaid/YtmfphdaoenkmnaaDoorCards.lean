/-
  DERIVED. GIVEN WITH THE SEED: THE CARDS: each row of YtmfphdaoenkmnaaDoorRows.lean that lists a variable, with what it lists TIED to the program's text (the seventh form; the later family's looks); each row that meets fmt, with fmt's text TOLD by the authors' own Lean function (tested against real Go, not proved from fmt's source: count such statements apart). THE CARD IS WHAT COUNTS. Prove the row's statement (the work); the ties are given (YtmfphdaoenkmnaaDoorTie.lean); close each card by the builder's one call (the guide's Derived/Test/ToyasCard.lean, 'card_holds'). Laid BY PROGRAM, IN A SANDBOX (cutbox-door.mjs). By AI agents, Wed Nov 11 2026. No macro, syntax, notation, axiom, sorry.
-/
import Derived.Test.YtmfphdaoenkmnaaDoorRows
import GoSem.ClaimSeven
namespace Go.Proofs.YtmfphdaoenkmnaaDoor
namespace Rows

/-- THE TIED CARD OF 'clevislaw12.FixupSets'. -/
def fixupSetsCard : Claim7 := { stood := { row := fixupSetsRow, standIns := [], harness := (true, "721d229429b444483f8f819e6f9ccc743d5a201748345276b73e74861c374a9b"), looks := false }, kinds := [], alts := [], laidByText := true, laidKinds := [.data, .data, .data], laidTests := true, laidLooks := .later }
def FixupSetsCardSaid : Prop := Claim7.holds Tryd.pinned (.plain (OpenSpec.ofChange fixupSetsSpec)) fixupSetsCard

/-- THE SECOND FORM's CARD OF 'clevislaw12.FixupSets'. -/
def fixupSetsUptoCard : Claim7 := { stood := { row := fixupSetsUptoRow, standIns := [], harness := (true, "721d229429b444483f8f819e6f9ccc743d5a201748345276b73e74861c374a9b"), looks := false }, kinds := [], alts := [], laidByText := true, laidKinds := [.data, .data, .data], laidTests := true, laidLooks := .later }
def FixupSetsUptoCardSaid : Prop := Claim7.holds Tryd.pinned (.plain (OpenSpec.upto fixupSetsSpec)) fixupSetsUptoCard
end Rows
end Go.Proofs.YtmfphdaoenkmnaaDoor
