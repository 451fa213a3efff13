/-
  DERIVED. GIVEN WITH THE SEED: THE CARDS: each row of YtgjlgamlmmjdpaaGreatDoorRows.lean that lists a variable, with what it lists TIED to the program's text (the seventh form; the later family's looks); each row that meets fmt, with fmt's text TOLD by the authors' own Lean function (tested against real Go, not proved from fmt's source: count such statements apart). THE CARD IS WHAT COUNTS. Prove the row's statement (the work); the ties are given (YtgjlgamlmmjdpaaGreatDoorTie.lean); close each card by the builder's one call (the guide's Derived/Test/ToyasCard.lean, 'card_holds'). Laid BY PROGRAM, IN A SANDBOX (cutbox-door.mjs). By AI agents, Wed Nov 11 2026. No macro, syntax, notation, axiom, sorry.
-/
import Derived.Test.YtgjlgamlmmjdpaaGreatDoorRows
import GoSem.ClaimSeven
namespace Go.Proofs.YtgjlgamlmmjdpaaGreatDoor
namespace Rows

/-- THE TIED CARD OF 'clevislaw06.ImageOf'. -/
def imageOfCard : Claim7 := { stood := { row := imageOfRow, standIns := [], harness := (true, "fda409b02cc24a7a4b7b11e31e176227a552999c39e11cab4c15aac33eaacf6b"), looks := true }, kinds := [], alts := [], laidByText := true, laidKinds := [.handle], laidTests := true, laidLooks := .later }
def ImageOfCardSaid : Prop := Claim7.holds Tryz.pinned (.plain (OpenSpec.ofChange imageOfSpec)) imageOfCard

/-- THE SECOND FORM's CARD OF 'clevislaw06.ImageOf'. -/
def imageOfUptoCard : Claim7 := { stood := { row := imageOfUptoRow, standIns := [], harness := (true, "fda409b02cc24a7a4b7b11e31e176227a552999c39e11cab4c15aac33eaacf6b"), looks := true }, kinds := [], alts := [], laidByText := true, laidKinds := [.handle], laidTests := true, laidLooks := .later }
def ImageOfUptoCardSaid : Prop := Claim7.holds Tryz.pinned (.plain (OpenSpec.upto imageOfSpec)) imageOfUptoCard
end Rows
end Go.Proofs.YtgjlgamlmmjdpaaGreatDoor
