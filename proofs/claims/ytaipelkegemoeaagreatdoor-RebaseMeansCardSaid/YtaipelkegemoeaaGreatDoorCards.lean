/-
  DERIVED. GIVEN WITH THE SEED: THE CARDS: each row of YtaipelkegemoeaaGreatDoorRows.lean that lists a variable, with what it lists TIED to the program's text (the seventh form; the later family's looks); each row that meets fmt, with fmt's text TOLD by the authors' own Lean function (tested against real Go, not proved from fmt's source: count such statements apart). THE CARD IS WHAT COUNTS. Prove the row's statement (the work); the ties are given (YtaipelkegemoeaaGreatDoorTie.lean); close each card by the builder's one call (the guide's Derived/Test/ToyasCard.lean, 'card_holds'). Laid BY PROGRAM, IN A SANDBOX (cutbox-door.mjs). By AI agents, Wed Nov 11 2026. No macro, syntax, notation, axiom, sorry.
-/
import Derived.Test.YtaipelkegemoeaaGreatDoorRows
import GoSem.ClaimSeven
namespace Go.Proofs.YtaipelkegemoeaaGreatDoor
namespace Rows

/-- THE TIED CARD OF 'clevislaw13.RebaseMeans'. -/
def rebaseMeansCard : Claim7 := { stood := { row := rebaseMeansRow, standIns := [], harness := (true, "bbd12091ec91c353e354b481daebefc4077dc01787357d7000dc25687359ee6f"), looks := true }, kinds := [], alts := [], laidByText := true, laidKinds := [.handle], laidTests := true, laidLooks := .later }
def RebaseMeansCardSaid : Prop := Claim7.holds Tryz.pinned (.plain (OpenSpec.ofChange rebaseMeansSpec)) rebaseMeansCard

/-- THE SECOND FORM's CARD OF 'clevislaw13.RebaseMeans'. -/
def rebaseMeansUptoCard : Claim7 := { stood := { row := rebaseMeansUptoRow, standIns := [], harness := (true, "bbd12091ec91c353e354b481daebefc4077dc01787357d7000dc25687359ee6f"), looks := true }, kinds := [], alts := [], laidByText := true, laidKinds := [.handle], laidTests := true, laidLooks := .later }
def RebaseMeansUptoCardSaid : Prop := Claim7.holds Tryz.pinned (.plain (OpenSpec.upto rebaseMeansSpec)) rebaseMeansUptoCard
end Rows
end Go.Proofs.YtaipelkegemoeaaGreatDoor
