/-
  DERIVED. GIVEN WITH THE SEED: THE CARDS: each row of YtgjlgamlmmjdpaaDoorRows.lean that lists a variable, with what it lists TIED to the program's text (the seventh form; the later family's looks); each row that meets fmt, with fmt's text TOLD by the authors' own Lean function (tested against real Go, not proved from fmt's source: count such statements apart). THE CARD IS WHAT COUNTS. Prove the row's statement (the work); the ties are given (YtgjlgamlmmjdpaaDoorTie.lean); close each card by the builder's one call (the guide's Derived/Test/ToyasCard.lean, 'card_holds'). Laid BY PROGRAM, IN A SANDBOX (cutbox-door.mjs). By AI agents, Wed Nov 11 2026. No macro, syntax, notation, axiom, sorry.
-/
import Derived.Test.YtgjlgamlmmjdpaaDoorRows
import GoSem.ClaimSeven
namespace Go.Proofs.YtgjlgamlmmjdpaaDoor
namespace Rows

/-- THE TIED CARD OF 'clevislaw05.LoadAhead'. -/
def loadAheadCard : Claim7 := { stood := { row := loadAheadRow, standIns := [], harness := (true, "fc972a643524683d395e1b6f0b1cc65af34e31c63a5cb008874925d6166ff458"), looks := true }, kinds := [], alts := [], laidByText := true, laidKinds := [.handle], laidTests := true, laidLooks := .later }
def LoadAheadCardSaid : Prop := Claim7.holds Tryd.pinned (.plain (OpenSpec.ofChange loadAheadSpec)) loadAheadCard

/-- THE SECOND FORM's CARD OF 'clevislaw05.LoadAhead'. -/
def loadAheadUptoCard : Claim7 := { stood := { row := loadAheadUptoRow, standIns := [], harness := (true, "fc972a643524683d395e1b6f0b1cc65af34e31c63a5cb008874925d6166ff458"), looks := true }, kinds := [], alts := [], laidByText := true, laidKinds := [.handle], laidTests := true, laidLooks := .later }
def LoadAheadUptoCardSaid : Prop := Claim7.holds Tryd.pinned (.plain (OpenSpec.upto loadAheadSpec)) loadAheadUptoCard
end Rows
end Go.Proofs.YtgjlgamlmmjdpaaDoor
