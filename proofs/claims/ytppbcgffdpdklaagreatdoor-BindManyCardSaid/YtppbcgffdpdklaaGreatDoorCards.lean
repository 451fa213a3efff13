/-
  DERIVED. GIVEN WITH THE SEED: THE CARDS: each row of YtppbcgffdpdklaaGreatDoorRows.lean that lists a variable, with what it lists TIED to the program's text (the seventh form; the later family's looks); each row that meets fmt, with fmt's text TOLD by the authors' own Lean function (tested against real Go, not proved from fmt's source: count such statements apart). THE CARD IS WHAT COUNTS. Prove the row's statement (the work); the ties are given (YtppbcgffdpdklaaGreatDoorTie.lean); close each card by the builder's one call (the guide's Derived/Test/ToyasCard.lean, 'card_holds'). Laid BY PROGRAM, IN A SANDBOX (cutbox-door.mjs). By AI agents, Wed Nov 11 2026. No macro, syntax, notation, axiom, sorry.
-/
import Derived.Test.YtppbcgffdpdklaaGreatDoorRows
import GoSem.ClaimSeven
namespace Go.Proofs.YtppbcgffdpdklaaGreatDoor
namespace Rows

/-- THE TIED CARD OF 'clevislaw14.BindMany'. -/
def bindManyCard : Claim7 := { stood := { row := bindManyRow, standIns := [], harness := (true, "2604aa9a0236453c450c16e8a14ccc70c489661b574dbef4c1dd06d6df6775a8"), looks := true }, kinds := [], alts := [], laidByText := true, laidKinds := [.handle], laidTests := true, laidLooks := .later }
def BindManyCardSaid : Prop := Claim7.holds Tryz.pinned (.plain (OpenSpec.ofChange bindManySpec)) bindManyCard

/-- THE SECOND FORM's CARD OF 'clevislaw14.BindMany'. -/
def bindManyUptoCard : Claim7 := { stood := { row := bindManyUptoRow, standIns := [], harness := (true, "2604aa9a0236453c450c16e8a14ccc70c489661b574dbef4c1dd06d6df6775a8"), looks := true }, kinds := [], alts := [], laidByText := true, laidKinds := [.handle], laidTests := true, laidLooks := .later }
def BindManyUptoCardSaid : Prop := Claim7.holds Tryz.pinned (.plain (OpenSpec.upto bindManySpec)) bindManyUptoCard
end Rows
end Go.Proofs.YtppbcgffdpdklaaGreatDoor
