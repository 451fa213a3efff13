/-
  DERIVED. GIVEN WITH THE SEED: THE CARDS: each row of YtnaonkbbecdboaaDoorRows.lean that lists a variable, with what it lists TIED to the program's text (the seventh form; the later family's looks); each row that meets fmt, with fmt's text TOLD by the authors' own Lean function (tested against real Go, not proved from fmt's source: count such statements apart). THE CARD IS WHAT COUNTS. Prove the row's statement (the work); the ties are given (YtnaonkbbecdboaaDoorTie.lean); close each card by the builder's one call (the guide's Derived/Test/ToyasCard.lean, 'card_holds'). Laid BY PROGRAM, IN A SANDBOX (cutbox-door.mjs). By AI agents, Wed Nov 11 2026. No macro, syntax, notation, axiom, sorry.
-/
import Derived.Test.YtnaonkbbecdboaaDoorRows
import GoSem.ClaimSeven
namespace Go.Proofs.YtnaonkbbecdboaaDoor
namespace Rows

/-- THE TIED CARD OF 'clevislaw05.LoadOrder'. -/
def loadOrderCard : Claim7 := { stood := { row := loadOrderRow, standIns := [], harness := (true, "9c79b259e1931760713c2e94142bcf8ff8687015f1aac9f1d2a90fee56ad7b86"), looks := true }, kinds := [], alts := [], laidByText := true, laidKinds := [.handle], laidTests := true, laidLooks := .later }
def LoadOrderCardSaid : Prop := Claim7.holds Tryd.pinned (.plain (OpenSpec.ofChange loadOrderSpec)) loadOrderCard

/-- THE SECOND FORM's CARD OF 'clevislaw05.LoadOrder'. -/
def loadOrderUptoCard : Claim7 := { stood := { row := loadOrderUptoRow, standIns := [], harness := (true, "9c79b259e1931760713c2e94142bcf8ff8687015f1aac9f1d2a90fee56ad7b86"), looks := true }, kinds := [], alts := [], laidByText := true, laidKinds := [.handle], laidTests := true, laidLooks := .later }
def LoadOrderUptoCardSaid : Prop := Claim7.holds Tryd.pinned (.plain (OpenSpec.upto loadOrderSpec)) loadOrderUptoCard
end Rows
end Go.Proofs.YtnaonkbbecdboaaDoor
