/-
  DERIVED. GIVEN WITH THE SEED: THE CARDS: each row of YtkomocgodljecaaGreatDoorRows.lean that lists a variable, with what it lists TIED to the program's text (the seventh form; the later family's looks); each row that meets fmt, with fmt's text TOLD by the authors' own Lean function (tested against real Go, not proved from fmt's source: count such statements apart). THE CARD IS WHAT COUNTS. Prove the row's statement (the work); the ties are given (YtkomocgodljecaaGreatDoorTie.lean); close each card by the builder's one call (the guide's Derived/Test/ToyasCard.lean, 'card_holds'). Laid BY PROGRAM, IN A SANDBOX (cutbox-door.mjs). By AI agents, Wed Nov 11 2026. No macro, syntax, notation, axiom, sorry.
-/
import Derived.Test.YtkomocgodljecaaGreatDoorRows
import GoSem.ClaimSeven
namespace Go.Proofs.YtkomocgodljecaaGreatDoor
namespace Rows

/-- THE TIED CARD OF 'clevislaw14.BindMakes'. -/
def bindMakesCard : Claim7 := { stood := { row := bindMakesRow, standIns := [], harness := (true, "cfc881b20c8f1b9b1b5cd2cd54c400409cfe862aa0536655a549fc1500100111"), looks := true }, kinds := [], alts := [], laidByText := true, laidKinds := [.handle], laidTests := true, laidLooks := .later }
def BindMakesCardSaid : Prop := Claim7.holds Tryz.pinned (.plain (OpenSpec.ofChange bindMakesSpec)) bindMakesCard

/-- THE TIED CARD OF 'clevislaw14.BindMeans'. -/
def bindMeansCard : Claim7 := { stood := { row := bindMeansRow, standIns := [], harness := (true, "cfc881b20c8f1b9b1b5cd2cd54c400409cfe862aa0536655a549fc1500100111"), looks := true }, kinds := [], alts := [], laidByText := true, laidKinds := [.handle], laidTests := true, laidLooks := .later }
def BindMeansCardSaid : Prop := Claim7.holds Tryz.pinned (.plain (OpenSpec.ofChange bindMeansSpec)) bindMeansCard

/-- THE SECOND FORM's CARD OF 'clevislaw14.BindMakes'. -/
def bindMakesUptoCard : Claim7 := { stood := { row := bindMakesUptoRow, standIns := [], harness := (true, "cfc881b20c8f1b9b1b5cd2cd54c400409cfe862aa0536655a549fc1500100111"), looks := true }, kinds := [], alts := [], laidByText := true, laidKinds := [.handle], laidTests := true, laidLooks := .later }
def BindMakesUptoCardSaid : Prop := Claim7.holds Tryz.pinned (.plain (OpenSpec.upto bindMakesSpec)) bindMakesUptoCard

/-- THE SECOND FORM's CARD OF 'clevislaw14.BindMeans'. -/
def bindMeansUptoCard : Claim7 := { stood := { row := bindMeansUptoRow, standIns := [], harness := (true, "cfc881b20c8f1b9b1b5cd2cd54c400409cfe862aa0536655a549fc1500100111"), looks := true }, kinds := [], alts := [], laidByText := true, laidKinds := [.handle], laidTests := true, laidLooks := .later }
def BindMeansUptoCardSaid : Prop := Claim7.holds Tryz.pinned (.plain (OpenSpec.upto bindMeansSpec)) bindMeansUptoCard
end Rows
end Go.Proofs.YtkomocgodljecaaGreatDoor
