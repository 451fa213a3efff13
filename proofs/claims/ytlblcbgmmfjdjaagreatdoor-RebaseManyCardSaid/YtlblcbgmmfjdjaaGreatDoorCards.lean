/-
  DERIVED. GIVEN WITH THE SEED: THE CARDS: each row of YtlblcbgmmfjdjaaGreatDoorRows.lean that lists a variable, with what it lists TIED to the program's text (the seventh form; the later family's looks); each row that meets fmt, with fmt's text TOLD by the authors' own Lean function (tested against real Go, not proved from fmt's source: count such statements apart). THE CARD IS WHAT COUNTS. Prove the row's statement (the work); the ties are given (YtlblcbgmmfjdjaaGreatDoorTie.lean); close each card by the builder's one call (the guide's Derived/Test/ToyasCard.lean, 'card_holds'). Laid BY PROGRAM, IN A SANDBOX (cutbox-door.mjs). By AI agents, Wed Nov 11 2026. No macro, syntax, notation, axiom, sorry.
-/
import Derived.Test.YtlblcbgmmfjdjaaGreatDoorRows
import GoSem.ClaimSeven
namespace Go.Proofs.YtlblcbgmmfjdjaaGreatDoor
namespace Rows

/-- THE TIED CARD OF 'clevislaw13.RebaseMany'. -/
def rebaseManyCard : Claim7 := { stood := { row := rebaseManyRow, standIns := [], harness := (true, "10c16039cf3eaa671111861414dcbb2de6ba88ee793e1c716d101669688bbf9f"), looks := true }, kinds := [], alts := [], laidByText := true, laidKinds := [.handle], laidTests := true, laidLooks := .later }
def RebaseManyCardSaid : Prop := Claim7.holds Tryz.pinned (.plain (OpenSpec.ofChange rebaseManySpec)) rebaseManyCard

/-- THE SECOND FORM's CARD OF 'clevislaw13.RebaseMany'. -/
def rebaseManyUptoCard : Claim7 := { stood := { row := rebaseManyUptoRow, standIns := [], harness := (true, "10c16039cf3eaa671111861414dcbb2de6ba88ee793e1c716d101669688bbf9f"), looks := true }, kinds := [], alts := [], laidByText := true, laidKinds := [.handle], laidTests := true, laidLooks := .later }
def RebaseManyUptoCardSaid : Prop := Claim7.holds Tryz.pinned (.plain (OpenSpec.upto rebaseManySpec)) rebaseManyUptoCard
end Rows
end Go.Proofs.YtlblcbgmmfjdjaaGreatDoor
