/-
  DERIVED. GIVEN WITH THE SEED: THE CARDS: each row of YtiljokmkiolpgaaGreatDoorRows.lean that lists a variable, with what it lists TIED to the program's text (the seventh form; the later family's looks); each row that meets fmt, with fmt's text TOLD by the authors' own Lean function (tested against real Go, not proved from fmt's source: count such statements apart). THE CARD IS WHAT COUNTS. Prove the row's statement (the work); the ties are given (YtiljokmkiolpgaaGreatDoorTie.lean); close each card by the builder's one call (the guide's Derived/Test/ToyasCard.lean, 'card_holds'). Laid BY PROGRAM, IN A SANDBOX (cutbox-door.mjs). By AI agents, Wed Nov 11 2026. No macro, syntax, notation, axiom, sorry.
-/
import Derived.Test.YtiljokmkiolpgaaGreatDoorRows
import GoSem.ClaimSeven
namespace Go.Proofs.YtiljokmkiolpgaaGreatDoor
namespace Rows

/-- THE TIED CARD OF 'clevislaw16.WalkReads'. -/
def walkReadsCard : Claim7 := { stood := { row := walkReadsRow, standIns := [], harness := (true, "143cdcfaa0c0f06fb0909e8c3e4154a1f707e2bc1d2c532098b1bc9dcd8ca623"), looks := true }, kinds := [], alts := [], laidByText := true, laidKinds := [.handle], laidTests := true, laidLooks := .later }
def WalkReadsCardSaid : Prop := Claim7.holds Tryz.pinned (.plain (OpenSpec.ofChange walkReadsSpec)) walkReadsCard

/-- THE TIED CARD OF 'clevislaw16.WalkChains'. -/
def walkChainsCard : Claim7 := { stood := { row := walkChainsRow, standIns := [], harness := (true, "143cdcfaa0c0f06fb0909e8c3e4154a1f707e2bc1d2c532098b1bc9dcd8ca623"), looks := true }, kinds := [], alts := [], laidByText := true, laidKinds := [.handle], laidTests := true, laidLooks := .later }
def WalkChainsCardSaid : Prop := Claim7.holds Tryz.pinned (.plain (OpenSpec.ofChange walkChainsSpec)) walkChainsCard

/-- THE SECOND FORM's CARD OF 'clevislaw16.WalkReads'. -/
def walkReadsUptoCard : Claim7 := { stood := { row := walkReadsUptoRow, standIns := [], harness := (true, "143cdcfaa0c0f06fb0909e8c3e4154a1f707e2bc1d2c532098b1bc9dcd8ca623"), looks := true }, kinds := [], alts := [], laidByText := true, laidKinds := [.handle], laidTests := true, laidLooks := .later }
def WalkReadsUptoCardSaid : Prop := Claim7.holds Tryz.pinned (.plain (OpenSpec.upto walkReadsSpec)) walkReadsUptoCard

/-- THE SECOND FORM's CARD OF 'clevislaw16.WalkChains'. -/
def walkChainsUptoCard : Claim7 := { stood := { row := walkChainsUptoRow, standIns := [], harness := (true, "143cdcfaa0c0f06fb0909e8c3e4154a1f707e2bc1d2c532098b1bc9dcd8ca623"), looks := true }, kinds := [], alts := [], laidByText := true, laidKinds := [.handle], laidTests := true, laidLooks := .later }
def WalkChainsUptoCardSaid : Prop := Claim7.holds Tryz.pinned (.plain (OpenSpec.upto walkChainsSpec)) walkChainsUptoCard
end Rows
end Go.Proofs.YtiljokmkiolpgaaGreatDoor
