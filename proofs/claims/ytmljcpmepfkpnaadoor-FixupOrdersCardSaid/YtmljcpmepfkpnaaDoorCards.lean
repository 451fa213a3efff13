/-
  DERIVED. GIVEN WITH THE SEED: THE CARDS: each row of YtmljcpmepfkpnaaDoorRows.lean that lists a variable, with what it lists TIED to the program's text (the seventh form; the later family's looks); each row that meets fmt, with fmt's text TOLD by the authors' own Lean function (tested against real Go, not proved from fmt's source: count such statements apart). THE CARD IS WHAT COUNTS. Prove the row's statement (the work); the ties are given (YtmljcpmepfkpnaaDoorTie.lean); close each card by the builder's one call (the guide's Derived/Test/ToyasCard.lean, 'card_holds'). Laid BY PROGRAM, IN A SANDBOX (cutbox-door.mjs). By AI agents, Wed Nov 11 2026. No macro, syntax, notation, axiom, sorry.
-/
import Derived.Test.YtmljcpmepfkpnaaDoorRows
import GoSem.ClaimSeven
namespace Go.Proofs.YtmljcpmepfkpnaaDoor
namespace Rows

/-- THE TIED CARD OF 'clevislaw12.FixupOrders'. -/
def fixupOrdersCard : Claim7 := { stood := { row := fixupOrdersRow, standIns := [], harness := (true, "2dfa34d7a103cac0d348a79bbe9e03809213644bb935d29c51f972840ead1c05"), looks := false }, kinds := [], alts := [], laidByText := true, laidKinds := [.data, .data, .data], laidTests := true, laidLooks := .later }
def FixupOrdersCardSaid : Prop := Claim7.holds Tryd.pinned (.plain (OpenSpec.ofChange fixupOrdersSpec)) fixupOrdersCard

/-- THE SECOND FORM's CARD OF 'clevislaw12.FixupOrders'. -/
def fixupOrdersUptoCard : Claim7 := { stood := { row := fixupOrdersUptoRow, standIns := [], harness := (true, "2dfa34d7a103cac0d348a79bbe9e03809213644bb935d29c51f972840ead1c05"), looks := false }, kinds := [], alts := [], laidByText := true, laidKinds := [.data, .data, .data], laidTests := true, laidLooks := .later }
def FixupOrdersUptoCardSaid : Prop := Claim7.holds Tryd.pinned (.plain (OpenSpec.upto fixupOrdersSpec)) fixupOrdersUptoCard
end Rows
end Go.Proofs.YtmljcpmepfkpnaaDoor
