/-
  DERIVED. GIVEN WITH THE SEED: THE CARDS: each row of YtkclmknepbbhnaaDoorRows.lean that lists a variable, with what it lists TIED to the program's text (the seventh form; the later family's looks); each row that meets fmt, with fmt's text TOLD by the authors' own Lean function (tested against real Go, not proved from fmt's source: count such statements apart). THE CARD IS WHAT COUNTS. Prove the row's statement (the work); the ties are given (YtkclmknepbbhnaaDoorTie.lean); close each card by the builder's one call (the guide's Derived/Test/ToyasCard.lean, 'card_holds'). Laid BY PROGRAM, IN A SANDBOX (cutbox-door.mjs). By AI agents, Wed Nov 11 2026. No macro, syntax, notation, axiom, sorry.
-/
import Derived.Test.YtkclmknepbbhnaaDoorRows
import GoSem.ClaimSeven
namespace Go.Proofs.YtkclmknepbbhnaaDoor
namespace Rows

/-- THE TIED CARD OF 'clevislaw15.ChainImports'. -/
def chainImportsCard : Claim7 := { stood := { row := chainImportsRow, standIns := [], harness := (true, "368a16c20cf9980689412eb77119bbccf54c874d0e9862de3881ae6899f10f85"), looks := true }, kinds := [], alts := [], laidByText := true, laidKinds := [.handle], laidTests := true, laidLooks := .later }
def ChainImportsCardSaid : Prop := Claim7.holds Tryd.pinned (.plain (OpenSpec.ofChange chainImportsSpec)) chainImportsCard

/-- THE TIED CARD OF 'clevislaw15.ChainMany'. -/
def chainManyCard : Claim7 := { stood := { row := chainManyRow, standIns := [], harness := (true, "368a16c20cf9980689412eb77119bbccf54c874d0e9862de3881ae6899f10f85"), looks := true }, kinds := [], alts := [], laidByText := true, laidKinds := [.handle], laidTests := true, laidLooks := .later }
def ChainManyCardSaid : Prop := Claim7.holds Tryd.pinned (.plain (OpenSpec.ofChange chainManySpec)) chainManyCard

/-- THE SECOND FORM's CARD OF 'clevislaw15.ChainImports'. -/
def chainImportsUptoCard : Claim7 := { stood := { row := chainImportsUptoRow, standIns := [], harness := (true, "368a16c20cf9980689412eb77119bbccf54c874d0e9862de3881ae6899f10f85"), looks := true }, kinds := [], alts := [], laidByText := true, laidKinds := [.handle], laidTests := true, laidLooks := .later }
def ChainImportsUptoCardSaid : Prop := Claim7.holds Tryd.pinned (.plain (OpenSpec.upto chainImportsSpec)) chainImportsUptoCard

/-- THE SECOND FORM's CARD OF 'clevislaw15.ChainMany'. -/
def chainManyUptoCard : Claim7 := { stood := { row := chainManyUptoRow, standIns := [], harness := (true, "368a16c20cf9980689412eb77119bbccf54c874d0e9862de3881ae6899f10f85"), looks := true }, kinds := [], alts := [], laidByText := true, laidKinds := [.handle], laidTests := true, laidLooks := .later }
def ChainManyUptoCardSaid : Prop := Claim7.holds Tryd.pinned (.plain (OpenSpec.upto chainManySpec)) chainManyUptoCard
end Rows
end Go.Proofs.YtkclmknepbbhnaaDoor
