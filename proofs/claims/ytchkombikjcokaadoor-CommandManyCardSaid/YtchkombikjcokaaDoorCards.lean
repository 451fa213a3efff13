/-
  DERIVED. GIVEN WITH THE SEED: THE CARDS: each row of YtchkombikjcokaaDoorRows.lean that lists a variable, with what it lists TIED to the program's text (the seventh form; the later family's looks); each row that meets fmt, with fmt's text TOLD by the authors' own Lean function (tested against real Go, not proved from fmt's source: count such statements apart). THE CARD IS WHAT COUNTS. Prove the row's statement (the work); the ties are given (YtchkombikjcokaaDoorTie.lean); close each card by the builder's one call (the guide's Derived/Test/ToyasCard.lean, 'card_holds'). Laid BY PROGRAM, IN A SANDBOX (cutbox-door.mjs). By AI agents, Wed Nov 11 2026. No macro, syntax, notation, axiom, sorry.
-/
import Derived.Test.YtchkombikjcokaaDoorRows
import GoSem.ClaimSeven
namespace Go.Proofs.YtchkombikjcokaaDoor
namespace Rows

/-- THE TIED CARD OF 'clevislaw04.CommandLong'. -/
def commandLongCard : Claim7 := { stood := { row := commandLongRow, standIns := [], harness := (true, "4496328c45f3e0fecac840973a41f2fd8351c15757ccaf65824855563341a491"), looks := true }, kinds := [], alts := [], laidByText := true, laidKinds := [.handle], laidTests := true, laidLooks := .later }
def CommandLongCardSaid : Prop := Claim7.holds Tryd.pinned (.plain (OpenSpec.ofChange commandLongSpec)) commandLongCard

/-- THE TIED CARD OF 'clevislaw03.FatReads'. -/
def fatReadsCard : Claim7 := { stood := { row := fatReadsRow, standIns := [], harness := (true, "4496328c45f3e0fecac840973a41f2fd8351c15757ccaf65824855563341a491"), looks := true }, kinds := [], alts := [], laidByText := true, laidKinds := [.handle], laidTests := true, laidLooks := .later }
def FatReadsCardSaid : Prop := Claim7.holds Tryd.pinned (.plain (OpenSpec.ofChange fatReadsSpec)) fatReadsCard

/-- THE TIED CARD OF 'clevislaw03.FatPicks'. -/
def fatPicksCard : Claim7 := { stood := { row := fatPicksRow, standIns := [], harness := (true, "4496328c45f3e0fecac840973a41f2fd8351c15757ccaf65824855563341a491"), looks := true }, kinds := [], alts := [], laidByText := true, laidKinds := [.handle], laidTests := true, laidLooks := .later }
def FatPicksCardSaid : Prop := Claim7.holds Tryd.pinned (.plain (OpenSpec.ofChange fatPicksSpec)) fatPicksCard

/-- THE TIED CARD OF 'clevislaw03.FatShort'. -/
def fatShortCard : Claim7 := { stood := { row := fatShortRow, standIns := [], harness := (true, "4496328c45f3e0fecac840973a41f2fd8351c15757ccaf65824855563341a491"), looks := true }, kinds := [], alts := [], laidByText := true, laidKinds := [.handle], laidTests := true, laidLooks := .later }
def FatShortCardSaid : Prop := Claim7.holds Tryd.pinned (.plain (OpenSpec.ofChange fatShortSpec)) fatShortCard

/-- THE TIED CARD OF 'clevislaw04.CommandShort'. -/
def commandShortCard : Claim7 := { stood := { row := commandShortRow, standIns := [], harness := (true, "4496328c45f3e0fecac840973a41f2fd8351c15757ccaf65824855563341a491"), looks := true }, kinds := [], alts := [], laidByText := true, laidKinds := [.handle], laidTests := true, laidLooks := .later }
def CommandShortCardSaid : Prop := Claim7.holds Tryd.pinned (.plain (OpenSpec.ofChange commandShortSpec)) commandShortCard

/-- THE TIED CARD OF 'clevislaw04.CommandReads'. -/
def commandReadsCard : Claim7 := { stood := { row := commandReadsRow, standIns := [], harness := (true, "4496328c45f3e0fecac840973a41f2fd8351c15757ccaf65824855563341a491"), looks := true }, kinds := [], alts := [], laidByText := true, laidKinds := [.handle], laidTests := true, laidLooks := .later }
def CommandReadsCardSaid : Prop := Claim7.holds Tryd.pinned (.plain (OpenSpec.ofChange commandReadsSpec)) commandReadsCard

/-- THE TIED CARD OF 'clevislaw04.CommandMany'. -/
def commandManyCard : Claim7 := { stood := { row := commandManyRow, standIns := [], harness := (true, "4496328c45f3e0fecac840973a41f2fd8351c15757ccaf65824855563341a491"), looks := true }, kinds := [], alts := [], laidByText := true, laidKinds := [.handle], laidTests := true, laidLooks := .later }
def CommandManyCardSaid : Prop := Claim7.holds Tryd.pinned (.plain (OpenSpec.ofChange commandManySpec)) commandManyCard

/-- THE TIED CARD OF 'clevislaw03.FatMakes'. -/
def fatMakesCard : Claim7 := { stood := { row := fatMakesRow, standIns := [], harness := (true, "4496328c45f3e0fecac840973a41f2fd8351c15757ccaf65824855563341a491"), looks := true }, kinds := [], alts := [], laidByText := true, laidKinds := [.handle], laidTests := true, laidLooks := .later }
def FatMakesCardSaid : Prop := Claim7.holds Tryd.pinned (.plain (OpenSpec.ofChange fatMakesSpec)) fatMakesCard

/-- THE TIED CARD OF 'clevislaw03.FatLimits'. -/
def fatLimitsCard : Claim7 := { stood := { row := fatLimitsRow, standIns := [], harness := (true, "4496328c45f3e0fecac840973a41f2fd8351c15757ccaf65824855563341a491"), looks := true }, kinds := [], alts := [], laidByText := true, laidKinds := [.handle], laidTests := true, laidLooks := .later }
def FatLimitsCardSaid : Prop := Claim7.holds Tryd.pinned (.plain (OpenSpec.ofChange fatLimitsSpec)) fatLimitsCard

/-- THE TIED CARD OF 'clevislaw12.FixupRuns'. -/
def fixupRunsCard : Claim7 := { stood := { row := fixupRunsRow, standIns := [], harness := (true, "4496328c45f3e0fecac840973a41f2fd8351c15757ccaf65824855563341a491"), looks := true }, kinds := [], alts := [], laidByText := true, laidKinds := [.data, .data, .data], laidTests := true, laidLooks := .later }
def FixupRunsCardSaid : Prop := Claim7.holds Tryd.pinned (.plain (OpenSpec.ofChange fixupRunsSpec)) fixupRunsCard

/-- THE SECOND FORM's CARD OF 'clevislaw04.CommandLong'. -/
def commandLongUptoCard : Claim7 := { stood := { row := commandLongUptoRow, standIns := [], harness := (true, "4496328c45f3e0fecac840973a41f2fd8351c15757ccaf65824855563341a491"), looks := true }, kinds := [], alts := [], laidByText := true, laidKinds := [.handle], laidTests := true, laidLooks := .later }
def CommandLongUptoCardSaid : Prop := Claim7.holds Tryd.pinned (.plain (OpenSpec.upto commandLongSpec)) commandLongUptoCard

/-- THE SECOND FORM's CARD OF 'clevislaw03.FatReads'. -/
def fatReadsUptoCard : Claim7 := { stood := { row := fatReadsUptoRow, standIns := [], harness := (true, "4496328c45f3e0fecac840973a41f2fd8351c15757ccaf65824855563341a491"), looks := true }, kinds := [], alts := [], laidByText := true, laidKinds := [.handle], laidTests := true, laidLooks := .later }
def FatReadsUptoCardSaid : Prop := Claim7.holds Tryd.pinned (.plain (OpenSpec.upto fatReadsSpec)) fatReadsUptoCard

/-- THE SECOND FORM's CARD OF 'clevislaw03.FatPicks'. -/
def fatPicksUptoCard : Claim7 := { stood := { row := fatPicksUptoRow, standIns := [], harness := (true, "4496328c45f3e0fecac840973a41f2fd8351c15757ccaf65824855563341a491"), looks := true }, kinds := [], alts := [], laidByText := true, laidKinds := [.handle], laidTests := true, laidLooks := .later }
def FatPicksUptoCardSaid : Prop := Claim7.holds Tryd.pinned (.plain (OpenSpec.upto fatPicksSpec)) fatPicksUptoCard

/-- THE SECOND FORM's CARD OF 'clevislaw03.FatShort'. -/
def fatShortUptoCard : Claim7 := { stood := { row := fatShortUptoRow, standIns := [], harness := (true, "4496328c45f3e0fecac840973a41f2fd8351c15757ccaf65824855563341a491"), looks := true }, kinds := [], alts := [], laidByText := true, laidKinds := [.handle], laidTests := true, laidLooks := .later }
def FatShortUptoCardSaid : Prop := Claim7.holds Tryd.pinned (.plain (OpenSpec.upto fatShortSpec)) fatShortUptoCard

/-- THE SECOND FORM's CARD OF 'clevislaw04.CommandShort'. -/
def commandShortUptoCard : Claim7 := { stood := { row := commandShortUptoRow, standIns := [], harness := (true, "4496328c45f3e0fecac840973a41f2fd8351c15757ccaf65824855563341a491"), looks := true }, kinds := [], alts := [], laidByText := true, laidKinds := [.handle], laidTests := true, laidLooks := .later }
def CommandShortUptoCardSaid : Prop := Claim7.holds Tryd.pinned (.plain (OpenSpec.upto commandShortSpec)) commandShortUptoCard

/-- THE SECOND FORM's CARD OF 'clevislaw04.CommandReads'. -/
def commandReadsUptoCard : Claim7 := { stood := { row := commandReadsUptoRow, standIns := [], harness := (true, "4496328c45f3e0fecac840973a41f2fd8351c15757ccaf65824855563341a491"), looks := true }, kinds := [], alts := [], laidByText := true, laidKinds := [.handle], laidTests := true, laidLooks := .later }
def CommandReadsUptoCardSaid : Prop := Claim7.holds Tryd.pinned (.plain (OpenSpec.upto commandReadsSpec)) commandReadsUptoCard

/-- THE SECOND FORM's CARD OF 'clevislaw04.CommandMany'. -/
def commandManyUptoCard : Claim7 := { stood := { row := commandManyUptoRow, standIns := [], harness := (true, "4496328c45f3e0fecac840973a41f2fd8351c15757ccaf65824855563341a491"), looks := true }, kinds := [], alts := [], laidByText := true, laidKinds := [.handle], laidTests := true, laidLooks := .later }
def CommandManyUptoCardSaid : Prop := Claim7.holds Tryd.pinned (.plain (OpenSpec.upto commandManySpec)) commandManyUptoCard

/-- THE SECOND FORM's CARD OF 'clevislaw03.FatMakes'. -/
def fatMakesUptoCard : Claim7 := { stood := { row := fatMakesUptoRow, standIns := [], harness := (true, "4496328c45f3e0fecac840973a41f2fd8351c15757ccaf65824855563341a491"), looks := true }, kinds := [], alts := [], laidByText := true, laidKinds := [.handle], laidTests := true, laidLooks := .later }
def FatMakesUptoCardSaid : Prop := Claim7.holds Tryd.pinned (.plain (OpenSpec.upto fatMakesSpec)) fatMakesUptoCard

/-- THE SECOND FORM's CARD OF 'clevislaw03.FatLimits'. -/
def fatLimitsUptoCard : Claim7 := { stood := { row := fatLimitsUptoRow, standIns := [], harness := (true, "4496328c45f3e0fecac840973a41f2fd8351c15757ccaf65824855563341a491"), looks := true }, kinds := [], alts := [], laidByText := true, laidKinds := [.handle], laidTests := true, laidLooks := .later }
def FatLimitsUptoCardSaid : Prop := Claim7.holds Tryd.pinned (.plain (OpenSpec.upto fatLimitsSpec)) fatLimitsUptoCard

/-- THE SECOND FORM's CARD OF 'clevislaw12.FixupRuns'. -/
def fixupRunsUptoCard : Claim7 := { stood := { row := fixupRunsUptoRow, standIns := [], harness := (true, "4496328c45f3e0fecac840973a41f2fd8351c15757ccaf65824855563341a491"), looks := true }, kinds := [], alts := [], laidByText := true, laidKinds := [.data, .data, .data], laidTests := true, laidLooks := .later }
def FixupRunsUptoCardSaid : Prop := Claim7.holds Tryd.pinned (.plain (OpenSpec.upto fixupRunsSpec)) fixupRunsUptoCard
end Rows
end Go.Proofs.YtchkombikjcokaaDoor
