/-
  DERIVED. GIVEN WITH THE SEED: THE CARDS: each row of YtpodphfdoonidaaDoorRows.lean that lists a variable, with what it lists TIED to the program's text (the seventh form; the later family's looks); each row that meets fmt, with fmt's text TOLD by the authors' own Lean function (tested against real Go, not proved from fmt's source: count such statements apart). THE CARD IS WHAT COUNTS. Prove the row's statement (the work); the ties are given (YtpodphfdoonidaaDoorTie.lean); close each card by the builder's one call (the guide's Derived/Test/ToyasCard.lean, 'card_holds'). Laid BY PROGRAM, IN A SANDBOX (cutbox-door.mjs). By AI agents, Wed Nov 11 2026. No macro, syntax, notation, axiom, sorry.
-/
import Derived.Test.YtpodphfdoonidaaDoorRows
import GoSem.ClaimSeven
namespace Go.Proofs.YtpodphfdoonidaaDoor
namespace Rows

/-- THE TIED CARD OF 'clevislaw02.LebReads'. -/
def lebReadsCard : Claim7 := { stood := { row := lebReadsRow, standIns := [], harness := (true, "36a8451355e24a65ff80b2bcc0af779de26293f6584a02846110daa99ed3f2ef"), looks := true }, kinds := [], alts := [], laidByText := true, laidKinds := [.handle], laidTests := true, laidLooks := .later }
def LebReadsCardSaid : Prop := Claim7.holds Tryd.pinned (.plain (OpenSpec.ofChange lebReadsSpec)) lebReadsCard

/-- THE TIED CARD OF 'clevislaw02.LebNil'. -/
def lebNilCard : Claim7 := { stood := { row := lebNilRow, standIns := [], harness := (true, "36a8451355e24a65ff80b2bcc0af779de26293f6584a02846110daa99ed3f2ef"), looks := true }, kinds := [], alts := [], laidByText := true, laidKinds := [.handle], laidTests := true, laidLooks := .later }
def LebNilCardSaid : Prop := Claim7.holds Tryd.pinned (.plain (OpenSpec.ofChange lebNilSpec)) lebNilCard

/-- THE TIED CARD OF 'clevislaw02.LebOrder'. -/
def lebOrderCard : Claim7 := { stood := { row := lebOrderRow, standIns := [], harness := (true, "36a8451355e24a65ff80b2bcc0af779de26293f6584a02846110daa99ed3f2ef"), looks := true }, kinds := [], alts := [], laidByText := true, laidKinds := [.handle], laidTests := true, laidLooks := .later }
def LebOrderCardSaid : Prop := Claim7.holds Tryd.pinned (.plain (OpenSpec.ofChange lebOrderSpec)) lebOrderCard

/-- THE TIED CARD OF 'clevislaw02.LebPuts'. -/
def lebPutsCard : Claim7 := { stood := { row := lebPutsRow, standIns := [], harness := (true, "36a8451355e24a65ff80b2bcc0af779de26293f6584a02846110daa99ed3f2ef"), looks := true }, kinds := [], alts := [], laidByText := true, laidKinds := [.handle], laidTests := true, laidLooks := .later }
def LebPutsCardSaid : Prop := Claim7.holds Tryd.pinned (.plain (OpenSpec.ofChange lebPutsSpec)) lebPutsCard

/-- THE TIED CARD OF 'clevislaw02.LebPads'. -/
def lebPadsCard : Claim7 := { stood := { row := lebPadsRow, standIns := [], harness := (true, "36a8451355e24a65ff80b2bcc0af779de26293f6584a02846110daa99ed3f2ef"), looks := true }, kinds := [], alts := [], laidByText := true, laidKinds := [.handle], laidTests := true, laidLooks := .later }
def LebPadsCardSaid : Prop := Claim7.holds Tryd.pinned (.plain (OpenSpec.ofChange lebPadsSpec)) lebPadsCard

/-- THE TIED CARD OF 'clevislaw02.LebRows'. -/
def lebRowsCard : Claim7 := { stood := { row := lebRowsRow, standIns := [], harness := (true, "36a8451355e24a65ff80b2bcc0af779de26293f6584a02846110daa99ed3f2ef"), looks := true }, kinds := [], alts := [], laidByText := true, laidKinds := [.handle], laidTests := true, laidLooks := .later }
def LebRowsCardSaid : Prop := Claim7.holds Tryd.pinned (.plain (OpenSpec.ofChange lebRowsSpec)) lebRowsCard

/-- THE TIED CARD OF 'clevislaw01.CursorNumbers'. -/
def cursorNumbersCard : Claim7 := { stood := { row := cursorNumbersRow, standIns := [], harness := (true, "36a8451355e24a65ff80b2bcc0af779de26293f6584a02846110daa99ed3f2ef"), looks := true }, kinds := [], alts := [], laidByText := true, laidKinds := [.handle], laidTests := true, laidLooks := .later }
def CursorNumbersCardSaid : Prop := Claim7.holds Tryd.pinned (.plain (OpenSpec.ofChange cursorNumbersSpec)) cursorNumbersCard

/-- THE TIED CARD OF 'clevislaw01.CursorCuts'. -/
def cursorCutsCard : Claim7 := { stood := { row := cursorCutsRow, standIns := [], harness := (true, "36a8451355e24a65ff80b2bcc0af779de26293f6584a02846110daa99ed3f2ef"), looks := true }, kinds := [], alts := [], laidByText := true, laidKinds := [.handle], laidTests := true, laidLooks := .later }
def CursorCutsCardSaid : Prop := Claim7.holds Tryd.pinned (.plain (OpenSpec.ofChange cursorCutsSpec)) cursorCutsCard

/-- THE TIED CARD OF 'clevislaw01.CursorSums'. -/
def cursorSumsCard : Claim7 := { stood := { row := cursorSumsRow, standIns := [], harness := (true, "36a8451355e24a65ff80b2bcc0af779de26293f6584a02846110daa99ed3f2ef"), looks := true }, kinds := [], alts := [], laidByText := true, laidKinds := [.handle], laidTests := true, laidLooks := .later }
def CursorSumsCardSaid : Prop := Claim7.holds Tryd.pinned (.plain (OpenSpec.ofChange cursorSumsSpec)) cursorSumsCard

/-- THE TIED CARD OF 'clevislaw01.CursorCodes'. -/
def cursorCodesCard : Claim7 := { stood := { row := cursorCodesRow, standIns := [], harness := (true, "36a8451355e24a65ff80b2bcc0af779de26293f6584a02846110daa99ed3f2ef"), looks := true }, kinds := [], alts := [], laidByText := true, laidKinds := [.data, .data, .data, .handle], laidTests := true, laidLooks := .later }
def CursorCodesCardSaid : Prop := Claim7.holds Tryd.pinned (.plain (OpenSpec.ofChange cursorCodesSpec)) cursorCodesCard

/-- THE TIED CARD OF 'clevislaw01.CursorNil'. -/
def cursorNilCard : Claim7 := { stood := { row := cursorNilRow, standIns := [], harness := (true, "36a8451355e24a65ff80b2bcc0af779de26293f6584a02846110daa99ed3f2ef"), looks := true }, kinds := [], alts := [], laidByText := true, laidKinds := [.handle], laidTests := true, laidLooks := .later }
def CursorNilCardSaid : Prop := Claim7.holds Tryd.pinned (.plain (OpenSpec.ofChange cursorNilSpec)) cursorNilCard

/-- THE TIED CARD OF 'clevislaw01.CursorPlays'. -/
def cursorPlaysCard : Claim7 := { stood := { row := cursorPlaysRow, standIns := [], harness := (true, "36a8451355e24a65ff80b2bcc0af779de26293f6584a02846110daa99ed3f2ef"), looks := true }, kinds := [], alts := [], laidByText := true, laidKinds := [.handle], laidTests := true, laidLooks := .later }
def CursorPlaysCardSaid : Prop := Claim7.holds Tryd.pinned (.plain (OpenSpec.ofChange cursorPlaysSpec)) cursorPlaysCard

/-- THE SECOND FORM's CARD OF 'clevislaw02.LebReads'. -/
def lebReadsUptoCard : Claim7 := { stood := { row := lebReadsUptoRow, standIns := [], harness := (true, "36a8451355e24a65ff80b2bcc0af779de26293f6584a02846110daa99ed3f2ef"), looks := true }, kinds := [], alts := [], laidByText := true, laidKinds := [.handle], laidTests := true, laidLooks := .later }
def LebReadsUptoCardSaid : Prop := Claim7.holds Tryd.pinned (.plain (OpenSpec.upto lebReadsSpec)) lebReadsUptoCard

/-- THE SECOND FORM's CARD OF 'clevislaw02.LebNil'. -/
def lebNilUptoCard : Claim7 := { stood := { row := lebNilUptoRow, standIns := [], harness := (true, "36a8451355e24a65ff80b2bcc0af779de26293f6584a02846110daa99ed3f2ef"), looks := true }, kinds := [], alts := [], laidByText := true, laidKinds := [.handle], laidTests := true, laidLooks := .later }
def LebNilUptoCardSaid : Prop := Claim7.holds Tryd.pinned (.plain (OpenSpec.upto lebNilSpec)) lebNilUptoCard

/-- THE SECOND FORM's CARD OF 'clevislaw02.LebOrder'. -/
def lebOrderUptoCard : Claim7 := { stood := { row := lebOrderUptoRow, standIns := [], harness := (true, "36a8451355e24a65ff80b2bcc0af779de26293f6584a02846110daa99ed3f2ef"), looks := true }, kinds := [], alts := [], laidByText := true, laidKinds := [.handle], laidTests := true, laidLooks := .later }
def LebOrderUptoCardSaid : Prop := Claim7.holds Tryd.pinned (.plain (OpenSpec.upto lebOrderSpec)) lebOrderUptoCard

/-- THE SECOND FORM's CARD OF 'clevislaw02.LebPuts'. -/
def lebPutsUptoCard : Claim7 := { stood := { row := lebPutsUptoRow, standIns := [], harness := (true, "36a8451355e24a65ff80b2bcc0af779de26293f6584a02846110daa99ed3f2ef"), looks := true }, kinds := [], alts := [], laidByText := true, laidKinds := [.handle], laidTests := true, laidLooks := .later }
def LebPutsUptoCardSaid : Prop := Claim7.holds Tryd.pinned (.plain (OpenSpec.upto lebPutsSpec)) lebPutsUptoCard

/-- THE SECOND FORM's CARD OF 'clevislaw02.LebPads'. -/
def lebPadsUptoCard : Claim7 := { stood := { row := lebPadsUptoRow, standIns := [], harness := (true, "36a8451355e24a65ff80b2bcc0af779de26293f6584a02846110daa99ed3f2ef"), looks := true }, kinds := [], alts := [], laidByText := true, laidKinds := [.handle], laidTests := true, laidLooks := .later }
def LebPadsUptoCardSaid : Prop := Claim7.holds Tryd.pinned (.plain (OpenSpec.upto lebPadsSpec)) lebPadsUptoCard

/-- THE SECOND FORM's CARD OF 'clevislaw02.LebRows'. -/
def lebRowsUptoCard : Claim7 := { stood := { row := lebRowsUptoRow, standIns := [], harness := (true, "36a8451355e24a65ff80b2bcc0af779de26293f6584a02846110daa99ed3f2ef"), looks := true }, kinds := [], alts := [], laidByText := true, laidKinds := [.handle], laidTests := true, laidLooks := .later }
def LebRowsUptoCardSaid : Prop := Claim7.holds Tryd.pinned (.plain (OpenSpec.upto lebRowsSpec)) lebRowsUptoCard

/-- THE SECOND FORM's CARD OF 'clevislaw01.CursorNumbers'. -/
def cursorNumbersUptoCard : Claim7 := { stood := { row := cursorNumbersUptoRow, standIns := [], harness := (true, "36a8451355e24a65ff80b2bcc0af779de26293f6584a02846110daa99ed3f2ef"), looks := true }, kinds := [], alts := [], laidByText := true, laidKinds := [.handle], laidTests := true, laidLooks := .later }
def CursorNumbersUptoCardSaid : Prop := Claim7.holds Tryd.pinned (.plain (OpenSpec.upto cursorNumbersSpec)) cursorNumbersUptoCard

/-- THE SECOND FORM's CARD OF 'clevislaw01.CursorCuts'. -/
def cursorCutsUptoCard : Claim7 := { stood := { row := cursorCutsUptoRow, standIns := [], harness := (true, "36a8451355e24a65ff80b2bcc0af779de26293f6584a02846110daa99ed3f2ef"), looks := true }, kinds := [], alts := [], laidByText := true, laidKinds := [.handle], laidTests := true, laidLooks := .later }
def CursorCutsUptoCardSaid : Prop := Claim7.holds Tryd.pinned (.plain (OpenSpec.upto cursorCutsSpec)) cursorCutsUptoCard

/-- THE SECOND FORM's CARD OF 'clevislaw01.CursorSums'. -/
def cursorSumsUptoCard : Claim7 := { stood := { row := cursorSumsUptoRow, standIns := [], harness := (true, "36a8451355e24a65ff80b2bcc0af779de26293f6584a02846110daa99ed3f2ef"), looks := true }, kinds := [], alts := [], laidByText := true, laidKinds := [.handle], laidTests := true, laidLooks := .later }
def CursorSumsUptoCardSaid : Prop := Claim7.holds Tryd.pinned (.plain (OpenSpec.upto cursorSumsSpec)) cursorSumsUptoCard

/-- THE SECOND FORM's CARD OF 'clevislaw01.CursorCodes'. -/
def cursorCodesUptoCard : Claim7 := { stood := { row := cursorCodesUptoRow, standIns := [], harness := (true, "36a8451355e24a65ff80b2bcc0af779de26293f6584a02846110daa99ed3f2ef"), looks := true }, kinds := [], alts := [], laidByText := true, laidKinds := [.data, .data, .data, .handle], laidTests := true, laidLooks := .later }
def CursorCodesUptoCardSaid : Prop := Claim7.holds Tryd.pinned (.plain (OpenSpec.upto cursorCodesSpec)) cursorCodesUptoCard

/-- THE SECOND FORM's CARD OF 'clevislaw01.CursorNil'. -/
def cursorNilUptoCard : Claim7 := { stood := { row := cursorNilUptoRow, standIns := [], harness := (true, "36a8451355e24a65ff80b2bcc0af779de26293f6584a02846110daa99ed3f2ef"), looks := true }, kinds := [], alts := [], laidByText := true, laidKinds := [.handle], laidTests := true, laidLooks := .later }
def CursorNilUptoCardSaid : Prop := Claim7.holds Tryd.pinned (.plain (OpenSpec.upto cursorNilSpec)) cursorNilUptoCard

/-- THE SECOND FORM's CARD OF 'clevislaw01.CursorPlays'. -/
def cursorPlaysUptoCard : Claim7 := { stood := { row := cursorPlaysUptoRow, standIns := [], harness := (true, "36a8451355e24a65ff80b2bcc0af779de26293f6584a02846110daa99ed3f2ef"), looks := true }, kinds := [], alts := [], laidByText := true, laidKinds := [.handle], laidTests := true, laidLooks := .later }
def CursorPlaysUptoCardSaid : Prop := Claim7.holds Tryd.pinned (.plain (OpenSpec.upto cursorPlaysSpec)) cursorPlaysUptoCard
end Rows
end Go.Proofs.YtpodphfdoonidaaDoor
