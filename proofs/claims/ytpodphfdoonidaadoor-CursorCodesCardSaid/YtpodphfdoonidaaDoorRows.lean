/-
  NARROWER THAN 'FOR EVERY INPUT', by the rows' own cells (each row's printed sentence says how): LebReads: laid · LebNil: laid · LebOrder: laid · LebPuts: laid · LebPads: laid · LebRows: laid · CursorNumbers: laid · CursorCuts: laid · CursorSums: laid · CursorCodes: laid · CursorNil: laid · CursorPlays: laid.
  DERIVED. THE GIVEN ROWS OF THIS SEAT. 12 by the template 'for every input the law returns true; each argument reads behind the call as it read before'; 0 by the template 'total and deterministic' (their statements: YtpodphfdoonidaaDoorTotals.lean).
  GIVEN WITH THE SEED: the statements are not yours to turn. If you find one false, say at which input.
  Laid BY PROGRAM, IN A SANDBOX (cutbox-rows.mjs): the forced cells as the released guide's own fill.sh prints them over the translation 50c769aef47ff217… (all of the seat's roots in one cut). By AI agents, Wed Nov 11 2026. No macro, syntax, notation, axiom, sorry.
-/
import Derived.Test.YtpodphfdoonidaaDoorChecked
import GoSem.Claim
import GoSem.ClaimJoined
import GoSem.ClaimMapViews
import Derived.JoinedTies
import Derived.KernelRfl
namespace Go.Proofs.YtpodphfdoonidaaDoor
/- THE CELL 'sum', in the pinned program and in every row, IS THE sha256 OF THE DUMP (.gsa) THAT YtpodphfdoonidaaDoorProg.lean LOADS. Nothing in Lean hashes anything: it is a label: what it is worth is what the hold of that sum in a sandbox is worth. -/
noncomputable def Tryd.pinned : Pinned := { name := "ytpodphfdoonidaadoor", sum := "50c769aef47ff217f96ae7225b801589bbee036d413b704b1f61d72cc3612f14", checked := Tryd.checked }
namespace Rows
def none {H : Type} : Left H := { results := [], args := [] }

/- WHAT THE LISTED PACKAGE-LEVEL VARIABLES READ AS WHEN THE CALL BEGINS. Each datum BY PROGRAM (the guide's laid-datum.mjs) off the statement by which the dump's own 'gosem.cut.vars' lays the variable. In a bare row this is a premise. The card (YtpodphfdoonidaaDoorCards.lean) ties it to the program's text. -/
def laid_errors_errorType {H : Type} : DataW H := .iface "internal/reflectlite.rtype" (.agg [.ptr (.lit (.string [101, 114, 114, 111, 114]))])
def laid_math_bits_deBruijn32tab {H : Type} : DataW H := .agg [.lit (.int .u8 0), .lit (.int .u8 1), .lit (.int .u8 28), .lit (.int .u8 2), .lit (.int .u8 29), .lit (.int .u8 14), .lit (.int .u8 24), .lit (.int .u8 3), .lit (.int .u8 30), .lit (.int .u8 22), .lit (.int .u8 20), .lit (.int .u8 15), .lit (.int .u8 25), .lit (.int .u8 17), .lit (.int .u8 4), .lit (.int .u8 8), .lit (.int .u8 31), .lit (.int .u8 27), .lit (.int .u8 13), .lit (.int .u8 23), .lit (.int .u8 21), .lit (.int .u8 19), .lit (.int .u8 16), .lit (.int .u8 7), .lit (.int .u8 26), .lit (.int .u8 12), .lit (.int .u8 18), .lit (.int .u8 6), .lit (.int .u8 11), .lit (.int .u8 5), .lit (.int .u8 10), .lit (.int .u8 9)]
def laid_math_bits_deBruijn64tab {H : Type} : DataW H := .agg [.lit (.int .u8 0), .lit (.int .u8 1), .lit (.int .u8 56), .lit (.int .u8 2), .lit (.int .u8 57), .lit (.int .u8 49), .lit (.int .u8 28), .lit (.int .u8 3), .lit (.int .u8 61), .lit (.int .u8 58), .lit (.int .u8 42), .lit (.int .u8 50), .lit (.int .u8 38), .lit (.int .u8 29), .lit (.int .u8 17), .lit (.int .u8 4), .lit (.int .u8 62), .lit (.int .u8 47), .lit (.int .u8 59), .lit (.int .u8 36), .lit (.int .u8 45), .lit (.int .u8 43), .lit (.int .u8 51), .lit (.int .u8 22), .lit (.int .u8 53), .lit (.int .u8 39), .lit (.int .u8 33), .lit (.int .u8 30), .lit (.int .u8 24), .lit (.int .u8 18), .lit (.int .u8 12), .lit (.int .u8 5), .lit (.int .u8 63), .lit (.int .u8 55), .lit (.int .u8 48), .lit (.int .u8 27), .lit (.int .u8 60), .lit (.int .u8 41), .lit (.int .u8 37), .lit (.int .u8 16), .lit (.int .u8 46), .lit (.int .u8 35), .lit (.int .u8 44), .lit (.int .u8 21), .lit (.int .u8 52), .lit (.int .u8 32), .lit (.int .u8 23), .lit (.int .u8 11), .lit (.int .u8 54), .lit (.int .u8 26), .lit (.int .u8 40), .lit (.int .u8 15), .lit (.int .u8 34), .lit (.int .u8 20), .lit (.int .u8 31), .lit (.int .u8 10), .lit (.int .u8 25), .lit (.int .u8 14), .lit (.int .u8 19), .lit (.int .u8 9), .lit (.int .u8 13), .lit (.int .u8 8), .lit (.int .u8 7), .lit (.int .u8 6)]
def laid_internal_strconv_uint64pow10 {H : Type} : DataW H := .agg [.lit (.int .u64 1), .lit (.int .u64 10), .lit (.int .u64 100), .lit (.int .u64 1000), .lit (.int .u64 10000), .lit (.int .u64 100000), .lit (.int .u64 1000000), .lit (.int .u64 10000000), .lit (.int .u64 100000000), .lit (.int .u64 1000000000), .lit (.int .u64 10000000000), .lit (.int .u64 100000000000), .lit (.int .u64 1000000000000), .lit (.int .u64 10000000000000), .lit (.int .u64 100000000000000), .lit (.int .u64 1000000000000000), .lit (.int .u64 10000000000000000), .lit (.int .u64 100000000000000000), .lit (.int .u64 1000000000000000000), .lit (.int .u64 10000000000000000000)]

/-- 'clevislaw02.LebReads': WHATEVER THE INPUT: true; the input reads as it did. -/
def lebReadsSpec : ChangeSpec := { name := "lebReads", fn := fun _ => fun
  | [d1, d2, d3] => { results := [.lit (.bool true)], args := [d1, d2, d3] }
  | _ => none }
def lebReadsRow : OpenClaim := { program := "ytpodphfdoonidaadoor", sum := "50c769aef47ff217f96ae7225b801589bbee036d413b704b1f61d72cc3612f14", func := "clevis/clevislaw02.LebReads", spec := "lebReads", inPlace := ["internal/reflectlite.ValueOf", "(internal/reflectlite.Value).Type", "(internal/reflectlite.Value).IsNil", "internal/reflectlite.TypeOf", "(internal/reflectlite.Value).Elem", "(internal/reflectlite.Value).Set"], unfollowed := true, recurses := true, named := ["errors.errorType"], apart := false, laid := [("errors.errorType", laid_errors_errorType)] }
def LebReadsSaid : Prop := lebReadsRow.holds Tryd.pinned (OpenSpec.ofChange lebReadsSpec)

/-- ITS FALSE NEIGHBOUR: 'it returns false'. Refute it at one input. -/
def lebReadsWrong : ChangeSpec := { name := "lebReads", fn := fun _ => fun
  | [d1, d2, d3] => { results := [.lit (.bool false)], args := [d1, d2, d3] }
  | _ => none }
def LebReadsWrongFalsely : Prop := lebReadsRow.holds Tryd.pinned (OpenSpec.ofChange lebReadsWrong)

/-- 'clevislaw02.LebNil': WHATEVER THE INPUT: true; the input reads as it did. -/
def lebNilSpec : ChangeSpec := { name := "lebNil", fn := fun _ => fun
  | [] => { results := [.lit (.bool true)], args := [] }
  | _ => none }
def lebNilRow : OpenClaim := { program := "ytpodphfdoonidaadoor", sum := "50c769aef47ff217f96ae7225b801589bbee036d413b704b1f61d72cc3612f14", func := "clevis/clevislaw02.LebNil", spec := "lebNil", inPlace := ["internal/reflectlite.ValueOf", "(internal/reflectlite.Value).Type", "(internal/reflectlite.Value).IsNil", "internal/reflectlite.TypeOf", "(internal/reflectlite.Value).Elem", "(internal/reflectlite.Value).Set"], unfollowed := true, recurses := true, named := ["errors.errorType"], apart := false, laid := [("errors.errorType", laid_errors_errorType)] }
def LebNilSaid : Prop := lebNilRow.holds Tryd.pinned (OpenSpec.ofChange lebNilSpec)

/-- ITS FALSE NEIGHBOUR: 'it returns false'. Refute it at one input. -/
def lebNilWrong : ChangeSpec := { name := "lebNil", fn := fun _ => fun
  | [] => { results := [.lit (.bool false)], args := [] }
  | _ => none }
def LebNilWrongFalsely : Prop := lebNilRow.holds Tryd.pinned (OpenSpec.ofChange lebNilWrong)

/-- 'clevislaw02.LebOrder': WHATEVER THE INPUT: true; the input reads as it did. -/
def lebOrderSpec : ChangeSpec := { name := "lebOrder", fn := fun _ => fun
  | [d1, d2] => { results := [.lit (.bool true)], args := [d1, d2] }
  | _ => none }
def lebOrderRow : OpenClaim := { program := "ytpodphfdoonidaadoor", sum := "50c769aef47ff217f96ae7225b801589bbee036d413b704b1f61d72cc3612f14", func := "clevis/clevislaw02.LebOrder", spec := "lebOrder", inPlace := ["internal/reflectlite.ValueOf", "(internal/reflectlite.Value).Type", "(internal/reflectlite.Value).IsNil", "internal/reflectlite.TypeOf", "(internal/reflectlite.Value).Elem", "(internal/reflectlite.Value).Set"], unfollowed := true, recurses := true, named := ["errors.errorType"], apart := false, laid := [("errors.errorType", laid_errors_errorType)] }
def LebOrderSaid : Prop := lebOrderRow.holds Tryd.pinned (OpenSpec.ofChange lebOrderSpec)

/-- ITS FALSE NEIGHBOUR: 'it returns false'. Refute it at one input. -/
def lebOrderWrong : ChangeSpec := { name := "lebOrder", fn := fun _ => fun
  | [d1, d2] => { results := [.lit (.bool false)], args := [d1, d2] }
  | _ => none }
def LebOrderWrongFalsely : Prop := lebOrderRow.holds Tryd.pinned (OpenSpec.ofChange lebOrderWrong)

/-- 'clevislaw02.LebPuts': WHATEVER THE INPUT: true; the input reads as it did. -/
def lebPutsSpec : ChangeSpec := { name := "lebPuts", fn := fun _ => fun
  | [d1, d2, d3] => { results := [.lit (.bool true)], args := [d1, d2, d3] }
  | _ => none }
def lebPutsRow : OpenClaim := { program := "ytpodphfdoonidaadoor", sum := "50c769aef47ff217f96ae7225b801589bbee036d413b704b1f61d72cc3612f14", func := "clevis/clevislaw02.LebPuts", spec := "lebPuts", inPlace := ["internal/reflectlite.ValueOf", "(internal/reflectlite.Value).Type", "(internal/reflectlite.Value).IsNil", "internal/reflectlite.TypeOf", "(internal/reflectlite.Value).Elem", "(internal/reflectlite.Value).Set"], unfollowed := true, recurses := true, named := ["errors.errorType"], apart := false, laid := [("errors.errorType", laid_errors_errorType)] }
def LebPutsSaid : Prop := lebPutsRow.holds Tryd.pinned (OpenSpec.ofChange lebPutsSpec)

/-- ITS FALSE NEIGHBOUR: 'it returns false'. Refute it at one input. -/
def lebPutsWrong : ChangeSpec := { name := "lebPuts", fn := fun _ => fun
  | [d1, d2, d3] => { results := [.lit (.bool false)], args := [d1, d2, d3] }
  | _ => none }
def LebPutsWrongFalsely : Prop := lebPutsRow.holds Tryd.pinned (OpenSpec.ofChange lebPutsWrong)

/-- 'clevislaw02.LebPads': WHATEVER THE INPUT: true; the input reads as it did. -/
def lebPadsSpec : ChangeSpec := { name := "lebPads", fn := fun _ => fun
  | [d1, d2, d3] => { results := [.lit (.bool true)], args := [d1, d2, d3] }
  | _ => none }
def lebPadsRow : OpenClaim := { program := "ytpodphfdoonidaadoor", sum := "50c769aef47ff217f96ae7225b801589bbee036d413b704b1f61d72cc3612f14", func := "clevis/clevislaw02.LebPads", spec := "lebPads", inPlace := ["internal/reflectlite.ValueOf", "(internal/reflectlite.Value).Type", "(internal/reflectlite.Value).IsNil", "internal/reflectlite.TypeOf", "(internal/reflectlite.Value).Elem", "(internal/reflectlite.Value).Set"], unfollowed := true, recurses := true, named := ["errors.errorType"], apart := false, laid := [("errors.errorType", laid_errors_errorType)] }
def LebPadsSaid : Prop := lebPadsRow.holds Tryd.pinned (OpenSpec.ofChange lebPadsSpec)

/-- ITS FALSE NEIGHBOUR: 'it returns false'. Refute it at one input. -/
def lebPadsWrong : ChangeSpec := { name := "lebPads", fn := fun _ => fun
  | [d1, d2, d3] => { results := [.lit (.bool false)], args := [d1, d2, d3] }
  | _ => none }
def LebPadsWrongFalsely : Prop := lebPadsRow.holds Tryd.pinned (OpenSpec.ofChange lebPadsWrong)

/-- 'clevislaw02.LebRows': WHATEVER THE INPUT: true; the input reads as it did. -/
def lebRowsSpec : ChangeSpec := { name := "lebRows", fn := fun _ => fun
  | [d] => { results := [.lit (.bool true)], args := [d] }
  | _ => none }
def lebRowsRow : OpenClaim := { program := "ytpodphfdoonidaadoor", sum := "50c769aef47ff217f96ae7225b801589bbee036d413b704b1f61d72cc3612f14", func := "clevis/clevislaw02.LebRows", spec := "lebRows", inPlace := ["internal/reflectlite.ValueOf", "(internal/reflectlite.Value).Type", "(internal/reflectlite.Value).IsNil", "internal/reflectlite.TypeOf", "(internal/reflectlite.Value).Elem", "(internal/reflectlite.Value).Set"], unfollowed := true, recurses := true, named := ["errors.errorType"], apart := false, laid := [("errors.errorType", laid_errors_errorType)] }
def LebRowsSaid : Prop := lebRowsRow.holds Tryd.pinned (OpenSpec.ofChange lebRowsSpec)

/-- ITS FALSE NEIGHBOUR: 'it returns false'. Refute it at one input. -/
def lebRowsWrong : ChangeSpec := { name := "lebRows", fn := fun _ => fun
  | [d] => { results := [.lit (.bool false)], args := [d] }
  | _ => none }
def LebRowsWrongFalsely : Prop := lebRowsRow.holds Tryd.pinned (OpenSpec.ofChange lebRowsWrong)

/-- 'clevislaw01.CursorNumbers': WHATEVER THE INPUT: true; the input reads as it did. -/
def cursorNumbersSpec : ChangeSpec := { name := "cursorNumbers", fn := fun _ => fun
  | [d1, d2] => { results := [.lit (.bool true)], args := [d1, d2] }
  | _ => none }
def cursorNumbersRow : OpenClaim := { program := "ytpodphfdoonidaadoor", sum := "50c769aef47ff217f96ae7225b801589bbee036d413b704b1f61d72cc3612f14", func := "clevis/clevislaw01.CursorNumbers", spec := "cursorNumbers", inPlace := ["internal/reflectlite.ValueOf", "(internal/reflectlite.Value).Type", "(internal/reflectlite.Value).IsNil", "internal/reflectlite.TypeOf", "(internal/reflectlite.Value).Elem", "(internal/reflectlite.Value).Set", "internal/bytealg.IndexByte"], unfollowed := true, recurses := true, named := ["errors.errorType"], apart := false, laid := [("errors.errorType", laid_errors_errorType)] }
def CursorNumbersSaid : Prop := cursorNumbersRow.holds Tryd.pinned (OpenSpec.ofChange cursorNumbersSpec)

/-- ITS FALSE NEIGHBOUR: 'it returns false'. Refute it at one input. -/
def cursorNumbersWrong : ChangeSpec := { name := "cursorNumbers", fn := fun _ => fun
  | [d1, d2] => { results := [.lit (.bool false)], args := [d1, d2] }
  | _ => none }
def CursorNumbersWrongFalsely : Prop := cursorNumbersRow.holds Tryd.pinned (OpenSpec.ofChange cursorNumbersWrong)

/-- 'clevislaw01.CursorCuts': WHATEVER THE INPUT: true; the input reads as it did. -/
def cursorCutsSpec : ChangeSpec := { name := "cursorCuts", fn := fun _ => fun
  | [d1, d2, d3] => { results := [.lit (.bool true)], args := [d1, d2, d3] }
  | _ => none }
def cursorCutsRow : OpenClaim := { program := "ytpodphfdoonidaadoor", sum := "50c769aef47ff217f96ae7225b801589bbee036d413b704b1f61d72cc3612f14", func := "clevis/clevislaw01.CursorCuts", spec := "cursorCuts", inPlace := ["internal/bytealg.IndexByte", "internal/reflectlite.ValueOf", "(internal/reflectlite.Value).Type", "(internal/reflectlite.Value).IsNil", "internal/reflectlite.TypeOf", "(internal/reflectlite.Value).Elem", "(internal/reflectlite.Value).Set"], unfollowed := true, recurses := true, named := ["errors.errorType"], apart := false, laid := [("errors.errorType", laid_errors_errorType)] }
def CursorCutsSaid : Prop := cursorCutsRow.holds Tryd.pinned (OpenSpec.ofChange cursorCutsSpec)

/-- ITS FALSE NEIGHBOUR: 'it returns false'. Refute it at one input. -/
def cursorCutsWrong : ChangeSpec := { name := "cursorCuts", fn := fun _ => fun
  | [d1, d2, d3] => { results := [.lit (.bool false)], args := [d1, d2, d3] }
  | _ => none }
def CursorCutsWrongFalsely : Prop := cursorCutsRow.holds Tryd.pinned (OpenSpec.ofChange cursorCutsWrong)

/-- 'clevislaw01.CursorSums': WHATEVER THE INPUT: true; the input reads as it did. -/
def cursorSumsSpec : ChangeSpec := { name := "cursorSums", fn := fun _ => fun
  | [d1, d2, d3] => { results := [.lit (.bool true)], args := [d1, d2, d3] }
  | _ => none }
def cursorSumsRow : OpenClaim := { program := "ytpodphfdoonidaadoor", sum := "50c769aef47ff217f96ae7225b801589bbee036d413b704b1f61d72cc3612f14", func := "clevis/clevislaw01.CursorSums", spec := "cursorSums", inPlace := ["math/bits.Add64", "internal/bytealg.IndexByte", "internal/reflectlite.ValueOf", "(internal/reflectlite.Value).Type", "(internal/reflectlite.Value).IsNil", "internal/reflectlite.TypeOf", "(internal/reflectlite.Value).Elem", "(internal/reflectlite.Value).Set"], unfollowed := true, recurses := true, named := ["errors.errorType"], apart := false, laid := [("errors.errorType", laid_errors_errorType)] }
def CursorSumsSaid : Prop := cursorSumsRow.holds Tryd.pinned (OpenSpec.ofChange cursorSumsSpec)

/-- ITS FALSE NEIGHBOUR: 'it returns false'. Refute it at one input. -/
def cursorSumsWrong : ChangeSpec := { name := "cursorSums", fn := fun _ => fun
  | [d1, d2, d3] => { results := [.lit (.bool false)], args := [d1, d2, d3] }
  | _ => none }
def CursorSumsWrongFalsely : Prop := cursorSumsRow.holds Tryd.pinned (OpenSpec.ofChange cursorSumsWrong)

/-- 'clevislaw01.CursorCodes': WHATEVER THE INPUT: true; the input reads as it did. -/
def cursorCodesSpec : ChangeSpec := { name := "cursorCodes", fn := fun _ => fun
  | [d1, d2, d3] => { results := [.lit (.bool true)], args := [d1, d2, d3] }
  | _ => none }
def cursorCodesRow : OpenClaim := { program := "ytpodphfdoonidaadoor", sum := "50c769aef47ff217f96ae7225b801589bbee036d413b704b1f61d72cc3612f14", func := "clevis/clevislaw01.CursorCodes", spec := "cursorCodes", inPlace := ["internal/bytealg.IndexByte", "internal/reflectlite.ValueOf", "(internal/reflectlite.Value).Type", "(internal/reflectlite.Value).IsNil", "internal/reflectlite.TypeOf", "(internal/reflectlite.Value).Elem", "(internal/reflectlite.Value).Set"], unfollowed := true, recurses := true, named := ["errors.errorType", "internal/strconv.uint64pow10", "math/bits.deBruijn32tab", "math/bits.deBruijn64tab"], apart := false, laid := [("math/bits.deBruijn32tab", laid_math_bits_deBruijn32tab), ("math/bits.deBruijn64tab", laid_math_bits_deBruijn64tab), ("internal/strconv.uint64pow10", laid_internal_strconv_uint64pow10), ("errors.errorType", laid_errors_errorType)] }
def CursorCodesSaid : Prop := cursorCodesRow.holds Tryd.pinned (OpenSpec.ofChange cursorCodesSpec)

/-- ITS FALSE NEIGHBOUR: 'it returns false'. Refute it at one input. -/
def cursorCodesWrong : ChangeSpec := { name := "cursorCodes", fn := fun _ => fun
  | [d1, d2, d3] => { results := [.lit (.bool false)], args := [d1, d2, d3] }
  | _ => none }
def CursorCodesWrongFalsely : Prop := cursorCodesRow.holds Tryd.pinned (OpenSpec.ofChange cursorCodesWrong)

/-- 'clevislaw01.CursorNil': WHATEVER THE INPUT: true; the input reads as it did. -/
def cursorNilSpec : ChangeSpec := { name := "cursorNil", fn := fun _ => fun
  | [] => { results := [.lit (.bool true)], args := [] }
  | _ => none }
def cursorNilRow : OpenClaim := { program := "ytpodphfdoonidaadoor", sum := "50c769aef47ff217f96ae7225b801589bbee036d413b704b1f61d72cc3612f14", func := "clevis/clevislaw01.CursorNil", spec := "cursorNil", inPlace := ["internal/bytealg.IndexByte", "internal/bytealg.Index", "internal/reflectlite.ValueOf", "(internal/reflectlite.Value).Type", "(internal/reflectlite.Value).IsNil", "internal/reflectlite.TypeOf", "(internal/reflectlite.Value).Elem", "(internal/reflectlite.Value).Set"], unfollowed := true, recurses := true, named := ["internal/bytealg.MaxLen", "errors.errorType"], apart := false, laid := [("errors.errorType", laid_errors_errorType)] }
def CursorNilSaid : Prop := cursorNilRow.holds Tryd.pinned (OpenSpec.ofChange cursorNilSpec)

/-- ITS FALSE NEIGHBOUR: 'it returns false'. Refute it at one input. -/
def cursorNilWrong : ChangeSpec := { name := "cursorNil", fn := fun _ => fun
  | [] => { results := [.lit (.bool false)], args := [] }
  | _ => none }
def CursorNilWrongFalsely : Prop := cursorNilRow.holds Tryd.pinned (OpenSpec.ofChange cursorNilWrong)

/-- 'clevislaw01.CursorPlays': WHATEVER THE INPUT: true; the input reads as it did. -/
def cursorPlaysSpec : ChangeSpec := { name := "cursorPlays", fn := fun _ => fun
  | [d1, d2, d3] => { results := [.lit (.bool true)], args := [d1, d2, d3] }
  | _ => none }
def cursorPlaysRow : OpenClaim := { program := "ytpodphfdoonidaadoor", sum := "50c769aef47ff217f96ae7225b801589bbee036d413b704b1f61d72cc3612f14", func := "clevis/clevislaw01.CursorPlays", spec := "cursorPlays", inPlace := ["internal/bytealg.IndexByte", "internal/reflectlite.ValueOf", "(internal/reflectlite.Value).Type", "(internal/reflectlite.Value).IsNil", "internal/reflectlite.TypeOf", "(internal/reflectlite.Value).Elem", "(internal/reflectlite.Value).Set", "internal/bytealg.Index"], unfollowed := true, recurses := true, named := ["errors.errorType", "internal/bytealg.MaxLen"], apart := false, laid := [("errors.errorType", laid_errors_errorType)] }
def CursorPlaysSaid : Prop := cursorPlaysRow.holds Tryd.pinned (OpenSpec.ofChange cursorPlaysSpec)

/-- ITS FALSE NEIGHBOUR: 'it returns false'. Refute it at one input. -/
def cursorPlaysWrong : ChangeSpec := { name := "cursorPlays", fn := fun _ => fun
  | [d1, d2, d3] => { results := [.lit (.bool false)], args := [d1, d2, d3] }
  | _ => none }
def CursorPlaysWrongFalsely : Prop := cursorPlaysRow.holds Tryd.pinned (OpenSpec.ofChange cursorPlaysWrong)

/- THE SECOND FORM. 'bulk': how many values and letters a reading holds, each counted each time it is reached (what is shared counts as often as it is met; a slice's spare places count too). A statement '..UptoSaid' is the law's where the arguments, and the package variables that the reading takes, are together of bulk at most 1048576: NARROWER than '..Said'. Prove '..Said' where nothing that the law and all that it calls make is longer than what came in: it says more and counts as full. Else prove '..UptoSaid'. A law counts once. -/
mutual
def uptoBulk {H : Type} : DataW H → Nat
  | .lit (.string bytes) => bytes.length + 1
  | .lit _ => 1
  | .nil => 1
  | .ptr d => uptoBulk d + 1
  | .slice elems spare => uptoBulkAll elems + uptoBulkAll spare + 1
  | .agg parts => uptoBulkAll parts + 1
  | .iface _ d => uptoBulk d + 1
  | .map entries => uptoBulkEntries entries + 1
  | .held _ => 1
def uptoBulkAll {H : Type} : List (DataW H) → Nat
  | [] => 0
  | d :: r => uptoBulk d + uptoBulkAll r
def uptoBulkEntries {H : Type} : List (Lit × DataW H) → Nat
  | [] => 0
  | x :: r => uptoBulkEntry x + uptoBulkEntries r
def uptoBulkEntry {H : Type} : Lit × DataW H → Nat
  | (.string bytes, d) => bytes.length + uptoBulk d + 1
  | (_, d) => uptoBulk d + 1
 end
def uptoSmall : (H : Type) → List (DataW H) → Bool := fun _ ds => decide (uptoBulkAll ds ≤ 1048576)
def OpenSpec.upto (s : _root_.Go.ChangeSpec) : _root_.Go.OpenSpec := { _root_.Go.OpenSpec.ofChange s with cond := some uptoSmall }

/-- 'clevislaw02.LebReads', WHERE WHAT IT READS IS OF BULK AT MOST 1048576: true; the input reads as it did. -/
def lebReadsUptoRow : OpenClaim := { program := "ytpodphfdoonidaadoor", sum := "50c769aef47ff217f96ae7225b801589bbee036d413b704b1f61d72cc3612f14", func := "clevis/clevislaw02.LebReads", spec := "lebReads", inPlace := ["internal/reflectlite.ValueOf", "(internal/reflectlite.Value).Type", "(internal/reflectlite.Value).IsNil", "internal/reflectlite.TypeOf", "(internal/reflectlite.Value).Elem", "(internal/reflectlite.Value).Set"], unfollowed := true, recurses := true, named := ["errors.errorType"], apart := false, laid := [("errors.errorType", laid_errors_errorType)], narrowed := true }
def LebReadsUptoSaid : Prop := lebReadsUptoRow.holds Tryd.pinned (OpenSpec.upto lebReadsSpec)

/-- 'clevislaw02.LebNil', WHERE WHAT IT READS IS OF BULK AT MOST 1048576: true; the input reads as it did. -/
def lebNilUptoRow : OpenClaim := { program := "ytpodphfdoonidaadoor", sum := "50c769aef47ff217f96ae7225b801589bbee036d413b704b1f61d72cc3612f14", func := "clevis/clevislaw02.LebNil", spec := "lebNil", inPlace := ["internal/reflectlite.ValueOf", "(internal/reflectlite.Value).Type", "(internal/reflectlite.Value).IsNil", "internal/reflectlite.TypeOf", "(internal/reflectlite.Value).Elem", "(internal/reflectlite.Value).Set"], unfollowed := true, recurses := true, named := ["errors.errorType"], apart := false, laid := [("errors.errorType", laid_errors_errorType)], narrowed := true }
def LebNilUptoSaid : Prop := lebNilUptoRow.holds Tryd.pinned (OpenSpec.upto lebNilSpec)

/-- 'clevislaw02.LebOrder', WHERE WHAT IT READS IS OF BULK AT MOST 1048576: true; the input reads as it did. -/
def lebOrderUptoRow : OpenClaim := { program := "ytpodphfdoonidaadoor", sum := "50c769aef47ff217f96ae7225b801589bbee036d413b704b1f61d72cc3612f14", func := "clevis/clevislaw02.LebOrder", spec := "lebOrder", inPlace := ["internal/reflectlite.ValueOf", "(internal/reflectlite.Value).Type", "(internal/reflectlite.Value).IsNil", "internal/reflectlite.TypeOf", "(internal/reflectlite.Value).Elem", "(internal/reflectlite.Value).Set"], unfollowed := true, recurses := true, named := ["errors.errorType"], apart := false, laid := [("errors.errorType", laid_errors_errorType)], narrowed := true }
def LebOrderUptoSaid : Prop := lebOrderUptoRow.holds Tryd.pinned (OpenSpec.upto lebOrderSpec)

/-- 'clevislaw02.LebPuts', WHERE WHAT IT READS IS OF BULK AT MOST 1048576: true; the input reads as it did. -/
def lebPutsUptoRow : OpenClaim := { program := "ytpodphfdoonidaadoor", sum := "50c769aef47ff217f96ae7225b801589bbee036d413b704b1f61d72cc3612f14", func := "clevis/clevislaw02.LebPuts", spec := "lebPuts", inPlace := ["internal/reflectlite.ValueOf", "(internal/reflectlite.Value).Type", "(internal/reflectlite.Value).IsNil", "internal/reflectlite.TypeOf", "(internal/reflectlite.Value).Elem", "(internal/reflectlite.Value).Set"], unfollowed := true, recurses := true, named := ["errors.errorType"], apart := false, laid := [("errors.errorType", laid_errors_errorType)], narrowed := true }
def LebPutsUptoSaid : Prop := lebPutsUptoRow.holds Tryd.pinned (OpenSpec.upto lebPutsSpec)

/-- 'clevislaw02.LebPads', WHERE WHAT IT READS IS OF BULK AT MOST 1048576: true; the input reads as it did. -/
def lebPadsUptoRow : OpenClaim := { program := "ytpodphfdoonidaadoor", sum := "50c769aef47ff217f96ae7225b801589bbee036d413b704b1f61d72cc3612f14", func := "clevis/clevislaw02.LebPads", spec := "lebPads", inPlace := ["internal/reflectlite.ValueOf", "(internal/reflectlite.Value).Type", "(internal/reflectlite.Value).IsNil", "internal/reflectlite.TypeOf", "(internal/reflectlite.Value).Elem", "(internal/reflectlite.Value).Set"], unfollowed := true, recurses := true, named := ["errors.errorType"], apart := false, laid := [("errors.errorType", laid_errors_errorType)], narrowed := true }
def LebPadsUptoSaid : Prop := lebPadsUptoRow.holds Tryd.pinned (OpenSpec.upto lebPadsSpec)

/-- 'clevislaw02.LebRows', WHERE WHAT IT READS IS OF BULK AT MOST 1048576: true; the input reads as it did. -/
def lebRowsUptoRow : OpenClaim := { program := "ytpodphfdoonidaadoor", sum := "50c769aef47ff217f96ae7225b801589bbee036d413b704b1f61d72cc3612f14", func := "clevis/clevislaw02.LebRows", spec := "lebRows", inPlace := ["internal/reflectlite.ValueOf", "(internal/reflectlite.Value).Type", "(internal/reflectlite.Value).IsNil", "internal/reflectlite.TypeOf", "(internal/reflectlite.Value).Elem", "(internal/reflectlite.Value).Set"], unfollowed := true, recurses := true, named := ["errors.errorType"], apart := false, laid := [("errors.errorType", laid_errors_errorType)], narrowed := true }
def LebRowsUptoSaid : Prop := lebRowsUptoRow.holds Tryd.pinned (OpenSpec.upto lebRowsSpec)

/-- 'clevislaw01.CursorNumbers', WHERE WHAT IT READS IS OF BULK AT MOST 1048576: true; the input reads as it did. -/
def cursorNumbersUptoRow : OpenClaim := { program := "ytpodphfdoonidaadoor", sum := "50c769aef47ff217f96ae7225b801589bbee036d413b704b1f61d72cc3612f14", func := "clevis/clevislaw01.CursorNumbers", spec := "cursorNumbers", inPlace := ["internal/reflectlite.ValueOf", "(internal/reflectlite.Value).Type", "(internal/reflectlite.Value).IsNil", "internal/reflectlite.TypeOf", "(internal/reflectlite.Value).Elem", "(internal/reflectlite.Value).Set", "internal/bytealg.IndexByte"], unfollowed := true, recurses := true, named := ["errors.errorType"], apart := false, laid := [("errors.errorType", laid_errors_errorType)], narrowed := true }
def CursorNumbersUptoSaid : Prop := cursorNumbersUptoRow.holds Tryd.pinned (OpenSpec.upto cursorNumbersSpec)

/-- 'clevislaw01.CursorCuts', WHERE WHAT IT READS IS OF BULK AT MOST 1048576: true; the input reads as it did. -/
def cursorCutsUptoRow : OpenClaim := { program := "ytpodphfdoonidaadoor", sum := "50c769aef47ff217f96ae7225b801589bbee036d413b704b1f61d72cc3612f14", func := "clevis/clevislaw01.CursorCuts", spec := "cursorCuts", inPlace := ["internal/bytealg.IndexByte", "internal/reflectlite.ValueOf", "(internal/reflectlite.Value).Type", "(internal/reflectlite.Value).IsNil", "internal/reflectlite.TypeOf", "(internal/reflectlite.Value).Elem", "(internal/reflectlite.Value).Set"], unfollowed := true, recurses := true, named := ["errors.errorType"], apart := false, laid := [("errors.errorType", laid_errors_errorType)], narrowed := true }
def CursorCutsUptoSaid : Prop := cursorCutsUptoRow.holds Tryd.pinned (OpenSpec.upto cursorCutsSpec)

/-- 'clevislaw01.CursorSums', WHERE WHAT IT READS IS OF BULK AT MOST 1048576: true; the input reads as it did. -/
def cursorSumsUptoRow : OpenClaim := { program := "ytpodphfdoonidaadoor", sum := "50c769aef47ff217f96ae7225b801589bbee036d413b704b1f61d72cc3612f14", func := "clevis/clevislaw01.CursorSums", spec := "cursorSums", inPlace := ["math/bits.Add64", "internal/bytealg.IndexByte", "internal/reflectlite.ValueOf", "(internal/reflectlite.Value).Type", "(internal/reflectlite.Value).IsNil", "internal/reflectlite.TypeOf", "(internal/reflectlite.Value).Elem", "(internal/reflectlite.Value).Set"], unfollowed := true, recurses := true, named := ["errors.errorType"], apart := false, laid := [("errors.errorType", laid_errors_errorType)], narrowed := true }
def CursorSumsUptoSaid : Prop := cursorSumsUptoRow.holds Tryd.pinned (OpenSpec.upto cursorSumsSpec)

/-- 'clevislaw01.CursorCodes', WHERE WHAT IT READS IS OF BULK AT MOST 1048576: true; the input reads as it did. -/
def cursorCodesUptoRow : OpenClaim := { program := "ytpodphfdoonidaadoor", sum := "50c769aef47ff217f96ae7225b801589bbee036d413b704b1f61d72cc3612f14", func := "clevis/clevislaw01.CursorCodes", spec := "cursorCodes", inPlace := ["internal/bytealg.IndexByte", "internal/reflectlite.ValueOf", "(internal/reflectlite.Value).Type", "(internal/reflectlite.Value).IsNil", "internal/reflectlite.TypeOf", "(internal/reflectlite.Value).Elem", "(internal/reflectlite.Value).Set"], unfollowed := true, recurses := true, named := ["errors.errorType", "internal/strconv.uint64pow10", "math/bits.deBruijn32tab", "math/bits.deBruijn64tab"], apart := false, laid := [("math/bits.deBruijn32tab", laid_math_bits_deBruijn32tab), ("math/bits.deBruijn64tab", laid_math_bits_deBruijn64tab), ("internal/strconv.uint64pow10", laid_internal_strconv_uint64pow10), ("errors.errorType", laid_errors_errorType)], narrowed := true }
def CursorCodesUptoSaid : Prop := cursorCodesUptoRow.holds Tryd.pinned (OpenSpec.upto cursorCodesSpec)

/-- 'clevislaw01.CursorNil', WHERE WHAT IT READS IS OF BULK AT MOST 1048576: true; the input reads as it did. -/
def cursorNilUptoRow : OpenClaim := { program := "ytpodphfdoonidaadoor", sum := "50c769aef47ff217f96ae7225b801589bbee036d413b704b1f61d72cc3612f14", func := "clevis/clevislaw01.CursorNil", spec := "cursorNil", inPlace := ["internal/bytealg.IndexByte", "internal/bytealg.Index", "internal/reflectlite.ValueOf", "(internal/reflectlite.Value).Type", "(internal/reflectlite.Value).IsNil", "internal/reflectlite.TypeOf", "(internal/reflectlite.Value).Elem", "(internal/reflectlite.Value).Set"], unfollowed := true, recurses := true, named := ["internal/bytealg.MaxLen", "errors.errorType"], apart := false, laid := [("errors.errorType", laid_errors_errorType)], narrowed := true }
def CursorNilUptoSaid : Prop := cursorNilUptoRow.holds Tryd.pinned (OpenSpec.upto cursorNilSpec)

/-- 'clevislaw01.CursorPlays', WHERE WHAT IT READS IS OF BULK AT MOST 1048576: true; the input reads as it did. -/
def cursorPlaysUptoRow : OpenClaim := { program := "ytpodphfdoonidaadoor", sum := "50c769aef47ff217f96ae7225b801589bbee036d413b704b1f61d72cc3612f14", func := "clevis/clevislaw01.CursorPlays", spec := "cursorPlays", inPlace := ["internal/bytealg.IndexByte", "internal/reflectlite.ValueOf", "(internal/reflectlite.Value).Type", "(internal/reflectlite.Value).IsNil", "internal/reflectlite.TypeOf", "(internal/reflectlite.Value).Elem", "(internal/reflectlite.Value).Set", "internal/bytealg.Index"], unfollowed := true, recurses := true, named := ["errors.errorType", "internal/bytealg.MaxLen"], apart := false, laid := [("errors.errorType", laid_errors_errorType)], narrowed := true }
def CursorPlaysUptoSaid : Prop := cursorPlaysUptoRow.holds Tryd.pinned (OpenSpec.upto cursorPlaysSpec)

end Rows
end Go.Proofs.YtpodphfdoonidaaDoor
