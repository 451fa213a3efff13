/-
  NARROWER THAN 'FOR EVERY INPUT', by the rows' own cells (each row's printed sentence says how): CommandLong: laid · FatReads: laid · FatPicks: laid · FatShort: laid · CommandShort: laid · CommandReads: laid · CommandMany: laid · FatMakes: laid · FatLimits: laid · FixupRuns: laid.
  DERIVED. THE GIVEN ROWS OF THIS SEAT. 10 by the template 'for every input the law returns true; each argument reads behind the call as it read before'; 0 by the template 'total and deterministic' (their statements: YtchkombikjcokaaDoorTotals.lean).
  GIVEN WITH THE SEED: the statements are not yours to turn. If you find one false, say at which input.
  Laid BY PROGRAM, IN A SANDBOX (cutbox-rows.mjs): the forced cells as the released guide's own fill.sh prints them over the translation 703c400c8d82bf81… (all of the seat's roots in one cut). By AI agents, Wed Nov 11 2026. No macro, syntax, notation, axiom, sorry.
-/
import Derived.Test.YtchkombikjcokaaDoorChecked
import GoSem.Claim
import GoSem.ClaimJoined
import GoSem.ClaimMapViews
import Derived.JoinedTies
import Derived.KernelRfl
namespace Go.Proofs.YtchkombikjcokaaDoor
/- THE CELL 'sum', in the pinned program and in every row, IS THE sha256 OF THE DUMP (.gsa) THAT YtchkombikjcokaaDoorProg.lean LOADS. Nothing in Lean hashes anything: it is a label: what it is worth is what the hold of that sum in a sandbox is worth. -/
noncomputable def Tryd.pinned : Pinned := { name := "ytchkombikjcokaadoor", sum := "703c400c8d82bf812d45ff005071616892816d3b6718b6d57ca77c3fe19ac4b2", checked := Tryd.checked }
namespace Rows
def none {H : Type} : Left H := { results := [], args := [] }

/- WHAT THE LISTED PACKAGE-LEVEL VARIABLES READ AS WHEN THE CALL BEGINS. Each datum BY PROGRAM (the guide's laid-datum.mjs) off the statement by which the dump's own 'gosem.cut.vars' lays the variable. In a bare row this is a premise. The card (YtchkombikjcokaaDoorCards.lean) ties it to the program's text. -/
def laid_errors_errorType {H : Type} : DataW H := .iface "internal/reflectlite.rtype" (.agg [.ptr (.lit (.string [101, 114, 114, 111, 114]))])
def laid_math_bits_deBruijn32tab {H : Type} : DataW H := .agg [.lit (.int .u8 0), .lit (.int .u8 1), .lit (.int .u8 28), .lit (.int .u8 2), .lit (.int .u8 29), .lit (.int .u8 14), .lit (.int .u8 24), .lit (.int .u8 3), .lit (.int .u8 30), .lit (.int .u8 22), .lit (.int .u8 20), .lit (.int .u8 15), .lit (.int .u8 25), .lit (.int .u8 17), .lit (.int .u8 4), .lit (.int .u8 8), .lit (.int .u8 31), .lit (.int .u8 27), .lit (.int .u8 13), .lit (.int .u8 23), .lit (.int .u8 21), .lit (.int .u8 19), .lit (.int .u8 16), .lit (.int .u8 7), .lit (.int .u8 26), .lit (.int .u8 12), .lit (.int .u8 18), .lit (.int .u8 6), .lit (.int .u8 11), .lit (.int .u8 5), .lit (.int .u8 10), .lit (.int .u8 9)]
def laid_math_bits_deBruijn64tab {H : Type} : DataW H := .agg [.lit (.int .u8 0), .lit (.int .u8 1), .lit (.int .u8 56), .lit (.int .u8 2), .lit (.int .u8 57), .lit (.int .u8 49), .lit (.int .u8 28), .lit (.int .u8 3), .lit (.int .u8 61), .lit (.int .u8 58), .lit (.int .u8 42), .lit (.int .u8 50), .lit (.int .u8 38), .lit (.int .u8 29), .lit (.int .u8 17), .lit (.int .u8 4), .lit (.int .u8 62), .lit (.int .u8 47), .lit (.int .u8 59), .lit (.int .u8 36), .lit (.int .u8 45), .lit (.int .u8 43), .lit (.int .u8 51), .lit (.int .u8 22), .lit (.int .u8 53), .lit (.int .u8 39), .lit (.int .u8 33), .lit (.int .u8 30), .lit (.int .u8 24), .lit (.int .u8 18), .lit (.int .u8 12), .lit (.int .u8 5), .lit (.int .u8 63), .lit (.int .u8 55), .lit (.int .u8 48), .lit (.int .u8 27), .lit (.int .u8 60), .lit (.int .u8 41), .lit (.int .u8 37), .lit (.int .u8 16), .lit (.int .u8 46), .lit (.int .u8 35), .lit (.int .u8 44), .lit (.int .u8 21), .lit (.int .u8 52), .lit (.int .u8 32), .lit (.int .u8 23), .lit (.int .u8 11), .lit (.int .u8 54), .lit (.int .u8 26), .lit (.int .u8 40), .lit (.int .u8 15), .lit (.int .u8 34), .lit (.int .u8 20), .lit (.int .u8 31), .lit (.int .u8 10), .lit (.int .u8 25), .lit (.int .u8 14), .lit (.int .u8 19), .lit (.int .u8 9), .lit (.int .u8 13), .lit (.int .u8 8), .lit (.int .u8 7), .lit (.int .u8 6)]
def laid_internal_strconv_uint64pow10 {H : Type} : DataW H := .agg [.lit (.int .u64 1), .lit (.int .u64 10), .lit (.int .u64 100), .lit (.int .u64 1000), .lit (.int .u64 10000), .lit (.int .u64 100000), .lit (.int .u64 1000000), .lit (.int .u64 10000000), .lit (.int .u64 100000000), .lit (.int .u64 1000000000), .lit (.int .u64 10000000000), .lit (.int .u64 100000000000), .lit (.int .u64 1000000000000), .lit (.int .u64 10000000000000), .lit (.int .u64 100000000000000), .lit (.int .u64 1000000000000000), .lit (.int .u64 10000000000000000), .lit (.int .u64 100000000000000000), .lit (.int .u64 1000000000000000000), .lit (.int .u64 10000000000000000000)]

/-- 'clevislaw04.CommandLong': WHATEVER THE INPUT: true; the input reads as it did. -/
def commandLongSpec : ChangeSpec := { name := "commandLong", fn := fun _ => fun
  | [d1, d2] => { results := [.lit (.bool true)], args := [d1, d2] }
  | _ => none }
def commandLongRow : OpenClaim := { program := "ytchkombikjcokaadoor", sum := "703c400c8d82bf812d45ff005071616892816d3b6718b6d57ca77c3fe19ac4b2", func := "clevis/clevislaw04.CommandLong", spec := "commandLong", inPlace := ["internal/reflectlite.ValueOf", "(internal/reflectlite.Value).Type", "(internal/reflectlite.Value).IsNil", "internal/reflectlite.TypeOf", "(internal/reflectlite.Value).Elem", "(internal/reflectlite.Value).Set"], unfollowed := true, recurses := true, named := ["errors.errorType"], apart := false, laid := [("errors.errorType", laid_errors_errorType)] }
def CommandLongSaid : Prop := commandLongRow.holds Tryd.pinned (OpenSpec.ofChange commandLongSpec)

/-- ITS FALSE NEIGHBOUR: 'it returns false'. Refute it at one input. -/
def commandLongWrong : ChangeSpec := { name := "commandLong", fn := fun _ => fun
  | [d1, d2] => { results := [.lit (.bool false)], args := [d1, d2] }
  | _ => none }
def CommandLongWrongFalsely : Prop := commandLongRow.holds Tryd.pinned (OpenSpec.ofChange commandLongWrong)

/-- 'clevislaw03.FatReads': WHATEVER THE INPUT: true; the input reads as it did. -/
def fatReadsSpec : ChangeSpec := { name := "fatReads", fn := fun _ => fun
  | [d1, d2] => { results := [.lit (.bool true)], args := [d1, d2] }
  | _ => none }
def fatReadsRow : OpenClaim := { program := "ytchkombikjcokaadoor", sum := "703c400c8d82bf812d45ff005071616892816d3b6718b6d57ca77c3fe19ac4b2", func := "clevis/clevislaw03.FatReads", spec := "fatReads", inPlace := ["internal/reflectlite.ValueOf", "(internal/reflectlite.Value).Type", "(internal/reflectlite.Value).IsNil", "internal/reflectlite.TypeOf", "(internal/reflectlite.Value).Elem", "(internal/reflectlite.Value).Set", "math/bits.Add64"], unfollowed := true, recurses := true, named := ["errors.errorType"], apart := false, laid := [("errors.errorType", laid_errors_errorType)] }
def FatReadsSaid : Prop := fatReadsRow.holds Tryd.pinned (OpenSpec.ofChange fatReadsSpec)

/-- ITS FALSE NEIGHBOUR: 'it returns false'. Refute it at one input. -/
def fatReadsWrong : ChangeSpec := { name := "fatReads", fn := fun _ => fun
  | [d1, d2] => { results := [.lit (.bool false)], args := [d1, d2] }
  | _ => none }
def FatReadsWrongFalsely : Prop := fatReadsRow.holds Tryd.pinned (OpenSpec.ofChange fatReadsWrong)

/-- 'clevislaw03.FatPicks': WHATEVER THE INPUT: true; the input reads as it did. -/
def fatPicksSpec : ChangeSpec := { name := "fatPicks", fn := fun _ => fun
  | [d1, d2] => { results := [.lit (.bool true)], args := [d1, d2] }
  | _ => none }
def fatPicksRow : OpenClaim := { program := "ytchkombikjcokaadoor", sum := "703c400c8d82bf812d45ff005071616892816d3b6718b6d57ca77c3fe19ac4b2", func := "clevis/clevislaw03.FatPicks", spec := "fatPicks", inPlace := ["internal/reflectlite.ValueOf", "(internal/reflectlite.Value).Type", "(internal/reflectlite.Value).IsNil", "internal/reflectlite.TypeOf", "(internal/reflectlite.Value).Elem", "(internal/reflectlite.Value).Set", "math/bits.Add64"], unfollowed := true, recurses := true, named := ["errors.errorType"], apart := false, laid := [("errors.errorType", laid_errors_errorType)] }
def FatPicksSaid : Prop := fatPicksRow.holds Tryd.pinned (OpenSpec.ofChange fatPicksSpec)

/-- ITS FALSE NEIGHBOUR: 'it returns false'. Refute it at one input. -/
def fatPicksWrong : ChangeSpec := { name := "fatPicks", fn := fun _ => fun
  | [d1, d2] => { results := [.lit (.bool false)], args := [d1, d2] }
  | _ => none }
def FatPicksWrongFalsely : Prop := fatPicksRow.holds Tryd.pinned (OpenSpec.ofChange fatPicksWrong)

/-- 'clevislaw03.FatShort': WHATEVER THE INPUT: true; the input reads as it did. -/
def fatShortSpec : ChangeSpec := { name := "fatShort", fn := fun _ => fun
  | [d1, d2, d3, d4] => { results := [.lit (.bool true)], args := [d1, d2, d3, d4] }
  | _ => none }
def fatShortRow : OpenClaim := { program := "ytchkombikjcokaadoor", sum := "703c400c8d82bf812d45ff005071616892816d3b6718b6d57ca77c3fe19ac4b2", func := "clevis/clevislaw03.FatShort", spec := "fatShort", inPlace := ["internal/reflectlite.ValueOf", "(internal/reflectlite.Value).Type", "(internal/reflectlite.Value).IsNil", "internal/reflectlite.TypeOf", "(internal/reflectlite.Value).Elem", "(internal/reflectlite.Value).Set", "math/bits.Add64"], unfollowed := true, recurses := true, named := ["errors.errorType"], apart := false, laid := [("errors.errorType", laid_errors_errorType)] }
def FatShortSaid : Prop := fatShortRow.holds Tryd.pinned (OpenSpec.ofChange fatShortSpec)

/-- ITS FALSE NEIGHBOUR: 'it returns false'. Refute it at one input. -/
def fatShortWrong : ChangeSpec := { name := "fatShort", fn := fun _ => fun
  | [d1, d2, d3, d4] => { results := [.lit (.bool false)], args := [d1, d2, d3, d4] }
  | _ => none }
def FatShortWrongFalsely : Prop := fatShortRow.holds Tryd.pinned (OpenSpec.ofChange fatShortWrong)

/-- 'clevislaw04.CommandShort': WHATEVER THE INPUT: true; the input reads as it did. -/
def commandShortSpec : ChangeSpec := { name := "commandShort", fn := fun _ => fun
  | [d1, d2, d3] => { results := [.lit (.bool true)], args := [d1, d2, d3] }
  | _ => none }
def commandShortRow : OpenClaim := { program := "ytchkombikjcokaadoor", sum := "703c400c8d82bf812d45ff005071616892816d3b6718b6d57ca77c3fe19ac4b2", func := "clevis/clevislaw04.CommandShort", spec := "commandShort", inPlace := ["internal/reflectlite.ValueOf", "(internal/reflectlite.Value).Type", "(internal/reflectlite.Value).IsNil", "internal/reflectlite.TypeOf", "(internal/reflectlite.Value).Elem", "(internal/reflectlite.Value).Set"], unfollowed := true, recurses := true, named := ["errors.errorType"], apart := false, laid := [("errors.errorType", laid_errors_errorType)] }
def CommandShortSaid : Prop := commandShortRow.holds Tryd.pinned (OpenSpec.ofChange commandShortSpec)

/-- ITS FALSE NEIGHBOUR: 'it returns false'. Refute it at one input. -/
def commandShortWrong : ChangeSpec := { name := "commandShort", fn := fun _ => fun
  | [d1, d2, d3] => { results := [.lit (.bool false)], args := [d1, d2, d3] }
  | _ => none }
def CommandShortWrongFalsely : Prop := commandShortRow.holds Tryd.pinned (OpenSpec.ofChange commandShortWrong)

/-- 'clevislaw04.CommandReads': WHATEVER THE INPUT: true; the input reads as it did. -/
def commandReadsSpec : ChangeSpec := { name := "commandReads", fn := fun _ => fun
  | [d] => { results := [.lit (.bool true)], args := [d] }
  | _ => none }
def commandReadsRow : OpenClaim := { program := "ytchkombikjcokaadoor", sum := "703c400c8d82bf812d45ff005071616892816d3b6718b6d57ca77c3fe19ac4b2", func := "clevis/clevislaw04.CommandReads", spec := "commandReads", inPlace := ["internal/reflectlite.ValueOf", "(internal/reflectlite.Value).Type", "(internal/reflectlite.Value).IsNil", "internal/reflectlite.TypeOf", "(internal/reflectlite.Value).Elem", "(internal/reflectlite.Value).Set"], unfollowed := true, recurses := true, named := ["errors.errorType"], apart := false, laid := [("errors.errorType", laid_errors_errorType)] }
def CommandReadsSaid : Prop := commandReadsRow.holds Tryd.pinned (OpenSpec.ofChange commandReadsSpec)

/-- ITS FALSE NEIGHBOUR: 'it returns false'. Refute it at one input. -/
def commandReadsWrong : ChangeSpec := { name := "commandReads", fn := fun _ => fun
  | [d] => { results := [.lit (.bool false)], args := [d] }
  | _ => none }
def CommandReadsWrongFalsely : Prop := commandReadsRow.holds Tryd.pinned (OpenSpec.ofChange commandReadsWrong)

/-- 'clevislaw04.CommandMany': WHATEVER THE INPUT: true; the input reads as it did. -/
def commandManySpec : ChangeSpec := { name := "commandMany", fn := fun _ => fun
  | [d1, d2, d3] => { results := [.lit (.bool true)], args := [d1, d2, d3] }
  | _ => none }
def commandManyRow : OpenClaim := { program := "ytchkombikjcokaadoor", sum := "703c400c8d82bf812d45ff005071616892816d3b6718b6d57ca77c3fe19ac4b2", func := "clevis/clevislaw04.CommandMany", spec := "commandMany", inPlace := ["internal/reflectlite.ValueOf", "(internal/reflectlite.Value).Type", "(internal/reflectlite.Value).IsNil", "internal/reflectlite.TypeOf", "(internal/reflectlite.Value).Elem", "(internal/reflectlite.Value).Set"], unfollowed := true, recurses := true, named := ["errors.errorType"], apart := false, laid := [("errors.errorType", laid_errors_errorType)] }
def CommandManySaid : Prop := commandManyRow.holds Tryd.pinned (OpenSpec.ofChange commandManySpec)

/-- ITS FALSE NEIGHBOUR: 'it returns false'. Refute it at one input. -/
def commandManyWrong : ChangeSpec := { name := "commandMany", fn := fun _ => fun
  | [d1, d2, d3] => { results := [.lit (.bool false)], args := [d1, d2, d3] }
  | _ => none }
def CommandManyWrongFalsely : Prop := commandManyRow.holds Tryd.pinned (OpenSpec.ofChange commandManyWrong)

/-- 'clevislaw03.FatMakes': WHATEVER THE INPUT: true; the input reads as it did. -/
def fatMakesSpec : ChangeSpec := { name := "fatMakes", fn := fun _ => fun
  | [d1, d2, d3] => { results := [.lit (.bool true)], args := [d1, d2, d3] }
  | _ => none }
def fatMakesRow : OpenClaim := { program := "ytchkombikjcokaadoor", sum := "703c400c8d82bf812d45ff005071616892816d3b6718b6d57ca77c3fe19ac4b2", func := "clevis/clevislaw03.FatMakes", spec := "fatMakes", inPlace := ["internal/reflectlite.ValueOf", "(internal/reflectlite.Value).Type", "(internal/reflectlite.Value).IsNil", "internal/reflectlite.TypeOf", "(internal/reflectlite.Value).Elem", "(internal/reflectlite.Value).Set", "math/bits.Add64"], unfollowed := true, recurses := true, named := ["errors.errorType"], apart := false, laid := [("errors.errorType", laid_errors_errorType)] }
def FatMakesSaid : Prop := fatMakesRow.holds Tryd.pinned (OpenSpec.ofChange fatMakesSpec)

/-- ITS FALSE NEIGHBOUR: 'it returns false'. Refute it at one input. -/
def fatMakesWrong : ChangeSpec := { name := "fatMakes", fn := fun _ => fun
  | [d1, d2, d3] => { results := [.lit (.bool false)], args := [d1, d2, d3] }
  | _ => none }
def FatMakesWrongFalsely : Prop := fatMakesRow.holds Tryd.pinned (OpenSpec.ofChange fatMakesWrong)

/-- 'clevislaw03.FatLimits': WHATEVER THE INPUT: true; the input reads as it did. -/
def fatLimitsSpec : ChangeSpec := { name := "fatLimits", fn := fun _ => fun
  | [d1, d2, d3] => { results := [.lit (.bool true)], args := [d1, d2, d3] }
  | _ => none }
def fatLimitsRow : OpenClaim := { program := "ytchkombikjcokaadoor", sum := "703c400c8d82bf812d45ff005071616892816d3b6718b6d57ca77c3fe19ac4b2", func := "clevis/clevislaw03.FatLimits", spec := "fatLimits", inPlace := ["internal/reflectlite.ValueOf", "(internal/reflectlite.Value).Type", "(internal/reflectlite.Value).IsNil", "internal/reflectlite.TypeOf", "(internal/reflectlite.Value).Elem", "(internal/reflectlite.Value).Set", "math/bits.Add64"], unfollowed := true, recurses := true, named := ["errors.errorType"], apart := false, laid := [("errors.errorType", laid_errors_errorType)] }
def FatLimitsSaid : Prop := fatLimitsRow.holds Tryd.pinned (OpenSpec.ofChange fatLimitsSpec)

/-- ITS FALSE NEIGHBOUR: 'it returns false'. Refute it at one input. -/
def fatLimitsWrong : ChangeSpec := { name := "fatLimits", fn := fun _ => fun
  | [d1, d2, d3] => { results := [.lit (.bool false)], args := [d1, d2, d3] }
  | _ => none }
def FatLimitsWrongFalsely : Prop := fatLimitsRow.holds Tryd.pinned (OpenSpec.ofChange fatLimitsWrong)

/-- 'clevislaw12.FixupRuns': WHATEVER THE INPUT: true; the input reads as it did. -/
def fixupRunsSpec : ChangeSpec := { name := "fixupRuns", fn := fun _ => fun
  | [d1, d2, d3, d4] => { results := [.lit (.bool true)], args := [d1, d2, d3, d4] }
  | _ => none }
def fixupRunsRow : OpenClaim := { program := "ytchkombikjcokaadoor", sum := "703c400c8d82bf812d45ff005071616892816d3b6718b6d57ca77c3fe19ac4b2", func := "clevis/clevislaw12.FixupRuns", spec := "fixupRuns", inPlace := ["internal/bytealg.IndexByteString", "internal/bytealg.IndexString", "internal/abi.NoEscape", "internal/bytealg.MakeNoZero"], named := ["internal/bytealg.MaxLen", "internal/strconv.uint64pow10", "math/bits.deBruijn32tab", "math/bits.deBruijn64tab"], apart := false, laid := [("math/bits.deBruijn32tab", laid_math_bits_deBruijn32tab), ("math/bits.deBruijn64tab", laid_math_bits_deBruijn64tab), ("internal/strconv.uint64pow10", laid_internal_strconv_uint64pow10)] }
def FixupRunsSaid : Prop := fixupRunsRow.holds Tryd.pinned (OpenSpec.ofChange fixupRunsSpec)

/-- ITS FALSE NEIGHBOUR: 'it returns false'. Refute it at one input. -/
def fixupRunsWrong : ChangeSpec := { name := "fixupRuns", fn := fun _ => fun
  | [d1, d2, d3, d4] => { results := [.lit (.bool false)], args := [d1, d2, d3, d4] }
  | _ => none }
def FixupRunsWrongFalsely : Prop := fixupRunsRow.holds Tryd.pinned (OpenSpec.ofChange fixupRunsWrong)

/- THE SECOND FORM. 'bulk': how many values and letters a reading holds, each counted each time it is reached (what is shared counts as often as it is met; a slice's spare places count too). A statement '..UptoSaid' is the law's where the arguments, and the package variables that the reading takes, are together of bulk at most 1048576: NARROWER than '..Said'. Prove '..Said' where nothing that the law and all that it calls make is longer than what came in: it says more and counts as full. Else prove '..UptoSaid'. A law counts once. -/
mutual
def uptoBulk {H : Type} : DataW H → Nat
  | .lit (.string bytes) => bytes.length + 1
  | .lit _ => 1
  | .nil => 1
  | .ptr d => uptoBulk d + 1
  | .slice elems spare => uptoBulkAll elems + uptoBulkAll spare + 1
  | .agg parts => uptoBulkAll parts + 1
  | .iface _ d => uptoBulk d + 1
  | .map entries => uptoBulkEntries entries + 1
  | .held _ => 1
def uptoBulkAll {H : Type} : List (DataW H) → Nat
  | [] => 0
  | d :: r => uptoBulk d + uptoBulkAll r
def uptoBulkEntries {H : Type} : List (Lit × DataW H) → Nat
  | [] => 0
  | x :: r => uptoBulkEntry x + uptoBulkEntries r
def uptoBulkEntry {H : Type} : Lit × DataW H → Nat
  | (.string bytes, d) => bytes.length + uptoBulk d + 1
  | (_, d) => uptoBulk d + 1
 end
def uptoSmall : (H : Type) → List (DataW H) → Bool := fun _ ds => decide (uptoBulkAll ds ≤ 1048576)
def OpenSpec.upto (s : _root_.Go.ChangeSpec) : _root_.Go.OpenSpec := { _root_.Go.OpenSpec.ofChange s with cond := some uptoSmall }

/-- 'clevislaw04.CommandLong', WHERE WHAT IT READS IS OF BULK AT MOST 1048576: true; the input reads as it did. -/
def commandLongUptoRow : OpenClaim := { program := "ytchkombikjcokaadoor", sum := "703c400c8d82bf812d45ff005071616892816d3b6718b6d57ca77c3fe19ac4b2", func := "clevis/clevislaw04.CommandLong", spec := "commandLong", inPlace := ["internal/reflectlite.ValueOf", "(internal/reflectlite.Value).Type", "(internal/reflectlite.Value).IsNil", "internal/reflectlite.TypeOf", "(internal/reflectlite.Value).Elem", "(internal/reflectlite.Value).Set"], unfollowed := true, recurses := true, named := ["errors.errorType"], apart := false, laid := [("errors.errorType", laid_errors_errorType)], narrowed := true }
def CommandLongUptoSaid : Prop := commandLongUptoRow.holds Tryd.pinned (OpenSpec.upto commandLongSpec)

/-- 'clevislaw03.FatReads', WHERE WHAT IT READS IS OF BULK AT MOST 1048576: true; the input reads as it did. -/
def fatReadsUptoRow : OpenClaim := { program := "ytchkombikjcokaadoor", sum := "703c400c8d82bf812d45ff005071616892816d3b6718b6d57ca77c3fe19ac4b2", func := "clevis/clevislaw03.FatReads", spec := "fatReads", inPlace := ["internal/reflectlite.ValueOf", "(internal/reflectlite.Value).Type", "(internal/reflectlite.Value).IsNil", "internal/reflectlite.TypeOf", "(internal/reflectlite.Value).Elem", "(internal/reflectlite.Value).Set", "math/bits.Add64"], unfollowed := true, recurses := true, named := ["errors.errorType"], apart := false, laid := [("errors.errorType", laid_errors_errorType)], narrowed := true }
def FatReadsUptoSaid : Prop := fatReadsUptoRow.holds Tryd.pinned (OpenSpec.upto fatReadsSpec)

/-- 'clevislaw03.FatPicks', WHERE WHAT IT READS IS OF BULK AT MOST 1048576: true; the input reads as it did. -/
def fatPicksUptoRow : OpenClaim := { program := "ytchkombikjcokaadoor", sum := "703c400c8d82bf812d45ff005071616892816d3b6718b6d57ca77c3fe19ac4b2", func := "clevis/clevislaw03.FatPicks", spec := "fatPicks", inPlace := ["internal/reflectlite.ValueOf", "(internal/reflectlite.Value).Type", "(internal/reflectlite.Value).IsNil", "internal/reflectlite.TypeOf", "(internal/reflectlite.Value).Elem", "(internal/reflectlite.Value).Set", "math/bits.Add64"], unfollowed := true, recurses := true, named := ["errors.errorType"], apart := false, laid := [("errors.errorType", laid_errors_errorType)], narrowed := true }
def FatPicksUptoSaid : Prop := fatPicksUptoRow.holds Tryd.pinned (OpenSpec.upto fatPicksSpec)

/-- 'clevislaw03.FatShort', WHERE WHAT IT READS IS OF BULK AT MOST 1048576: true; the input reads as it did. -/
def fatShortUptoRow : OpenClaim := { program := "ytchkombikjcokaadoor", sum := "703c400c8d82bf812d45ff005071616892816d3b6718b6d57ca77c3fe19ac4b2", func := "clevis/clevislaw03.FatShort", spec := "fatShort", inPlace := ["internal/reflectlite.ValueOf", "(internal/reflectlite.Value).Type", "(internal/reflectlite.Value).IsNil", "internal/reflectlite.TypeOf", "(internal/reflectlite.Value).Elem", "(internal/reflectlite.Value).Set", "math/bits.Add64"], unfollowed := true, recurses := true, named := ["errors.errorType"], apart := false, laid := [("errors.errorType", laid_errors_errorType)], narrowed := true }
def FatShortUptoSaid : Prop := fatShortUptoRow.holds Tryd.pinned (OpenSpec.upto fatShortSpec)

/-- 'clevislaw04.CommandShort', WHERE WHAT IT READS IS OF BULK AT MOST 1048576: true; the input reads as it did. -/
def commandShortUptoRow : OpenClaim := { program := "ytchkombikjcokaadoor", sum := "703c400c8d82bf812d45ff005071616892816d3b6718b6d57ca77c3fe19ac4b2", func := "clevis/clevislaw04.CommandShort", spec := "commandShort", inPlace := ["internal/reflectlite.ValueOf", "(internal/reflectlite.Value).Type", "(internal/reflectlite.Value).IsNil", "internal/reflectlite.TypeOf", "(internal/reflectlite.Value).Elem", "(internal/reflectlite.Value).Set"], unfollowed := true, recurses := true, named := ["errors.errorType"], apart := false, laid := [("errors.errorType", laid_errors_errorType)], narrowed := true }
def CommandShortUptoSaid : Prop := commandShortUptoRow.holds Tryd.pinned (OpenSpec.upto commandShortSpec)

/-- 'clevislaw04.CommandReads', WHERE WHAT IT READS IS OF BULK AT MOST 1048576: true; the input reads as it did. -/
def commandReadsUptoRow : OpenClaim := { program := "ytchkombikjcokaadoor", sum := "703c400c8d82bf812d45ff005071616892816d3b6718b6d57ca77c3fe19ac4b2", func := "clevis/clevislaw04.CommandReads", spec := "commandReads", inPlace := ["internal/reflectlite.ValueOf", "(internal/reflectlite.Value).Type", "(internal/reflectlite.Value).IsNil", "internal/reflectlite.TypeOf", "(internal/reflectlite.Value).Elem", "(internal/reflectlite.Value).Set"], unfollowed := true, recurses := true, named := ["errors.errorType"], apart := false, laid := [("errors.errorType", laid_errors_errorType)], narrowed := true }
def CommandReadsUptoSaid : Prop := commandReadsUptoRow.holds Tryd.pinned (OpenSpec.upto commandReadsSpec)

/-- 'clevislaw04.CommandMany', WHERE WHAT IT READS IS OF BULK AT MOST 1048576: true; the input reads as it did. -/
def commandManyUptoRow : OpenClaim := { program := "ytchkombikjcokaadoor", sum := "703c400c8d82bf812d45ff005071616892816d3b6718b6d57ca77c3fe19ac4b2", func := "clevis/clevislaw04.CommandMany", spec := "commandMany", inPlace := ["internal/reflectlite.ValueOf", "(internal/reflectlite.Value).Type", "(internal/reflectlite.Value).IsNil", "internal/reflectlite.TypeOf", "(internal/reflectlite.Value).Elem", "(internal/reflectlite.Value).Set"], unfollowed := true, recurses := true, named := ["errors.errorType"], apart := false, laid := [("errors.errorType", laid_errors_errorType)], narrowed := true }
def CommandManyUptoSaid : Prop := commandManyUptoRow.holds Tryd.pinned (OpenSpec.upto commandManySpec)

/-- 'clevislaw03.FatMakes', WHERE WHAT IT READS IS OF BULK AT MOST 1048576: true; the input reads as it did. -/
def fatMakesUptoRow : OpenClaim := { program := "ytchkombikjcokaadoor", sum := "703c400c8d82bf812d45ff005071616892816d3b6718b6d57ca77c3fe19ac4b2", func := "clevis/clevislaw03.FatMakes", spec := "fatMakes", inPlace := ["internal/reflectlite.ValueOf", "(internal/reflectlite.Value).Type", "(internal/reflectlite.Value).IsNil", "internal/reflectlite.TypeOf", "(internal/reflectlite.Value).Elem", "(internal/reflectlite.Value).Set", "math/bits.Add64"], unfollowed := true, recurses := true, named := ["errors.errorType"], apart := false, laid := [("errors.errorType", laid_errors_errorType)], narrowed := true }
def FatMakesUptoSaid : Prop := fatMakesUptoRow.holds Tryd.pinned (OpenSpec.upto fatMakesSpec)

/-- 'clevislaw03.FatLimits', WHERE WHAT IT READS IS OF BULK AT MOST 1048576: true; the input reads as it did. -/
def fatLimitsUptoRow : OpenClaim := { program := "ytchkombikjcokaadoor", sum := "703c400c8d82bf812d45ff005071616892816d3b6718b6d57ca77c3fe19ac4b2", func := "clevis/clevislaw03.FatLimits", spec := "fatLimits", inPlace := ["internal/reflectlite.ValueOf", "(internal/reflectlite.Value).Type", "(internal/reflectlite.Value).IsNil", "internal/reflectlite.TypeOf", "(internal/reflectlite.Value).Elem", "(internal/reflectlite.Value).Set", "math/bits.Add64"], unfollowed := true, recurses := true, named := ["errors.errorType"], apart := false, laid := [("errors.errorType", laid_errors_errorType)], narrowed := true }
def FatLimitsUptoSaid : Prop := fatLimitsUptoRow.holds Tryd.pinned (OpenSpec.upto fatLimitsSpec)

/-- 'clevislaw12.FixupRuns', WHERE WHAT IT READS IS OF BULK AT MOST 1048576: true; the input reads as it did. -/
def fixupRunsUptoRow : OpenClaim := { program := "ytchkombikjcokaadoor", sum := "703c400c8d82bf812d45ff005071616892816d3b6718b6d57ca77c3fe19ac4b2", func := "clevis/clevislaw12.FixupRuns", spec := "fixupRuns", inPlace := ["internal/bytealg.IndexByteString", "internal/bytealg.IndexString", "internal/abi.NoEscape", "internal/bytealg.MakeNoZero"], named := ["internal/bytealg.MaxLen", "internal/strconv.uint64pow10", "math/bits.deBruijn32tab", "math/bits.deBruijn64tab"], apart := false, laid := [("math/bits.deBruijn32tab", laid_math_bits_deBruijn32tab), ("math/bits.deBruijn64tab", laid_math_bits_deBruijn64tab), ("internal/strconv.uint64pow10", laid_internal_strconv_uint64pow10)], narrowed := true }
def FixupRunsUptoSaid : Prop := fixupRunsUptoRow.holds Tryd.pinned (OpenSpec.upto fixupRunsSpec)

end Rows
end Go.Proofs.YtchkombikjcokaaDoor
