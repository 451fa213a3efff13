/- fat.Make at either width. -/
import Derived.Test.YtchkombikjcokaaDoorFMkN
import Derived.Test.YtchkombikjcokaaDoorFMkW
namespace Go.Proofs.YtchkombikjcokaaDoor
open Go.RowKit
set_option maxRecDepth 100000

theorem FMake_any (wide : Bool) (ms : List Mem) (hok : ∀ m ∈ ms, m.ok) (hn : ms.length ≤ 1000) (hb : ∀ m ∈ ms, m.bytes.length ≤ 2097152) (a : Option Addr) (cap : Nat) (w : World) (hg : Env w) (rd : MemRd w (.slice a ms.length cap) ms) :
    Calls Tryd.prog 37 #[.bool wide, .slice a ms.length cap] w fun e w' => ∃ v, e = .returned (.tuple #[v, .int .i64 (fatE wide ms)]) ∧ (fatE wide ms = 0 → Buf w' w.heap.size v (fatL wide ms)) ∧ (fatE wide ms ≠ 0 → v = .slice none 0 0) ∧ Chg [] w w' := by
  cases wide
  · exact FMake_false ms hok hn hb a cap w hg rd
  · exact FMake_true ms hok hn hb a cap w hg rd
end Go.Proofs.YtchkombikjcokaaDoor
