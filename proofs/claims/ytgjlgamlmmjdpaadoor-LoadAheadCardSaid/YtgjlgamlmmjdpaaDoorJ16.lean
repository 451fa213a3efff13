/- Lemmas, laid together: part 16 of 38. Conditions: none but each lemma's own. -/
import Derived.Test.YtgjlgamlmmjdpaaDoorJ3
import Derived.Test.YtgjlgamlmmjdpaaDoorProg
import Derived.Lib.Strings
/- Records: spans (printed by mkrecs4.sh). -/
namespace Go.Proofs.YtgjlgamlmmjdpaaDoor
open Go.RowKit
set_option maxRecDepth 100000

/-- A record Spn. -/
structure Spn where
  off : Int
  size : Int
def Spn.cells (s : Spn) : List Value := [.int .u64 s.off, .int .u64 s.size]
abbrev Spn.v (s : Spn) : Value := .agg #[.int .u64 s.off, .int .u64 s.size]
/-- Its numbers are of their kinds. -/
def Spn.wf (s : Spn) : Prop := (Lit.int .u64 s.off).wf = true ∧ (Lit.int .u64 s.size).wf = true
def Spn.zero : Spn := ⟨0, 0⟩
def spnL : Lay Spn := ⟨2, Spn.cells, Spn.zero, fun _ => rfl, by decide, fun x u hu => by
  simp only [Spn.cells, List.mem_cons, List.not_mem_nil, or_false] at hu
  rcases hu with rfl | rfl <;> rfl⟩
theorem Spn.at {w : World} {b o : Nat} {s : Spn} (h : spnL.In w b o s) : w.cell? ⟨b, o, none⟩ = some (.int .u64 s.off) ∧ w.cell? ⟨b, o + 1, none⟩ = some (.int .u64 s.size) :=
  ⟨h 0 (by decide), h 1 (by decide)⟩
theorem Spn.at0 {w : World} {b : Nat} {s : Spn} (h : spnL.In w b 0 s) : w.cell? ⟨b, 0, none⟩ = some (.int .u64 s.off) ∧ w.cell? ⟨b, 1, none⟩ = some (.int .u64 s.size) := by
  obtain ⟨h0, h1⟩ := Spn.at h
  simp only [Nat.zero_add] at h1
  exact ⟨h0, h1⟩
theorem Spn.boxed (w : World) (s : Spn) (T : TypeId) : spnL.In (w.alloc (.cells #[.int .u64 s.off, .int .u64 s.size] T)) w.heap.size 0 s := fun c _ => by
  rw [cell_of_heap (heap_alloc_eq w _), Nat.zero_add]
  exact List.getElem?_toArray ..
/-- A record in a block of its own: made, written, a field written. -/
theorem Spn.box (w : World) (s : Spn) (T : TypeId) : spnL.Box (w.alloc (.cells #[.int .u64 s.off, .int .u64 s.size] T)) w.heap.size s := Lay.Box.of_alloc (L := spnL) w s T
theorem Spn.boxAt (w : World) (s : Spn) (T : TypeId) {b : Nat} (hb : b = w.heap.size) : spnL.Box (w.alloc (.cells #[.int .u64 s.off, .int .u64 s.size] T)) b s := by rw [hb]; exact Spn.box w s T
theorem Spn.put0 {w : World} {g : Nat} {y : Spn} (h : spnL.Box w g y) (s : Spn) : spnL.Box ((w.setCell ⟨g, 0, none⟩ (.int .u64 s.off)).setCell ⟨g, 1, none⟩ (.int .u64 s.size)) g s := Lay.Box.put h s
theorem Spn.chg0 (w : World) (g : Nat) (s : Spn) : Chg [g] w ((w.setCell ⟨g, 0, none⟩ (.int .u64 s.off)).setCell ⟨g, 1, none⟩ (.int .u64 s.size)) := Lay.setW_chg g s.cells w 0
theorem Spn.set_off {w : World} {g : Nat} {s : Spn} (h : spnL.Box w g s) (x : Int) : spnL.Box (w.setCell ⟨g, 0, none⟩ (.int .u64 x)) g { s with off := x } := Lay.Box.set h 0 _ _ rfl
theorem Spn.set_size {w : World} {g : Nat} {s : Spn} (h : spnL.Box w g s) (x : Int) : spnL.Box (w.setCell ⟨g, 1, none⟩ (.int .u64 x)) g { s with size := x } := Lay.Box.set h 1 _ _ rfl
theorem Spn.c_off {w : World} {b : Nat} {s : Spn} (h : spnL.Box w b s) : w.cell? ⟨b, 0, none⟩ = some (.int .u64 s.off) := by have := h.in 0 (by decide); rw [Nat.zero_add] at this; exact this
theorem Spn.c_size {w : World} {b : Nat} {s : Spn} (h : spnL.Box w b s) : w.cell? ⟨b, 1, none⟩ = some (.int .u64 s.size) := by have := h.in 1 (by decide); rw [Nat.zero_add] at this; exact this
theorem Spn.at0B {w : World} {b : Nat} {s : Spn} (h : spnL.Box w b s) : w.cell? ⟨b, 0, none⟩ = some (.int .u64 s.off) ∧ w.cell? ⟨b, 1, none⟩ = some (.int .u64 s.size) := Spn.at0 h.in
theorem Spn.ext' {s r : Spn} (h0 : s.off = r.off) (h1 : s.size = r.size) : s = r := by
  cases s; cases r; simp only at h0 h1; subst h0 h1; rfl
instance : DecidableEq Spn := fun s r => decidable_of_iff (s.off = r.off ∧ s.size = r.size) ⟨fun h => Spn.ext' h.1 h.2, fun h => by rw [h]; exact ⟨rfl, rfl⟩⟩
theorem Spn.eqv (s r : Spn) : decide (s = r) = (decide (s.off = r.off) && (decide (s.size = r.size))) := by
  have e : s = r ↔ (s.off = r.off ∧ s.size = r.size) := ⟨fun h => by rw [h]; exact ⟨rfl, rfl⟩, fun h => Spn.ext' h.1 h.2⟩
  simp only [← Bool.decide_and]
  exact decide_eq_decide.2 e
set_option maxHeartbeats 2000000 in
theorem Spn.eql (s r : Spn) (W : World) : (binOp .eql 35 (.agg #[.int .u64 s.off, .int .u64 s.size]) (.agg #[.int .u64 r.off, .int .u64 r.size])).run Tryd.prog W = .ok (.bool (decide (s = r))) W := by
  rw [Spn.eqv]
  go_simp
  (repeat' split) <;> simp [*]
set_option maxHeartbeats 2000000 in
theorem Spn.neq (s r : Spn) (W : World) : (binOp .neq 35 (.agg #[.int .u64 s.off, .int .u64 s.size]) (.agg #[.int .u64 r.off, .int .u64 r.size])).run Tryd.prog W = .ok (.bool (!decide (s = r))) W := by
  rw [Spn.eqv]
  go_simp
  (repeat' split) <;> simp [*]
end Go.Proofs.YtgjlgamlmmjdpaaDoor
