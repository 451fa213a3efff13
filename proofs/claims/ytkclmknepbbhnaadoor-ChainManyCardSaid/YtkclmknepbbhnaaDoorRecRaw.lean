/- Records: an import that is read (printed by mkrecs3.sh). -/
import Derived.Test.YtkclmknepbbhnaaDoorLay
namespace Go.Proofs.YtkclmknepbbhnaaDoor
open Go.RowKit
set_option maxRecDepth 100000

/-- A record Raw. -/
structure Raw where
  ord : Int
  weak : Bool
  sym : ByteArray
  add : Int
  name : Int
def Raw.cells (s : Raw) : List Value := [.int .i64 s.ord, .bool s.weak, .string s.sym, .int .i64 s.add, .int .u64 s.name]
abbrev Raw.v (s : Raw) : Value := .agg #[.int .i64 s.ord, .bool s.weak, .string s.sym, .int .i64 s.add, .int .u64 s.name]
/-- Its numbers are of their kinds. -/
def Raw.wf (s : Raw) : Prop := (Lit.int .i64 s.ord).wf = true ∧ (Lit.int .i64 s.add).wf = true ∧ (Lit.int .u64 s.name).wf = true
def Raw.zero : Raw := ⟨0, false, ⟨#[]⟩, 0, 0⟩
def rawL : Lay Raw := ⟨5, Raw.cells, Raw.zero, fun _ => rfl, by decide, fun x u hu => by
  simp only [Raw.cells, List.mem_cons, List.not_mem_nil, or_false] at hu
  rcases hu with rfl | rfl | rfl | rfl | rfl <;> rfl⟩
theorem Raw.at {w : World} {b o : Nat} {s : Raw} (h : rawL.In w b o s) : w.cell? ⟨b, o, none⟩ = some (.int .i64 s.ord) ∧ w.cell? ⟨b, o + 1, none⟩ = some (.bool s.weak) ∧ w.cell? ⟨b, o + 2, none⟩ = some (.string s.sym) ∧ w.cell? ⟨b, o + 3, none⟩ = some (.int .i64 s.add) ∧ w.cell? ⟨b, o + 4, none⟩ = some (.int .u64 s.name) :=
  ⟨h 0 (by decide), h 1 (by decide), h 2 (by decide), h 3 (by decide), h 4 (by decide)⟩
theorem Raw.at0 {w : World} {b : Nat} {s : Raw} (h : rawL.In w b 0 s) : w.cell? ⟨b, 0, none⟩ = some (.int .i64 s.ord) ∧ w.cell? ⟨b, 1, none⟩ = some (.bool s.weak) ∧ w.cell? ⟨b, 2, none⟩ = some (.string s.sym) ∧ w.cell? ⟨b, 3, none⟩ = some (.int .i64 s.add) ∧ w.cell? ⟨b, 4, none⟩ = some (.int .u64 s.name) := by
  obtain ⟨h0, h1, h2, h3, h4⟩ := Raw.at h
  simp only [Nat.zero_add] at h1 h2 h3 h4
  exact ⟨h0, h1, h2, h3, h4⟩
theorem Raw.boxed (w : World) (s : Raw) (T : TypeId) : rawL.In (w.alloc (.cells #[.int .i64 s.ord, .bool s.weak, .string s.sym, .int .i64 s.add, .int .u64 s.name] T)) w.heap.size 0 s := fun c _ => by
  rw [cell_of_heap (heap_alloc_eq w _), Nat.zero_add]
  exact List.getElem?_toArray ..
/-- A record in a block of its own: made, written, a field written. -/
theorem Raw.box (w : World) (s : Raw) (T : TypeId) : rawL.Box (w.alloc (.cells #[.int .i64 s.ord, .bool s.weak, .string s.sym, .int .i64 s.add, .int .u64 s.name] T)) w.heap.size s := Lay.Box.of_alloc (L := rawL) w s T
theorem Raw.boxAt (w : World) (s : Raw) (T : TypeId) {b : Nat} (hb : b = w.heap.size) : rawL.Box (w.alloc (.cells #[.int .i64 s.ord, .bool s.weak, .string s.sym, .int .i64 s.add, .int .u64 s.name] T)) b s := by rw [hb]; exact Raw.box w s T
theorem Raw.put0 {w : World} {g : Nat} {y : Raw} (h : rawL.Box w g y) (s : Raw) : rawL.Box (((((w.setCell ⟨g, 0, none⟩ (.int .i64 s.ord)).setCell ⟨g, 1, none⟩ (.bool s.weak)).setCell ⟨g, 2, none⟩ (.string s.sym)).setCell ⟨g, 3, none⟩ (.int .i64 s.add)).setCell ⟨g, 4, none⟩ (.int .u64 s.name)) g s := Lay.Box.put h s
theorem Raw.chg0 (w : World) (g : Nat) (s : Raw) : Chg [g] w (((((w.setCell ⟨g, 0, none⟩ (.int .i64 s.ord)).setCell ⟨g, 1, none⟩ (.bool s.weak)).setCell ⟨g, 2, none⟩ (.string s.sym)).setCell ⟨g, 3, none⟩ (.int .i64 s.add)).setCell ⟨g, 4, none⟩ (.int .u64 s.name)) := Lay.setW_chg g s.cells w 0
theorem Raw.set_ord {w : World} {g : Nat} {s : Raw} (h : rawL.Box w g s) (x : Int) : rawL.Box (w.setCell ⟨g, 0, none⟩ (.int .i64 x)) g { s with ord := x } := Lay.Box.set h 0 _ _ rfl
theorem Raw.set_weak {w : World} {g : Nat} {s : Raw} (h : rawL.Box w g s) (x : Bool) : rawL.Box (w.setCell ⟨g, 1, none⟩ (.bool x)) g { s with weak := x } := Lay.Box.set h 1 _ _ rfl
theorem Raw.set_sym {w : World} {g : Nat} {s : Raw} (h : rawL.Box w g s) (x : ByteArray) : rawL.Box (w.setCell ⟨g, 2, none⟩ (.string x)) g { s with sym := x } := Lay.Box.set h 2 _ _ rfl
theorem Raw.set_add {w : World} {g : Nat} {s : Raw} (h : rawL.Box w g s) (x : Int) : rawL.Box (w.setCell ⟨g, 3, none⟩ (.int .i64 x)) g { s with add := x } := Lay.Box.set h 3 _ _ rfl
theorem Raw.set_name {w : World} {g : Nat} {s : Raw} (h : rawL.Box w g s) (x : Int) : rawL.Box (w.setCell ⟨g, 4, none⟩ (.int .u64 x)) g { s with name := x } := Lay.Box.set h 4 _ _ rfl
theorem Raw.c_ord {w : World} {b : Nat} {s : Raw} (h : rawL.Box w b s) : w.cell? ⟨b, 0, none⟩ = some (.int .i64 s.ord) := by have := h.in 0 (by decide); rw [Nat.zero_add] at this; exact this
theorem Raw.c_weak {w : World} {b : Nat} {s : Raw} (h : rawL.Box w b s) : w.cell? ⟨b, 1, none⟩ = some (.bool s.weak) := by have := h.in 1 (by decide); rw [Nat.zero_add] at this; exact this
theorem Raw.c_sym {w : World} {b : Nat} {s : Raw} (h : rawL.Box w b s) : w.cell? ⟨b, 2, none⟩ = some (.string s.sym) := by have := h.in 2 (by decide); rw [Nat.zero_add] at this; exact this
theorem Raw.c_add {w : World} {b : Nat} {s : Raw} (h : rawL.Box w b s) : w.cell? ⟨b, 3, none⟩ = some (.int .i64 s.add) := by have := h.in 3 (by decide); rw [Nat.zero_add] at this; exact this
theorem Raw.c_name {w : World} {b : Nat} {s : Raw} (h : rawL.Box w b s) : w.cell? ⟨b, 4, none⟩ = some (.int .u64 s.name) := by have := h.in 4 (by decide); rw [Nat.zero_add] at this; exact this
theorem Raw.at0B {w : World} {b : Nat} {s : Raw} (h : rawL.Box w b s) : w.cell? ⟨b, 0, none⟩ = some (.int .i64 s.ord) ∧ w.cell? ⟨b, 1, none⟩ = some (.bool s.weak) ∧ w.cell? ⟨b, 2, none⟩ = some (.string s.sym) ∧ w.cell? ⟨b, 3, none⟩ = some (.int .i64 s.add) ∧ w.cell? ⟨b, 4, none⟩ = some (.int .u64 s.name) := Raw.at0 h.in
end Go.Proofs.YtkclmknepbbhnaaDoor
