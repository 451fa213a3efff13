/- Records: imports (printed by mkrecs.sh). -/
import Derived.Test.YtpnldfinobnpoaaGreatDoorLay
import Derived.Test.YtpnldfinobnpoaaGreatDoorProg
import Derived.Lib.Strings
namespace Go.Proofs.YtpnldfinobnpoaaGreatDoor
open Go.RowKit
set_option maxRecDepth 100000

/-- A record Imp. -/
structure Imp where
  ord : Int
  weak : Bool
  sym : ByteArray
  add : Int
def Imp.cells (s : Imp) : List Value := [.int .i64 s.ord, .bool s.weak, .string s.sym, .int .i64 s.add]
abbrev Imp.v (s : Imp) : Value := .agg #[.int .i64 s.ord, .bool s.weak, .string s.sym, .int .i64 s.add]
/-- Its numbers are of their kinds. -/
def Imp.wf (s : Imp) : Prop := (Lit.int .i64 s.ord).wf = true ∧ (Lit.int .i64 s.add).wf = true
def Imp.zero : Imp := ⟨0, false, ⟨#[]⟩, 0⟩
def impL : Lay Imp := ⟨4, Imp.cells, Imp.zero, fun _ => rfl, by decide, fun x u hu => by
  simp only [Imp.cells, List.mem_cons, List.not_mem_nil, or_false] at hu
  rcases hu with rfl | rfl | rfl | rfl <;> rfl⟩
theorem Imp.at {w : World} {b o : Nat} {s : Imp} (h : impL.In w b o s) : w.cell? ⟨b, o, none⟩ = some (.int .i64 s.ord) ∧ w.cell? ⟨b, o + 1, none⟩ = some (.bool s.weak) ∧ w.cell? ⟨b, o + 2, none⟩ = some (.string s.sym) ∧ w.cell? ⟨b, o + 3, none⟩ = some (.int .i64 s.add) :=
  ⟨h 0 (by decide), h 1 (by decide), h 2 (by decide), h 3 (by decide)⟩
theorem Imp.at0 {w : World} {b : Nat} {s : Imp} (h : impL.In w b 0 s) : w.cell? ⟨b, 0, none⟩ = some (.int .i64 s.ord) ∧ w.cell? ⟨b, 1, none⟩ = some (.bool s.weak) ∧ w.cell? ⟨b, 2, none⟩ = some (.string s.sym) ∧ w.cell? ⟨b, 3, none⟩ = some (.int .i64 s.add) := by
  obtain ⟨h0, h1, h2, h3⟩ := Imp.at h
  simp only [Nat.zero_add] at h1 h2 h3
  exact ⟨h0, h1, h2, h3⟩
theorem Imp.boxed (w : World) (s : Imp) (T : TypeId) : impL.In (w.alloc (.cells #[.int .i64 s.ord, .bool s.weak, .string s.sym, .int .i64 s.add] T)) w.heap.size 0 s := fun c _ => by
  rw [cell_of_heap (heap_alloc_eq w _), Nat.zero_add]
  exact List.getElem?_toArray ..
/-- A record in a block of its own: made, written, a field written. -/
theorem Imp.box (w : World) (s : Imp) (T : TypeId) : impL.Box (w.alloc (.cells #[.int .i64 s.ord, .bool s.weak, .string s.sym, .int .i64 s.add] T)) w.heap.size s := Lay.Box.of_alloc (L := impL) w s T
theorem Imp.boxAt (w : World) (s : Imp) (T : TypeId) {b : Nat} (hb : b = w.heap.size) : impL.Box (w.alloc (.cells #[.int .i64 s.ord, .bool s.weak, .string s.sym, .int .i64 s.add] T)) b s := by rw [hb]; exact Imp.box w s T
theorem Imp.put0 {w : World} {g : Nat} {y : Imp} (h : impL.Box w g y) (s : Imp) : impL.Box ((((w.setCell ⟨g, 0, none⟩ (.int .i64 s.ord)).setCell ⟨g, 1, none⟩ (.bool s.weak)).setCell ⟨g, 2, none⟩ (.string s.sym)).setCell ⟨g, 3, none⟩ (.int .i64 s.add)) g s := Lay.Box.put h s
theorem Imp.chg0 (w : World) (g : Nat) (s : Imp) : Chg [g] w ((((w.setCell ⟨g, 0, none⟩ (.int .i64 s.ord)).setCell ⟨g, 1, none⟩ (.bool s.weak)).setCell ⟨g, 2, none⟩ (.string s.sym)).setCell ⟨g, 3, none⟩ (.int .i64 s.add)) := Lay.setW_chg g s.cells w 0
theorem Imp.set_ord {w : World} {g : Nat} {s : Imp} (h : impL.Box w g s) (x : Int) : impL.Box (w.setCell ⟨g, 0, none⟩ (.int .i64 x)) g { s with ord := x } := Lay.Box.set h 0 _ _ rfl
theorem Imp.set_weak {w : World} {g : Nat} {s : Imp} (h : impL.Box w g s) (x : Bool) : impL.Box (w.setCell ⟨g, 1, none⟩ (.bool x)) g { s with weak := x } := Lay.Box.set h 1 _ _ rfl
theorem Imp.set_sym {w : World} {g : Nat} {s : Imp} (h : impL.Box w g s) (x : ByteArray) : impL.Box (w.setCell ⟨g, 2, none⟩ (.string x)) g { s with sym := x } := Lay.Box.set h 2 _ _ rfl
theorem Imp.set_add {w : World} {g : Nat} {s : Imp} (h : impL.Box w g s) (x : Int) : impL.Box (w.setCell ⟨g, 3, none⟩ (.int .i64 x)) g { s with add := x } := Lay.Box.set h 3 _ _ rfl
theorem Imp.c_ord {w : World} {b : Nat} {s : Imp} (h : impL.Box w b s) : w.cell? ⟨b, 0, none⟩ = some (.int .i64 s.ord) := by have := h.in 0 (by decide); rw [Nat.zero_add] at this; exact this
theorem Imp.c_weak {w : World} {b : Nat} {s : Imp} (h : impL.Box w b s) : w.cell? ⟨b, 1, none⟩ = some (.bool s.weak) := by have := h.in 1 (by decide); rw [Nat.zero_add] at this; exact this
theorem Imp.c_sym {w : World} {b : Nat} {s : Imp} (h : impL.Box w b s) : w.cell? ⟨b, 2, none⟩ = some (.string s.sym) := by have := h.in 2 (by decide); rw [Nat.zero_add] at this; exact this
theorem Imp.c_add {w : World} {b : Nat} {s : Imp} (h : impL.Box w b s) : w.cell? ⟨b, 3, none⟩ = some (.int .i64 s.add) := by have := h.in 3 (by decide); rw [Nat.zero_add] at this; exact this
theorem Imp.at0B {w : World} {b : Nat} {s : Imp} (h : impL.Box w b s) : w.cell? ⟨b, 0, none⟩ = some (.int .i64 s.ord) ∧ w.cell? ⟨b, 1, none⟩ = some (.bool s.weak) ∧ w.cell? ⟨b, 2, none⟩ = some (.string s.sym) ∧ w.cell? ⟨b, 3, none⟩ = some (.int .i64 s.add) := Imp.at0 h.in
theorem Imp.ext' {s r : Imp} (h0 : s.ord = r.ord) (h1 : s.weak = r.weak) (h2 : s.sym = r.sym) (h3 : s.add = r.add) : s = r := by
  cases s; cases r; simp only at h0 h1 h2 h3; subst h0 h1 h2 h3; rfl
instance : DecidableEq Imp := fun s r => decidable_of_iff (s.ord = r.ord ∧ s.weak = r.weak ∧ s.sym = r.sym ∧ s.add = r.add) ⟨fun h => Imp.ext' h.1 h.2.1 h.2.2.1 h.2.2.2, fun h => by rw [h]; exact ⟨rfl, rfl, rfl, rfl⟩⟩
theorem Imp.eqv (s r : Imp) : decide (s = r) = (decide (s.ord = r.ord) && (decide (s.weak = r.weak) && (decide (s.sym.toList = r.sym.toList) && (decide (s.add = r.add))))) := by
  have e : s = r ↔ (s.ord = r.ord ∧ s.weak = r.weak ∧ s.sym = r.sym ∧ s.add = r.add) := ⟨fun h => by rw [h]; exact ⟨rfl, rfl, rfl, rfl⟩, fun h => Imp.ext' h.1 h.2.1 h.2.2.1 h.2.2.2⟩
  have hsym : (s.sym.toList = r.sym.toList) = (s.sym = r.sym) := by rw [Lib.toList_data, Lib.toList_data]; exact propext ⟨fun e => ByteArray.ext (Array.toList_inj.1 e), fun e => by rw [e]⟩
  simp only [hsym, ← Bool.decide_and]
  exact decide_eq_decide.2 e
set_option maxHeartbeats 2000000 in
theorem Imp.eql (s r : Imp) (W : World) : (binOp .eql 71 (.agg #[.int .i64 s.ord, .bool s.weak, .string s.sym, .int .i64 s.add]) (.agg #[.int .i64 r.ord, .bool r.weak, .string r.sym, .int .i64 r.add])).run Tryz.prog W = .ok (.bool (decide (s = r))) W := by
  rw [Imp.eqv]
  go_simp
  (repeat' split) <;> simp [*]
set_option maxHeartbeats 2000000 in
theorem Imp.neq (s r : Imp) (W : World) : (binOp .neq 71 (.agg #[.int .i64 s.ord, .bool s.weak, .string s.sym, .int .i64 s.add]) (.agg #[.int .i64 r.ord, .bool r.weak, .string r.sym, .int .i64 r.add])).run Tryz.prog W = .ok (.bool (!decide (s = r))) W := by
  rw [Imp.eqv]
  go_simp
  (repeat' split) <;> simp [*]
end Go.Proofs.YtpnldfinobnpoaaGreatDoor
