/- Records: dependencies (printed by mkrecs.sh). -/
import Derived.Test.YtpnldfinobnpoaaGreatDoorLay
import Derived.Test.YtpnldfinobnpoaaGreatDoorProg
import Derived.Lib.Strings
namespace Go.Proofs.YtpnldfinobnpoaaGreatDoor
open Go.RowKit
set_option maxRecDepth 100000

/-- A record Dep. -/
structure Dep where
  name : ByteArray
  kind : Int
def Dep.cells (s : Dep) : List Value := [.string s.name, .int .i64 s.kind]
abbrev Dep.v (s : Dep) : Value := .agg #[.string s.name, .int .i64 s.kind]
/-- Its numbers are of their kinds. -/
def Dep.wf (s : Dep) : Prop := (Lit.int .i64 s.kind).wf = true
def Dep.zero : Dep := ⟨⟨#[]⟩, 0⟩
def depL : Lay Dep := ⟨2, Dep.cells, Dep.zero, fun _ => rfl, by decide, fun x u hu => by
  simp only [Dep.cells, List.mem_cons, List.not_mem_nil, or_false] at hu
  rcases hu with rfl | rfl <;> rfl⟩
theorem Dep.at {w : World} {b o : Nat} {s : Dep} (h : depL.In w b o s) : w.cell? ⟨b, o, none⟩ = some (.string s.name) ∧ w.cell? ⟨b, o + 1, none⟩ = some (.int .i64 s.kind) :=
  ⟨h 0 (by decide), h 1 (by decide)⟩
theorem Dep.at0 {w : World} {b : Nat} {s : Dep} (h : depL.In w b 0 s) : w.cell? ⟨b, 0, none⟩ = some (.string s.name) ∧ w.cell? ⟨b, 1, none⟩ = some (.int .i64 s.kind) := by
  obtain ⟨h0, h1⟩ := Dep.at h
  simp only [Nat.zero_add] at h1
  exact ⟨h0, h1⟩
theorem Dep.boxed (w : World) (s : Dep) (T : TypeId) : depL.In (w.alloc (.cells #[.string s.name, .int .i64 s.kind] T)) w.heap.size 0 s := fun c _ => by
  rw [cell_of_heap (heap_alloc_eq w _), Nat.zero_add]
  exact List.getElem?_toArray ..
/-- A record in a block of its own: made, written, a field written. -/
theorem Dep.box (w : World) (s : Dep) (T : TypeId) : depL.Box (w.alloc (.cells #[.string s.name, .int .i64 s.kind] T)) w.heap.size s := Lay.Box.of_alloc (L := depL) w s T
theorem Dep.boxAt (w : World) (s : Dep) (T : TypeId) {b : Nat} (hb : b = w.heap.size) : depL.Box (w.alloc (.cells #[.string s.name, .int .i64 s.kind] T)) b s := by rw [hb]; exact Dep.box w s T
theorem Dep.put0 {w : World} {g : Nat} {y : Dep} (h : depL.Box w g y) (s : Dep) : depL.Box ((w.setCell ⟨g, 0, none⟩ (.string s.name)).setCell ⟨g, 1, none⟩ (.int .i64 s.kind)) g s := Lay.Box.put h s
theorem Dep.chg0 (w : World) (g : Nat) (s : Dep) : Chg [g] w ((w.setCell ⟨g, 0, none⟩ (.string s.name)).setCell ⟨g, 1, none⟩ (.int .i64 s.kind)) := Lay.setW_chg g s.cells w 0
theorem Dep.set_name {w : World} {g : Nat} {s : Dep} (h : depL.Box w g s) (x : ByteArray) : depL.Box (w.setCell ⟨g, 0, none⟩ (.string x)) g { s with name := x } := Lay.Box.set h 0 _ _ rfl
theorem Dep.set_kind {w : World} {g : Nat} {s : Dep} (h : depL.Box w g s) (x : Int) : depL.Box (w.setCell ⟨g, 1, none⟩ (.int .i64 x)) g { s with kind := x } := Lay.Box.set h 1 _ _ rfl
theorem Dep.c_name {w : World} {b : Nat} {s : Dep} (h : depL.Box w b s) : w.cell? ⟨b, 0, none⟩ = some (.string s.name) := by have := h.in 0 (by decide); rw [Nat.zero_add] at this; exact this
theorem Dep.c_kind {w : World} {b : Nat} {s : Dep} (h : depL.Box w b s) : w.cell? ⟨b, 1, none⟩ = some (.int .i64 s.kind) := by have := h.in 1 (by decide); rw [Nat.zero_add] at this; exact this
theorem Dep.at0B {w : World} {b : Nat} {s : Dep} (h : depL.Box w b s) : w.cell? ⟨b, 0, none⟩ = some (.string s.name) ∧ w.cell? ⟨b, 1, none⟩ = some (.int .i64 s.kind) := Dep.at0 h.in
theorem Dep.ext' {s r : Dep} (h0 : s.name = r.name) (h1 : s.kind = r.kind) : s = r := by
  cases s; cases r; simp only at h0 h1; subst h0 h1; rfl
instance : DecidableEq Dep := fun s r => decidable_of_iff (s.name = r.name ∧ s.kind = r.kind) ⟨fun h => Dep.ext' h.1 h.2, fun h => by rw [h]; exact ⟨rfl, rfl⟩⟩
theorem Dep.eqv (s r : Dep) : decide (s = r) = (decide (s.name.toList = r.name.toList) && (decide (s.kind = r.kind))) := by
  have e : s = r ↔ (s.name = r.name ∧ s.kind = r.kind) := ⟨fun h => by rw [h]; exact ⟨rfl, rfl⟩, fun h => Dep.ext' h.1 h.2⟩
  have hname : (s.name.toList = r.name.toList) = (s.name = r.name) := by rw [Lib.toList_data, Lib.toList_data]; exact propext ⟨fun e => ByteArray.ext (Array.toList_inj.1 e), fun e => by rw [e]⟩
  simp only [hname, ← Bool.decide_and]
  exact decide_eq_decide.2 e
set_option maxHeartbeats 2000000 in
theorem Dep.eql (s r : Dep) (W : World) : (binOp .eql 47 (.agg #[.string s.name, .int .i64 s.kind]) (.agg #[.string r.name, .int .i64 r.kind])).run Tryz.prog W = .ok (.bool (decide (s = r))) W := by
  rw [Dep.eqv]
  go_simp
  (repeat' split) <;> simp [*]
set_option maxHeartbeats 2000000 in
theorem Dep.neq (s r : Dep) (W : World) : (binOp .neq 47 (.agg #[.string s.name, .int .i64 s.kind]) (.agg #[.string r.name, .int .i64 r.kind])).run Tryz.prog W = .ok (.bool (!decide (s = r))) W := by
  rw [Dep.eqv]
  go_simp
  (repeat' split) <;> simp [*]
end Go.Proofs.YtpnldfinobnpoaaGreatDoor
