/- Records: fixups (printed by mkrecs.sh). -/
import Derived.Test.YtpnldfinobnpoaaGreatDoorLay
import Derived.Test.YtpnldfinobnpoaaGreatDoorProg
import Derived.Lib.Strings
namespace Go.Proofs.YtpnldfinobnpoaaGreatDoor
open Go.RowKit
set_option maxRecDepth 100000

/-- A record Fx. -/
structure Fx where
  at_ : Int
  kind : Int
  tgt : Int
  ord : Int
  sym : ByteArray
  add : Int
  weak : Bool
def Fx.cells (s : Fx) : List Value := [.int .u64 s.at_, .int .i64 s.kind, .int .u64 s.tgt, .int .i64 s.ord, .string s.sym, .int .i64 s.add, .bool s.weak]
abbrev Fx.v (s : Fx) : Value := .agg #[.int .u64 s.at_, .int .i64 s.kind, .int .u64 s.tgt, .int .i64 s.ord, .string s.sym, .int .i64 s.add, .bool s.weak]
/-- Its numbers are of their kinds. -/
def Fx.wf (s : Fx) : Prop := (Lit.int .u64 s.at_).wf = true ∧ (Lit.int .i64 s.kind).wf = true ∧ (Lit.int .u64 s.tgt).wf = true ∧ (Lit.int .i64 s.ord).wf = true ∧ (Lit.int .i64 s.add).wf = true
def Fx.zero : Fx := ⟨0, 0, 0, 0, ⟨#[]⟩, 0, false⟩
def fxL : Lay Fx := ⟨7, Fx.cells, Fx.zero, fun _ => rfl, by decide, fun x u hu => by
  simp only [Fx.cells, List.mem_cons, List.not_mem_nil, or_false] at hu
  rcases hu with rfl | rfl | rfl | rfl | rfl | rfl | rfl <;> rfl⟩
theorem Fx.at {w : World} {b o : Nat} {s : Fx} (h : fxL.In w b o s) : w.cell? ⟨b, o, none⟩ = some (.int .u64 s.at_) ∧ w.cell? ⟨b, o + 1, none⟩ = some (.int .i64 s.kind) ∧ w.cell? ⟨b, o + 2, none⟩ = some (.int .u64 s.tgt) ∧ w.cell? ⟨b, o + 3, none⟩ = some (.int .i64 s.ord) ∧ w.cell? ⟨b, o + 4, none⟩ = some (.string s.sym) ∧ w.cell? ⟨b, o + 5, none⟩ = some (.int .i64 s.add) ∧ w.cell? ⟨b, o + 6, none⟩ = some (.bool s.weak) :=
  ⟨h 0 (by decide), h 1 (by decide), h 2 (by decide), h 3 (by decide), h 4 (by decide), h 5 (by decide), h 6 (by decide)⟩
theorem Fx.at0 {w : World} {b : Nat} {s : Fx} (h : fxL.In w b 0 s) : w.cell? ⟨b, 0, none⟩ = some (.int .u64 s.at_) ∧ w.cell? ⟨b, 1, none⟩ = some (.int .i64 s.kind) ∧ w.cell? ⟨b, 2, none⟩ = some (.int .u64 s.tgt) ∧ w.cell? ⟨b, 3, none⟩ = some (.int .i64 s.ord) ∧ w.cell? ⟨b, 4, none⟩ = some (.string s.sym) ∧ w.cell? ⟨b, 5, none⟩ = some (.int .i64 s.add) ∧ w.cell? ⟨b, 6, none⟩ = some (.bool s.weak) := by
  obtain ⟨h0, h1, h2, h3, h4, h5, h6⟩ := Fx.at h
  simp only [Nat.zero_add] at h1 h2 h3 h4 h5 h6
  exact ⟨h0, h1, h2, h3, h4, h5, h6⟩
theorem Fx.boxed (w : World) (s : Fx) (T : TypeId) : fxL.In (w.alloc (.cells #[.int .u64 s.at_, .int .i64 s.kind, .int .u64 s.tgt, .int .i64 s.ord, .string s.sym, .int .i64 s.add, .bool s.weak] T)) w.heap.size 0 s := fun c _ => by
  rw [cell_of_heap (heap_alloc_eq w _), Nat.zero_add]
  exact List.getElem?_toArray ..
/-- A record in a block of its own: made, written, a field written. -/
theorem Fx.box (w : World) (s : Fx) (T : TypeId) : fxL.Box (w.alloc (.cells #[.int .u64 s.at_, .int .i64 s.kind, .int .u64 s.tgt, .int .i64 s.ord, .string s.sym, .int .i64 s.add, .bool s.weak] T)) w.heap.size s := Lay.Box.of_alloc (L := fxL) w s T
theorem Fx.boxAt (w : World) (s : Fx) (T : TypeId) {b : Nat} (hb : b = w.heap.size) : fxL.Box (w.alloc (.cells #[.int .u64 s.at_, .int .i64 s.kind, .int .u64 s.tgt, .int .i64 s.ord, .string s.sym, .int .i64 s.add, .bool s.weak] T)) b s := by rw [hb]; exact Fx.box w s T
theorem Fx.put0 {w : World} {g : Nat} {y : Fx} (h : fxL.Box w g y) (s : Fx) : fxL.Box (((((((w.setCell ⟨g, 0, none⟩ (.int .u64 s.at_)).setCell ⟨g, 1, none⟩ (.int .i64 s.kind)).setCell ⟨g, 2, none⟩ (.int .u64 s.tgt)).setCell ⟨g, 3, none⟩ (.int .i64 s.ord)).setCell ⟨g, 4, none⟩ (.string s.sym)).setCell ⟨g, 5, none⟩ (.int .i64 s.add)).setCell ⟨g, 6, none⟩ (.bool s.weak)) g s := Lay.Box.put h s
theorem Fx.chg0 (w : World) (g : Nat) (s : Fx) : Chg [g] w (((((((w.setCell ⟨g, 0, none⟩ (.int .u64 s.at_)).setCell ⟨g, 1, none⟩ (.int .i64 s.kind)).setCell ⟨g, 2, none⟩ (.int .u64 s.tgt)).setCell ⟨g, 3, none⟩ (.int .i64 s.ord)).setCell ⟨g, 4, none⟩ (.string s.sym)).setCell ⟨g, 5, none⟩ (.int .i64 s.add)).setCell ⟨g, 6, none⟩ (.bool s.weak)) := Lay.setW_chg g s.cells w 0
theorem Fx.set_at_ {w : World} {g : Nat} {s : Fx} (h : fxL.Box w g s) (x : Int) : fxL.Box (w.setCell ⟨g, 0, none⟩ (.int .u64 x)) g { s with at_ := x } := Lay.Box.set h 0 _ _ rfl
theorem Fx.set_kind {w : World} {g : Nat} {s : Fx} (h : fxL.Box w g s) (x : Int) : fxL.Box (w.setCell ⟨g, 1, none⟩ (.int .i64 x)) g { s with kind := x } := Lay.Box.set h 1 _ _ rfl
theorem Fx.set_tgt {w : World} {g : Nat} {s : Fx} (h : fxL.Box w g s) (x : Int) : fxL.Box (w.setCell ⟨g, 2, none⟩ (.int .u64 x)) g { s with tgt := x } := Lay.Box.set h 2 _ _ rfl
theorem Fx.set_ord {w : World} {g : Nat} {s : Fx} (h : fxL.Box w g s) (x : Int) : fxL.Box (w.setCell ⟨g, 3, none⟩ (.int .i64 x)) g { s with ord := x } := Lay.Box.set h 3 _ _ rfl
theorem Fx.set_sym {w : World} {g : Nat} {s : Fx} (h : fxL.Box w g s) (x : ByteArray) : fxL.Box (w.setCell ⟨g, 4, none⟩ (.string x)) g { s with sym := x } := Lay.Box.set h 4 _ _ rfl
theorem Fx.set_add {w : World} {g : Nat} {s : Fx} (h : fxL.Box w g s) (x : Int) : fxL.Box (w.setCell ⟨g, 5, none⟩ (.int .i64 x)) g { s with add := x } := Lay.Box.set h 5 _ _ rfl
theorem Fx.set_weak {w : World} {g : Nat} {s : Fx} (h : fxL.Box w g s) (x : Bool) : fxL.Box (w.setCell ⟨g, 6, none⟩ (.bool x)) g { s with weak := x } := Lay.Box.set h 6 _ _ rfl
theorem Fx.c_at_ {w : World} {b : Nat} {s : Fx} (h : fxL.Box w b s) : w.cell? ⟨b, 0, none⟩ = some (.int .u64 s.at_) := by have := h.in 0 (by decide); rw [Nat.zero_add] at this; exact this
theorem Fx.c_kind {w : World} {b : Nat} {s : Fx} (h : fxL.Box w b s) : w.cell? ⟨b, 1, none⟩ = some (.int .i64 s.kind) := by have := h.in 1 (by decide); rw [Nat.zero_add] at this; exact this
theorem Fx.c_tgt {w : World} {b : Nat} {s : Fx} (h : fxL.Box w b s) : w.cell? ⟨b, 2, none⟩ = some (.int .u64 s.tgt) := by have := h.in 2 (by decide); rw [Nat.zero_add] at this; exact this
theorem Fx.c_ord {w : World} {b : Nat} {s : Fx} (h : fxL.Box w b s) : w.cell? ⟨b, 3, none⟩ = some (.int .i64 s.ord) := by have := h.in 3 (by decide); rw [Nat.zero_add] at this; exact this
theorem Fx.c_sym {w : World} {b : Nat} {s : Fx} (h : fxL.Box w b s) : w.cell? ⟨b, 4, none⟩ = some (.string s.sym) := by have := h.in 4 (by decide); rw [Nat.zero_add] at this; exact this
theorem Fx.c_add {w : World} {b : Nat} {s : Fx} (h : fxL.Box w b s) : w.cell? ⟨b, 5, none⟩ = some (.int .i64 s.add) := by have := h.in 5 (by decide); rw [Nat.zero_add] at this; exact this
theorem Fx.c_weak {w : World} {b : Nat} {s : Fx} (h : fxL.Box w b s) : w.cell? ⟨b, 6, none⟩ = some (.bool s.weak) := by have := h.in 6 (by decide); rw [Nat.zero_add] at this; exact this
theorem Fx.at0B {w : World} {b : Nat} {s : Fx} (h : fxL.Box w b s) : w.cell? ⟨b, 0, none⟩ = some (.int .u64 s.at_) ∧ w.cell? ⟨b, 1, none⟩ = some (.int .i64 s.kind) ∧ w.cell? ⟨b, 2, none⟩ = some (.int .u64 s.tgt) ∧ w.cell? ⟨b, 3, none⟩ = some (.int .i64 s.ord) ∧ w.cell? ⟨b, 4, none⟩ = some (.string s.sym) ∧ w.cell? ⟨b, 5, none⟩ = some (.int .i64 s.add) ∧ w.cell? ⟨b, 6, none⟩ = some (.bool s.weak) := Fx.at0 h.in
theorem Fx.ext' {s r : Fx} (h0 : s.at_ = r.at_) (h1 : s.kind = r.kind) (h2 : s.tgt = r.tgt) (h3 : s.ord = r.ord) (h4 : s.sym = r.sym) (h5 : s.add = r.add) (h6 : s.weak = r.weak) : s = r := by
  cases s; cases r; simp only at h0 h1 h2 h3 h4 h5 h6; subst h0 h1 h2 h3 h4 h5 h6; rfl
instance : DecidableEq Fx := fun s r => decidable_of_iff (s.at_ = r.at_ ∧ s.kind = r.kind ∧ s.tgt = r.tgt ∧ s.ord = r.ord ∧ s.sym = r.sym ∧ s.add = r.add ∧ s.weak = r.weak) ⟨fun h => Fx.ext' h.1 h.2.1 h.2.2.1 h.2.2.2.1 h.2.2.2.2.1 h.2.2.2.2.2.1 h.2.2.2.2.2.2, fun h => by rw [h]; exact ⟨rfl, rfl, rfl, rfl, rfl, rfl, rfl⟩⟩
theorem Fx.eqv (s r : Fx) : decide (s = r) = (decide (s.at_ = r.at_) && (decide (s.kind = r.kind) && (decide (s.tgt = r.tgt) && (decide (s.ord = r.ord) && (decide (s.sym.toList = r.sym.toList) && (decide (s.add = r.add) && (decide (s.weak = r.weak)))))))) := by
  have e : s = r ↔ (s.at_ = r.at_ ∧ s.kind = r.kind ∧ s.tgt = r.tgt ∧ s.ord = r.ord ∧ s.sym = r.sym ∧ s.add = r.add ∧ s.weak = r.weak) := ⟨fun h => by rw [h]; exact ⟨rfl, rfl, rfl, rfl, rfl, rfl, rfl⟩, fun h => Fx.ext' h.1 h.2.1 h.2.2.1 h.2.2.2.1 h.2.2.2.2.1 h.2.2.2.2.2.1 h.2.2.2.2.2.2⟩
  have hsym : (s.sym.toList = r.sym.toList) = (s.sym = r.sym) := by rw [Lib.toList_data, Lib.toList_data]; exact propext ⟨fun e => ByteArray.ext (Array.toList_inj.1 e), fun e => by rw [e]⟩
  simp only [hsym, ← Bool.decide_and]
  exact decide_eq_decide.2 e
set_option maxHeartbeats 2000000 in
theorem Fx.eql (s r : Fx) (W : World) : (binOp .eql 64 (.agg #[.int .u64 s.at_, .int .i64 s.kind, .int .u64 s.tgt, .int .i64 s.ord, .string s.sym, .int .i64 s.add, .bool s.weak]) (.agg #[.int .u64 r.at_, .int .i64 r.kind, .int .u64 r.tgt, .int .i64 r.ord, .string r.sym, .int .i64 r.add, .bool r.weak])).run Tryz.prog W = .ok (.bool (decide (s = r))) W := by
  rw [Fx.eqv]
  go_simp
  (repeat' split) <;> simp [*]
set_option maxHeartbeats 2000000 in
theorem Fx.neq (s r : Fx) (W : World) : (binOp .neq 64 (.agg #[.int .u64 s.at_, .int .i64 s.kind, .int .u64 s.tgt, .int .i64 s.ord, .string s.sym, .int .i64 s.add, .bool s.weak]) (.agg #[.int .u64 r.at_, .int .i64 r.kind, .int .u64 r.tgt, .int .i64 r.ord, .string r.sym, .int .i64 r.add, .bool r.weak])).run Tryz.prog W = .ok (.bool (!decide (s = r))) W := by
  rw [Fx.eqv]
  go_simp
  (repeat' split) <;> simp [*]
end Go.Proofs.YtpnldfinobnpoaaGreatDoor
