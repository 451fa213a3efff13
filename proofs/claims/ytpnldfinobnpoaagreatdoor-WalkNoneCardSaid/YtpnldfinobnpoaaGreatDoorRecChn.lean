/- Records: chains, starts (printed by mkrecs2.sh). -/
import Derived.Test.YtpnldfinobnpoaaGreatDoorLay
namespace Go.Proofs.YtpnldfinobnpoaaGreatDoor
open Go.RowKit
set_option maxRecDepth 100000

/-- A record Chn. -/
structure Chn where
  starts : SlV
  imps : SlV
def Chn.cells (s : Chn) : List Value := [.slice s.starts.a s.starts.n s.starts.cap, .slice s.imps.a s.imps.n s.imps.cap]
abbrev Chn.v (s : Chn) : Value := .agg #[.slice s.starts.a s.starts.n s.starts.cap, .slice s.imps.a s.imps.n s.imps.cap]
/-- Its numbers are of their kinds. -/
def Chn.wf (_ : Chn) : Prop := True
def Chn.zero : Chn := ⟨⟨none, 0, 0⟩, ⟨none, 0, 0⟩⟩
def chnL : Lay Chn := ⟨2, Chn.cells, Chn.zero, fun _ => rfl, by decide, fun x u hu => by
  simp only [Chn.cells, List.mem_cons, List.not_mem_nil, or_false] at hu
  rcases hu with rfl | rfl <;> rfl⟩
theorem Chn.at {w : World} {b o : Nat} {s : Chn} (h : chnL.In w b o s) : w.cell? ⟨b, o, none⟩ = some (.slice s.starts.a s.starts.n s.starts.cap) ∧ w.cell? ⟨b, o + 1, none⟩ = some (.slice s.imps.a s.imps.n s.imps.cap) :=
  ⟨h 0 (by decide), h 1 (by decide)⟩
theorem Chn.at0 {w : World} {b : Nat} {s : Chn} (h : chnL.In w b 0 s) : w.cell? ⟨b, 0, none⟩ = some (.slice s.starts.a s.starts.n s.starts.cap) ∧ w.cell? ⟨b, 1, none⟩ = some (.slice s.imps.a s.imps.n s.imps.cap) := by
  obtain ⟨h0, h1⟩ := Chn.at h
  simp only [Nat.zero_add] at h1
  exact ⟨h0, h1⟩
theorem Chn.boxed (w : World) (s : Chn) (T : TypeId) : chnL.In (w.alloc (.cells #[.slice s.starts.a s.starts.n s.starts.cap, .slice s.imps.a s.imps.n s.imps.cap] T)) w.heap.size 0 s := fun c _ => by
  rw [cell_of_heap (heap_alloc_eq w _), Nat.zero_add]
  exact List.getElem?_toArray ..
/-- A record in a block of its own: made, written, a field written. -/
theorem Chn.box (w : World) (s : Chn) (T : TypeId) : chnL.Box (w.alloc (.cells #[.slice s.starts.a s.starts.n s.starts.cap, .slice s.imps.a s.imps.n s.imps.cap] T)) w.heap.size s := Lay.Box.of_alloc (L := chnL) w s T
theorem Chn.boxAt (w : World) (s : Chn) (T : TypeId) {b : Nat} (hb : b = w.heap.size) : chnL.Box (w.alloc (.cells #[.slice s.starts.a s.starts.n s.starts.cap, .slice s.imps.a s.imps.n s.imps.cap] T)) b s := by rw [hb]; exact Chn.box w s T
theorem Chn.put0 {w : World} {g : Nat} {y : Chn} (h : chnL.Box w g y) (s : Chn) : chnL.Box ((w.setCell ⟨g, 0, none⟩ (.slice s.starts.a s.starts.n s.starts.cap)).setCell ⟨g, 1, none⟩ (.slice s.imps.a s.imps.n s.imps.cap)) g s := Lay.Box.put h s
theorem Chn.chg0 (w : World) (g : Nat) (s : Chn) : Chg [g] w ((w.setCell ⟨g, 0, none⟩ (.slice s.starts.a s.starts.n s.starts.cap)).setCell ⟨g, 1, none⟩ (.slice s.imps.a s.imps.n s.imps.cap)) := Lay.setW_chg g s.cells w 0
theorem Chn.set_starts {w : World} {g : Nat} {s : Chn} (h : chnL.Box w g s) (x : SlV) : chnL.Box (w.setCell ⟨g, 0, none⟩ (.slice x.a x.n x.cap)) g { s with starts := x } := Lay.Box.set h 0 _ _ rfl
theorem Chn.set_imps {w : World} {g : Nat} {s : Chn} (h : chnL.Box w g s) (x : SlV) : chnL.Box (w.setCell ⟨g, 1, none⟩ (.slice x.a x.n x.cap)) g { s with imps := x } := Lay.Box.set h 1 _ _ rfl
theorem Chn.c_starts {w : World} {b : Nat} {s : Chn} (h : chnL.Box w b s) : w.cell? ⟨b, 0, none⟩ = some (.slice s.starts.a s.starts.n s.starts.cap) := by have := h.in 0 (by decide); rw [Nat.zero_add] at this; exact this
theorem Chn.c_imps {w : World} {b : Nat} {s : Chn} (h : chnL.Box w b s) : w.cell? ⟨b, 1, none⟩ = some (.slice s.imps.a s.imps.n s.imps.cap) := by have := h.in 1 (by decide); rw [Nat.zero_add] at this; exact this
theorem Chn.at0B {w : World} {b : Nat} {s : Chn} (h : chnL.Box w b s) : w.cell? ⟨b, 0, none⟩ = some (.slice s.starts.a s.starts.n s.starts.cap) ∧ w.cell? ⟨b, 1, none⟩ = some (.slice s.imps.a s.imps.n s.imps.cap) := Chn.at0 h.in
/-- A record Sta. -/
structure Sta where
  seg : Int
  page : Int
  fmt : Int
  begins : SlV
def Sta.cells (s : Sta) : List Value := [.int .i64 s.seg, .int .i64 s.page, .int .i64 s.fmt, .slice s.begins.a s.begins.n s.begins.cap]
abbrev Sta.v (s : Sta) : Value := .agg #[.int .i64 s.seg, .int .i64 s.page, .int .i64 s.fmt, .slice s.begins.a s.begins.n s.begins.cap]
/-- Its numbers are of their kinds. -/
def Sta.wf (s : Sta) : Prop := (Lit.int .i64 s.seg).wf = true ∧ (Lit.int .i64 s.page).wf = true ∧ (Lit.int .i64 s.fmt).wf = true
def Sta.zero : Sta := ⟨0, 0, 0, ⟨none, 0, 0⟩⟩
def staL : Lay Sta := ⟨4, Sta.cells, Sta.zero, fun _ => rfl, by decide, fun x u hu => by
  simp only [Sta.cells, List.mem_cons, List.not_mem_nil, or_false] at hu
  rcases hu with rfl | rfl | rfl | rfl <;> rfl⟩
theorem Sta.at {w : World} {b o : Nat} {s : Sta} (h : staL.In w b o s) : w.cell? ⟨b, o, none⟩ = some (.int .i64 s.seg) ∧ w.cell? ⟨b, o + 1, none⟩ = some (.int .i64 s.page) ∧ w.cell? ⟨b, o + 2, none⟩ = some (.int .i64 s.fmt) ∧ w.cell? ⟨b, o + 3, none⟩ = some (.slice s.begins.a s.begins.n s.begins.cap) :=
  ⟨h 0 (by decide), h 1 (by decide), h 2 (by decide), h 3 (by decide)⟩
theorem Sta.at0 {w : World} {b : Nat} {s : Sta} (h : staL.In w b 0 s) : w.cell? ⟨b, 0, none⟩ = some (.int .i64 s.seg) ∧ w.cell? ⟨b, 1, none⟩ = some (.int .i64 s.page) ∧ w.cell? ⟨b, 2, none⟩ = some (.int .i64 s.fmt) ∧ w.cell? ⟨b, 3, none⟩ = some (.slice s.begins.a s.begins.n s.begins.cap) := by
  obtain ⟨h0, h1, h2, h3⟩ := Sta.at h
  simp only [Nat.zero_add] at h1 h2 h3
  exact ⟨h0, h1, h2, h3⟩
theorem Sta.boxed (w : World) (s : Sta) (T : TypeId) : staL.In (w.alloc (.cells #[.int .i64 s.seg, .int .i64 s.page, .int .i64 s.fmt, .slice s.begins.a s.begins.n s.begins.cap] T)) w.heap.size 0 s := fun c _ => by
  rw [cell_of_heap (heap_alloc_eq w _), Nat.zero_add]
  exact List.getElem?_toArray ..
/-- A record in a block of its own: made, written, a field written. -/
theorem Sta.box (w : World) (s : Sta) (T : TypeId) : staL.Box (w.alloc (.cells #[.int .i64 s.seg, .int .i64 s.page, .int .i64 s.fmt, .slice s.begins.a s.begins.n s.begins.cap] T)) w.heap.size s := Lay.Box.of_alloc (L := staL) w s T
theorem Sta.boxAt (w : World) (s : Sta) (T : TypeId) {b : Nat} (hb : b = w.heap.size) : staL.Box (w.alloc (.cells #[.int .i64 s.seg, .int .i64 s.page, .int .i64 s.fmt, .slice s.begins.a s.begins.n s.begins.cap] T)) b s := by rw [hb]; exact Sta.box w s T
theorem Sta.put0 {w : World} {g : Nat} {y : Sta} (h : staL.Box w g y) (s : Sta) : staL.Box ((((w.setCell ⟨g, 0, none⟩ (.int .i64 s.seg)).setCell ⟨g, 1, none⟩ (.int .i64 s.page)).setCell ⟨g, 2, none⟩ (.int .i64 s.fmt)).setCell ⟨g, 3, none⟩ (.slice s.begins.a s.begins.n s.begins.cap)) g s := Lay.Box.put h s
theorem Sta.chg0 (w : World) (g : Nat) (s : Sta) : Chg [g] w ((((w.setCell ⟨g, 0, none⟩ (.int .i64 s.seg)).setCell ⟨g, 1, none⟩ (.int .i64 s.page)).setCell ⟨g, 2, none⟩ (.int .i64 s.fmt)).setCell ⟨g, 3, none⟩ (.slice s.begins.a s.begins.n s.begins.cap)) := Lay.setW_chg g s.cells w 0
theorem Sta.set_seg {w : World} {g : Nat} {s : Sta} (h : staL.Box w g s) (x : Int) : staL.Box (w.setCell ⟨g, 0, none⟩ (.int .i64 x)) g { s with seg := x } := Lay.Box.set h 0 _ _ rfl
theorem Sta.set_page {w : World} {g : Nat} {s : Sta} (h : staL.Box w g s) (x : Int) : staL.Box (w.setCell ⟨g, 1, none⟩ (.int .i64 x)) g { s with page := x } := Lay.Box.set h 1 _ _ rfl
theorem Sta.set_fmt {w : World} {g : Nat} {s : Sta} (h : staL.Box w g s) (x : Int) : staL.Box (w.setCell ⟨g, 2, none⟩ (.int .i64 x)) g { s with fmt := x } := Lay.Box.set h 2 _ _ rfl
theorem Sta.set_begins {w : World} {g : Nat} {s : Sta} (h : staL.Box w g s) (x : SlV) : staL.Box (w.setCell ⟨g, 3, none⟩ (.slice x.a x.n x.cap)) g { s with begins := x } := Lay.Box.set h 3 _ _ rfl
theorem Sta.c_seg {w : World} {b : Nat} {s : Sta} (h : staL.Box w b s) : w.cell? ⟨b, 0, none⟩ = some (.int .i64 s.seg) := by have := h.in 0 (by decide); rw [Nat.zero_add] at this; exact this
theorem Sta.c_page {w : World} {b : Nat} {s : Sta} (h : staL.Box w b s) : w.cell? ⟨b, 1, none⟩ = some (.int .i64 s.page) := by have := h.in 1 (by decide); rw [Nat.zero_add] at this; exact this
theorem Sta.c_fmt {w : World} {b : Nat} {s : Sta} (h : staL.Box w b s) : w.cell? ⟨b, 2, none⟩ = some (.int .i64 s.fmt) := by have := h.in 2 (by decide); rw [Nat.zero_add] at this; exact this
theorem Sta.c_begins {w : World} {b : Nat} {s : Sta} (h : staL.Box w b s) : w.cell? ⟨b, 3, none⟩ = some (.slice s.begins.a s.begins.n s.begins.cap) := by have := h.in 3 (by decide); rw [Nat.zero_add] at this; exact this
theorem Sta.at0B {w : World} {b : Nat} {s : Sta} (h : staL.Box w b s) : w.cell? ⟨b, 0, none⟩ = some (.int .i64 s.seg) ∧ w.cell? ⟨b, 1, none⟩ = some (.int .i64 s.page) ∧ w.cell? ⟨b, 2, none⟩ = some (.int .i64 s.fmt) ∧ w.cell? ⟨b, 3, none⟩ = some (.slice s.begins.a s.begins.n s.begins.cap) := Sta.at0 h.in
end Go.Proofs.YtpnldfinobnpoaaGreatDoor
