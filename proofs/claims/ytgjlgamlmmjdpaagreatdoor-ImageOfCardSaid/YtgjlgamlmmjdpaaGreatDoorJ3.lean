/- Lemmas, laid together: part 3 of 43. Conditions: none but each lemma's own. -/
import Derived.Test.YtgjlgamlmmjdpaaGreatDoorJ2
import Derived.Lib.Strings
/- Records: segments, images (printed by mkrecs.sh). -/
namespace Go.Proofs.YtgjlgamlmmjdpaaGreatDoor
open Go.RowKit
set_option maxRecDepth 100000

/-- A record Seg. -/
structure Seg where
  name : ByteArray
  addr : Int
  size : Int
  off : Int
  fsize : Int
  prot : Int
  secs : SlV
def Seg.cells (s : Seg) : List Value := [.string s.name, .int .u64 s.addr, .int .u64 s.size, .int .u64 s.off, .int .u64 s.fsize, .int .i64 s.prot, .slice s.secs.a s.secs.n s.secs.cap]
abbrev Seg.v (s : Seg) : Value := .agg #[.string s.name, .int .u64 s.addr, .int .u64 s.size, .int .u64 s.off, .int .u64 s.fsize, .int .i64 s.prot, .slice s.secs.a s.secs.n s.secs.cap]
/-- Its numbers are of their kinds. -/
def Seg.wf (s : Seg) : Prop := (Lit.int .u64 s.addr).wf = true ∧ (Lit.int .u64 s.size).wf = true ∧ (Lit.int .u64 s.off).wf = true ∧ (Lit.int .u64 s.fsize).wf = true ∧ (Lit.int .i64 s.prot).wf = true
def Seg.zero : Seg := ⟨⟨#[]⟩, 0, 0, 0, 0, 0, ⟨none, 0, 0⟩⟩
def segL : Lay Seg := ⟨7, Seg.cells, Seg.zero, fun _ => rfl, by decide, fun x u hu => by
  simp only [Seg.cells, List.mem_cons, List.not_mem_nil, or_false] at hu
  rcases hu with rfl | rfl | rfl | rfl | rfl | rfl | rfl <;> rfl⟩
theorem Seg.at {w : World} {b o : Nat} {s : Seg} (h : segL.In w b o s) : w.cell? ⟨b, o, none⟩ = some (.string s.name) ∧ w.cell? ⟨b, o + 1, none⟩ = some (.int .u64 s.addr) ∧ w.cell? ⟨b, o + 2, none⟩ = some (.int .u64 s.size) ∧ w.cell? ⟨b, o + 3, none⟩ = some (.int .u64 s.off) ∧ w.cell? ⟨b, o + 4, none⟩ = some (.int .u64 s.fsize) ∧ w.cell? ⟨b, o + 5, none⟩ = some (.int .i64 s.prot) ∧ w.cell? ⟨b, o + 6, none⟩ = some (.slice s.secs.a s.secs.n s.secs.cap) :=
  ⟨h 0 (by decide), h 1 (by decide), h 2 (by decide), h 3 (by decide), h 4 (by decide), h 5 (by decide), h 6 (by decide)⟩
theorem Seg.at0 {w : World} {b : Nat} {s : Seg} (h : segL.In w b 0 s) : w.cell? ⟨b, 0, none⟩ = some (.string s.name) ∧ w.cell? ⟨b, 1, none⟩ = some (.int .u64 s.addr) ∧ w.cell? ⟨b, 2, none⟩ = some (.int .u64 s.size) ∧ w.cell? ⟨b, 3, none⟩ = some (.int .u64 s.off) ∧ w.cell? ⟨b, 4, none⟩ = some (.int .u64 s.fsize) ∧ w.cell? ⟨b, 5, none⟩ = some (.int .i64 s.prot) ∧ w.cell? ⟨b, 6, none⟩ = some (.slice s.secs.a s.secs.n s.secs.cap) := by
  obtain ⟨h0, h1, h2, h3, h4, h5, h6⟩ := Seg.at h
  simp only [Nat.zero_add] at h1 h2 h3 h4 h5 h6
  exact ⟨h0, h1, h2, h3, h4, h5, h6⟩
theorem Seg.boxed (w : World) (s : Seg) (T : TypeId) : segL.In (w.alloc (.cells #[.string s.name, .int .u64 s.addr, .int .u64 s.size, .int .u64 s.off, .int .u64 s.fsize, .int .i64 s.prot, .slice s.secs.a s.secs.n s.secs.cap] T)) w.heap.size 0 s := fun c _ => by
  rw [cell_of_heap (heap_alloc_eq w _), Nat.zero_add]
  exact List.getElem?_toArray ..
/-- A record in a block of its own: made, written, a field written. -/
theorem Seg.box (w : World) (s : Seg) (T : TypeId) : segL.Box (w.alloc (.cells #[.string s.name, .int .u64 s.addr, .int .u64 s.size, .int .u64 s.off, .int .u64 s.fsize, .int .i64 s.prot, .slice s.secs.a s.secs.n s.secs.cap] T)) w.heap.size s := Lay.Box.of_alloc (L := segL) w s T
theorem Seg.boxAt (w : World) (s : Seg) (T : TypeId) {b : Nat} (hb : b = w.heap.size) : segL.Box (w.alloc (.cells #[.string s.name, .int .u64 s.addr, .int .u64 s.size, .int .u64 s.off, .int .u64 s.fsize, .int .i64 s.prot, .slice s.secs.a s.secs.n s.secs.cap] T)) b s := by rw [hb]; exact Seg.box w s T
theorem Seg.put0 {w : World} {g : Nat} {y : Seg} (h : segL.Box w g y) (s : Seg) : segL.Box (((((((w.setCell ⟨g, 0, none⟩ (.string s.name)).setCell ⟨g, 1, none⟩ (.int .u64 s.addr)).setCell ⟨g, 2, none⟩ (.int .u64 s.size)).setCell ⟨g, 3, none⟩ (.int .u64 s.off)).setCell ⟨g, 4, none⟩ (.int .u64 s.fsize)).setCell ⟨g, 5, none⟩ (.int .i64 s.prot)).setCell ⟨g, 6, none⟩ (.slice s.secs.a s.secs.n s.secs.cap)) g s := Lay.Box.put h s
theorem Seg.chg0 (w : World) (g : Nat) (s : Seg) : Chg [g] w (((((((w.setCell ⟨g, 0, none⟩ (.string s.name)).setCell ⟨g, 1, none⟩ (.int .u64 s.addr)).setCell ⟨g, 2, none⟩ (.int .u64 s.size)).setCell ⟨g, 3, none⟩ (.int .u64 s.off)).setCell ⟨g, 4, none⟩ (.int .u64 s.fsize)).setCell ⟨g, 5, none⟩ (.int .i64 s.prot)).setCell ⟨g, 6, none⟩ (.slice s.secs.a s.secs.n s.secs.cap)) := Lay.setW_chg g s.cells w 0
theorem Seg.set_name {w : World} {g : Nat} {s : Seg} (h : segL.Box w g s) (x : ByteArray) : segL.Box (w.setCell ⟨g, 0, none⟩ (.string x)) g { s with name := x } := Lay.Box.set h 0 _ _ rfl
theorem Seg.set_addr {w : World} {g : Nat} {s : Seg} (h : segL.Box w g s) (x : Int) : segL.Box (w.setCell ⟨g, 1, none⟩ (.int .u64 x)) g { s with addr := x } := Lay.Box.set h 1 _ _ rfl
theorem Seg.set_size {w : World} {g : Nat} {s : Seg} (h : segL.Box w g s) (x : Int) : segL.Box (w.setCell ⟨g, 2, none⟩ (.int .u64 x)) g { s with size := x } := Lay.Box.set h 2 _ _ rfl
theorem Seg.set_off {w : World} {g : Nat} {s : Seg} (h : segL.Box w g s) (x : Int) : segL.Box (w.setCell ⟨g, 3, none⟩ (.int .u64 x)) g { s with off := x } := Lay.Box.set h 3 _ _ rfl
theorem Seg.set_fsize {w : World} {g : Nat} {s : Seg} (h : segL.Box w g s) (x : Int) : segL.Box (w.setCell ⟨g, 4, none⟩ (.int .u64 x)) g { s with fsize := x } := Lay.Box.set h 4 _ _ rfl
theorem Seg.set_prot {w : World} {g : Nat} {s : Seg} (h : segL.Box w g s) (x : Int) : segL.Box (w.setCell ⟨g, 5, none⟩ (.int .i64 x)) g { s with prot := x } := Lay.Box.set h 5 _ _ rfl
theorem Seg.set_secs {w : World} {g : Nat} {s : Seg} (h : segL.Box w g s) (x : SlV) : segL.Box (w.setCell ⟨g, 6, none⟩ (.slice x.a x.n x.cap)) g { s with secs := x } := Lay.Box.set h 6 _ _ rfl
theorem Seg.c_name {w : World} {b : Nat} {s : Seg} (h : segL.Box w b s) : w.cell? ⟨b, 0, none⟩ = some (.string s.name) := by have := h.in 0 (by decide); rw [Nat.zero_add] at this; exact this
theorem Seg.c_addr {w : World} {b : Nat} {s : Seg} (h : segL.Box w b s) : w.cell? ⟨b, 1, none⟩ = some (.int .u64 s.addr) := by have := h.in 1 (by decide); rw [Nat.zero_add] at this; exact this
theorem Seg.c_size {w : World} {b : Nat} {s : Seg} (h : segL.Box w b s) : w.cell? ⟨b, 2, none⟩ = some (.int .u64 s.size) := by have := h.in 2 (by decide); rw [Nat.zero_add] at this; exact this
theorem Seg.c_off {w : World} {b : Nat} {s : Seg} (h : segL.Box w b s) : w.cell? ⟨b, 3, none⟩ = some (.int .u64 s.off) := by have := h.in 3 (by decide); rw [Nat.zero_add] at this; exact this
theorem Seg.c_fsize {w : World} {b : Nat} {s : Seg} (h : segL.Box w b s) : w.cell? ⟨b, 4, none⟩ = some (.int .u64 s.fsize) := by have := h.in 4 (by decide); rw [Nat.zero_add] at this; exact this
theorem Seg.c_prot {w : World} {b : Nat} {s : Seg} (h : segL.Box w b s) : w.cell? ⟨b, 5, none⟩ = some (.int .i64 s.prot) := by have := h.in 5 (by decide); rw [Nat.zero_add] at this; exact this
theorem Seg.c_secs {w : World} {b : Nat} {s : Seg} (h : segL.Box w b s) : w.cell? ⟨b, 6, none⟩ = some (.slice s.secs.a s.secs.n s.secs.cap) := by have := h.in 6 (by decide); rw [Nat.zero_add] at this; exact this
theorem Seg.at0B {w : World} {b : Nat} {s : Seg} (h : segL.Box w b s) : w.cell? ⟨b, 0, none⟩ = some (.string s.name) ∧ w.cell? ⟨b, 1, none⟩ = some (.int .u64 s.addr) ∧ w.cell? ⟨b, 2, none⟩ = some (.int .u64 s.size) ∧ w.cell? ⟨b, 3, none⟩ = some (.int .u64 s.off) ∧ w.cell? ⟨b, 4, none⟩ = some (.int .u64 s.fsize) ∧ w.cell? ⟨b, 5, none⟩ = some (.int .i64 s.prot) ∧ w.cell? ⟨b, 6, none⟩ = some (.slice s.secs.a s.secs.n s.secs.cap) := Seg.at0 h.in
/-- A record Img. -/
structure Img where
  kind : Int
  sub : Int
  flags : Int
  name : ByteArray
  segs : SlV
  deps : SlV
  rbO : Int
  rbS : Int
  bdO : Int
  bdS : Int
  wkO : Int
  wkS : Int
  lzO : Int
  lzS : Int
  trO : Int
  trS : Int
  chO : Int
  chS : Int
  syO : Int
  syS : Int
  stO : Int
  stS : Int
  entry : Int
  has : Bool
def Img.cells (s : Img) : List Value := [.int .i64 s.kind, .int .i64 s.sub, .int .u32 s.flags, .string s.name, .slice s.segs.a s.segs.n s.segs.cap, .slice s.deps.a s.deps.n s.deps.cap, .int .u64 s.rbO, .int .u64 s.rbS, .int .u64 s.bdO, .int .u64 s.bdS, .int .u64 s.wkO, .int .u64 s.wkS, .int .u64 s.lzO, .int .u64 s.lzS, .int .u64 s.trO, .int .u64 s.trS, .int .u64 s.chO, .int .u64 s.chS, .int .u64 s.syO, .int .u64 s.syS, .int .u64 s.stO, .int .u64 s.stS, .int .u64 s.entry, .bool s.has]
abbrev Img.v (s : Img) : Value := .agg #[.int .i64 s.kind, .int .i64 s.sub, .int .u32 s.flags, .string s.name, .slice s.segs.a s.segs.n s.segs.cap, .slice s.deps.a s.deps.n s.deps.cap, .int .u64 s.rbO, .int .u64 s.rbS, .int .u64 s.bdO, .int .u64 s.bdS, .int .u64 s.wkO, .int .u64 s.wkS, .int .u64 s.lzO, .int .u64 s.lzS, .int .u64 s.trO, .int .u64 s.trS, .int .u64 s.chO, .int .u64 s.chS, .int .u64 s.syO, .int .u64 s.syS, .int .u64 s.stO, .int .u64 s.stS, .int .u64 s.entry, .bool s.has]
/-- Its numbers are of their kinds. -/
def Img.wf (s : Img) : Prop := (Lit.int .i64 s.kind).wf = true ∧ (Lit.int .i64 s.sub).wf = true ∧ (Lit.int .u32 s.flags).wf = true ∧ (Lit.int .u64 s.rbO).wf = true ∧ (Lit.int .u64 s.rbS).wf = true ∧ (Lit.int .u64 s.bdO).wf = true ∧ (Lit.int .u64 s.bdS).wf = true ∧ (Lit.int .u64 s.wkO).wf = true ∧ (Lit.int .u64 s.wkS).wf = true ∧ (Lit.int .u64 s.lzO).wf = true ∧ (Lit.int .u64 s.lzS).wf = true ∧ (Lit.int .u64 s.trO).wf = true ∧ (Lit.int .u64 s.trS).wf = true ∧ (Lit.int .u64 s.chO).wf = true ∧ (Lit.int .u64 s.chS).wf = true ∧ (Lit.int .u64 s.syO).wf = true ∧ (Lit.int .u64 s.syS).wf = true ∧ (Lit.int .u64 s.stO).wf = true ∧ (Lit.int .u64 s.stS).wf = true ∧ (Lit.int .u64 s.entry).wf = true
def Img.zero : Img := ⟨0, 0, 0, ⟨#[]⟩, ⟨none, 0, 0⟩, ⟨none, 0, 0⟩, 0, 0, 0, 0, 0, 0, 0, 0, 0, 0, 0, 0, 0, 0, 0, 0, 0, false⟩
def imgL : Lay Img := ⟨24, Img.cells, Img.zero, fun _ => rfl, by decide, fun x u hu => by
  simp only [Img.cells, List.mem_cons, List.not_mem_nil, or_false] at hu
  rcases hu with rfl | rfl | rfl | rfl | rfl | rfl | rfl | rfl | rfl | rfl | rfl | rfl | rfl | rfl | rfl | rfl | rfl | rfl | rfl | rfl | rfl | rfl | rfl | rfl <;> rfl⟩
theorem Img.at {w : World} {b o : Nat} {s : Img} (h : imgL.In w b o s) : w.cell? ⟨b, o, none⟩ = some (.int .i64 s.kind) ∧ w.cell? ⟨b, o + 1, none⟩ = some (.int .i64 s.sub) ∧ w.cell? ⟨b, o + 2, none⟩ = some (.int .u32 s.flags) ∧ w.cell? ⟨b, o + 3, none⟩ = some (.string s.name) ∧ w.cell? ⟨b, o + 4, none⟩ = some (.slice s.segs.a s.segs.n s.segs.cap) ∧ w.cell? ⟨b, o + 5, none⟩ = some (.slice s.deps.a s.deps.n s.deps.cap) ∧ w.cell? ⟨b, o + 6, none⟩ = some (.int .u64 s.rbO) ∧ w.cell? ⟨b, o + 7, none⟩ = some (.int .u64 s.rbS) ∧ w.cell? ⟨b, o + 8, none⟩ = some (.int .u64 s.bdO) ∧ w.cell? ⟨b, o + 9, none⟩ = some (.int .u64 s.bdS) ∧ w.cell? ⟨b, o + 10, none⟩ = some (.int .u64 s.wkO) ∧ w.cell? ⟨b, o + 11, none⟩ = some (.int .u64 s.wkS) ∧ w.cell? ⟨b, o + 12, none⟩ = some (.int .u64 s.lzO) ∧ w.cell? ⟨b, o + 13, none⟩ = some (.int .u64 s.lzS) ∧ w.cell? ⟨b, o + 14, none⟩ = some (.int .u64 s.trO) ∧ w.cell? ⟨b, o + 15, none⟩ = some (.int .u64 s.trS) ∧ w.cell? ⟨b, o + 16, none⟩ = some (.int .u64 s.chO) ∧ w.cell? ⟨b, o + 17, none⟩ = some (.int .u64 s.chS) ∧ w.cell? ⟨b, o + 18, none⟩ = some (.int .u64 s.syO) ∧ w.cell? ⟨b, o + 19, none⟩ = some (.int .u64 s.syS) ∧ w.cell? ⟨b, o + 20, none⟩ = some (.int .u64 s.stO) ∧ w.cell? ⟨b, o + 21, none⟩ = some (.int .u64 s.stS) ∧ w.cell? ⟨b, o + 22, none⟩ = some (.int .u64 s.entry) ∧ w.cell? ⟨b, o + 23, none⟩ = some (.bool s.has) :=
  ⟨h 0 (by decide), h 1 (by decide), h 2 (by decide), h 3 (by decide), h 4 (by decide), h 5 (by decide), h 6 (by decide), h 7 (by decide), h 8 (by decide), h 9 (by decide), h 10 (by decide), h 11 (by decide), h 12 (by decide), h 13 (by decide), h 14 (by decide), h 15 (by decide), h 16 (by decide), h 17 (by decide), h 18 (by decide), h 19 (by decide), h 20 (by decide), h 21 (by decide), h 22 (by decide), h 23 (by decide)⟩
theorem Img.at0 {w : World} {b : Nat} {s : Img} (h : imgL.In w b 0 s) : w.cell? ⟨b, 0, none⟩ = some (.int .i64 s.kind) ∧ w.cell? ⟨b, 1, none⟩ = some (.int .i64 s.sub) ∧ w.cell? ⟨b, 2, none⟩ = some (.int .u32 s.flags) ∧ w.cell? ⟨b, 3, none⟩ = some (.string s.name) ∧ w.cell? ⟨b, 4, none⟩ = some (.slice s.segs.a s.segs.n s.segs.cap) ∧ w.cell? ⟨b, 5, none⟩ = some (.slice s.deps.a s.deps.n s.deps.cap) ∧ w.cell? ⟨b, 6, none⟩ = some (.int .u64 s.rbO) ∧ w.cell? ⟨b, 7, none⟩ = some (.int .u64 s.rbS) ∧ w.cell? ⟨b, 8, none⟩ = some (.int .u64 s.bdO) ∧ w.cell? ⟨b, 9, none⟩ = some (.int .u64 s.bdS) ∧ w.cell? ⟨b, 10, none⟩ = some (.int .u64 s.wkO) ∧ w.cell? ⟨b, 11, none⟩ = some (.int .u64 s.wkS) ∧ w.cell? ⟨b, 12, none⟩ = some (.int .u64 s.lzO) ∧ w.cell? ⟨b, 13, none⟩ = some (.int .u64 s.lzS) ∧ w.cell? ⟨b, 14, none⟩ = some (.int .u64 s.trO) ∧ w.cell? ⟨b, 15, none⟩ = some (.int .u64 s.trS) ∧ w.cell? ⟨b, 16, none⟩ = some (.int .u64 s.chO) ∧ w.cell? ⟨b, 17, none⟩ = some (.int .u64 s.chS) ∧ w.cell? ⟨b, 18, none⟩ = some (.int .u64 s.syO) ∧ w.cell? ⟨b, 19, none⟩ = some (.int .u64 s.syS) ∧ w.cell? ⟨b, 20, none⟩ = some (.int .u64 s.stO) ∧ w.cell? ⟨b, 21, none⟩ = some (.int .u64 s.stS) ∧ w.cell? ⟨b, 22, none⟩ = some (.int .u64 s.entry) ∧ w.cell? ⟨b, 23, none⟩ = some (.bool s.has) := by
  obtain ⟨h0, h1, h2, h3, h4, h5, h6, h7, h8, h9, h10, h11, h12, h13, h14, h15, h16, h17, h18, h19, h20, h21, h22, h23⟩ := Img.at h
  simp only [Nat.zero_add] at h1 h2 h3 h4 h5 h6 h7 h8 h9 h10 h11 h12 h13 h14 h15 h16 h17 h18 h19 h20 h21 h22 h23
  exact ⟨h0, h1, h2, h3, h4, h5, h6, h7, h8, h9, h10, h11, h12, h13, h14, h15, h16, h17, h18, h19, h20, h21, h22, h23⟩
theorem Img.boxed (w : World) (s : Img) (T : TypeId) : imgL.In (w.alloc (.cells #[.int .i64 s.kind, .int .i64 s.sub, .int .u32 s.flags, .string s.name, .slice s.segs.a s.segs.n s.segs.cap, .slice s.deps.a s.deps.n s.deps.cap, .int .u64 s.rbO, .int .u64 s.rbS, .int .u64 s.bdO, .int .u64 s.bdS, .int .u64 s.wkO, .int .u64 s.wkS, .int .u64 s.lzO, .int .u64 s.lzS, .int .u64 s.trO, .int .u64 s.trS, .int .u64 s.chO, .int .u64 s.chS, .int .u64 s.syO, .int .u64 s.syS, .int .u64 s.stO, .int .u64 s.stS, .int .u64 s.entry, .bool s.has] T)) w.heap.size 0 s := fun c _ => by
  rw [cell_of_heap (heap_alloc_eq w _), Nat.zero_add]
  exact List.getElem?_toArray ..
/-- A record in a block of its own: made, written, a field written. -/
theorem Img.box (w : World) (s : Img) (T : TypeId) : imgL.Box (w.alloc (.cells #[.int .i64 s.kind, .int .i64 s.sub, .int .u32 s.flags, .string s.name, .slice s.segs.a s.segs.n s.segs.cap, .slice s.deps.a s.deps.n s.deps.cap, .int .u64 s.rbO, .int .u64 s.rbS, .int .u64 s.bdO, .int .u64 s.bdS, .int .u64 s.wkO, .int .u64 s.wkS, .int .u64 s.lzO, .int .u64 s.lzS, .int .u64 s.trO, .int .u64 s.trS, .int .u64 s.chO, .int .u64 s.chS, .int .u64 s.syO, .int .u64 s.syS, .int .u64 s.stO, .int .u64 s.stS, .int .u64 s.entry, .bool s.has] T)) w.heap.size s := Lay.Box.of_alloc (L := imgL) w s T
theorem Img.boxAt (w : World) (s : Img) (T : TypeId) {b : Nat} (hb : b = w.heap.size) : imgL.Box (w.alloc (.cells #[.int .i64 s.kind, .int .i64 s.sub, .int .u32 s.flags, .string s.name, .slice s.segs.a s.segs.n s.segs.cap, .slice s.deps.a s.deps.n s.deps.cap, .int .u64 s.rbO, .int .u64 s.rbS, .int .u64 s.bdO, .int .u64 s.bdS, .int .u64 s.wkO, .int .u64 s.wkS, .int .u64 s.lzO, .int .u64 s.lzS, .int .u64 s.trO, .int .u64 s.trS, .int .u64 s.chO, .int .u64 s.chS, .int .u64 s.syO, .int .u64 s.syS, .int .u64 s.stO, .int .u64 s.stS, .int .u64 s.entry, .bool s.has] T)) b s := by rw [hb]; exact Img.box w s T
theorem Img.put0 {w : World} {g : Nat} {y : Img} (h : imgL.Box w g y) (s : Img) : imgL.Box ((((((((((((((((((((((((w.setCell ⟨g, 0, none⟩ (.int .i64 s.kind)).setCell ⟨g, 1, none⟩ (.int .i64 s.sub)).setCell ⟨g, 2, none⟩ (.int .u32 s.flags)).setCell ⟨g, 3, none⟩ (.string s.name)).setCell ⟨g, 4, none⟩ (.slice s.segs.a s.segs.n s.segs.cap)).setCell ⟨g, 5, none⟩ (.slice s.deps.a s.deps.n s.deps.cap)).setCell ⟨g, 6, none⟩ (.int .u64 s.rbO)).setCell ⟨g, 7, none⟩ (.int .u64 s.rbS)).setCell ⟨g, 8, none⟩ (.int .u64 s.bdO)).setCell ⟨g, 9, none⟩ (.int .u64 s.bdS)).setCell ⟨g, 10, none⟩ (.int .u64 s.wkO)).setCell ⟨g, 11, none⟩ (.int .u64 s.wkS)).setCell ⟨g, 12, none⟩ (.int .u64 s.lzO)).setCell ⟨g, 13, none⟩ (.int .u64 s.lzS)).setCell ⟨g, 14, none⟩ (.int .u64 s.trO)).setCell ⟨g, 15, none⟩ (.int .u64 s.trS)).setCell ⟨g, 16, none⟩ (.int .u64 s.chO)).setCell ⟨g, 17, none⟩ (.int .u64 s.chS)).setCell ⟨g, 18, none⟩ (.int .u64 s.syO)).setCell ⟨g, 19, none⟩ (.int .u64 s.syS)).setCell ⟨g, 20, none⟩ (.int .u64 s.stO)).setCell ⟨g, 21, none⟩ (.int .u64 s.stS)).setCell ⟨g, 22, none⟩ (.int .u64 s.entry)).setCell ⟨g, 23, none⟩ (.bool s.has)) g s := Lay.Box.put h s
theorem Img.chg0 (w : World) (g : Nat) (s : Img) : Chg [g] w ((((((((((((((((((((((((w.setCell ⟨g, 0, none⟩ (.int .i64 s.kind)).setCell ⟨g, 1, none⟩ (.int .i64 s.sub)).setCell ⟨g, 2, none⟩ (.int .u32 s.flags)).setCell ⟨g, 3, none⟩ (.string s.name)).setCell ⟨g, 4, none⟩ (.slice s.segs.a s.segs.n s.segs.cap)).setCell ⟨g, 5, none⟩ (.slice s.deps.a s.deps.n s.deps.cap)).setCell ⟨g, 6, none⟩ (.int .u64 s.rbO)).setCell ⟨g, 7, none⟩ (.int .u64 s.rbS)).setCell ⟨g, 8, none⟩ (.int .u64 s.bdO)).setCell ⟨g, 9, none⟩ (.int .u64 s.bdS)).setCell ⟨g, 10, none⟩ (.int .u64 s.wkO)).setCell ⟨g, 11, none⟩ (.int .u64 s.wkS)).setCell ⟨g, 12, none⟩ (.int .u64 s.lzO)).setCell ⟨g, 13, none⟩ (.int .u64 s.lzS)).setCell ⟨g, 14, none⟩ (.int .u64 s.trO)).setCell ⟨g, 15, none⟩ (.int .u64 s.trS)).setCell ⟨g, 16, none⟩ (.int .u64 s.chO)).setCell ⟨g, 17, none⟩ (.int .u64 s.chS)).setCell ⟨g, 18, none⟩ (.int .u64 s.syO)).setCell ⟨g, 19, none⟩ (.int .u64 s.syS)).setCell ⟨g, 20, none⟩ (.int .u64 s.stO)).setCell ⟨g, 21, none⟩ (.int .u64 s.stS)).setCell ⟨g, 22, none⟩ (.int .u64 s.entry)).setCell ⟨g, 23, none⟩ (.bool s.has)) := Lay.setW_chg g s.cells w 0
theorem Img.set_kind {w : World} {g : Nat} {s : Img} (h : imgL.Box w g s) (x : Int) : imgL.Box (w.setCell ⟨g, 0, none⟩ (.int .i64 x)) g { s with kind := x } := Lay.Box.set h 0 _ _ rfl
theorem Img.set_sub {w : World} {g : Nat} {s : Img} (h : imgL.Box w g s) (x : Int) : imgL.Box (w.setCell ⟨g, 1, none⟩ (.int .i64 x)) g { s with sub := x } := Lay.Box.set h 1 _ _ rfl
theorem Img.set_flags {w : World} {g : Nat} {s : Img} (h : imgL.Box w g s) (x : Int) : imgL.Box (w.setCell ⟨g, 2, none⟩ (.int .u32 x)) g { s with flags := x } := Lay.Box.set h 2 _ _ rfl
theorem Img.set_name {w : World} {g : Nat} {s : Img} (h : imgL.Box w g s) (x : ByteArray) : imgL.Box (w.setCell ⟨g, 3, none⟩ (.string x)) g { s with name := x } := Lay.Box.set h 3 _ _ rfl
theorem Img.set_segs {w : World} {g : Nat} {s : Img} (h : imgL.Box w g s) (x : SlV) : imgL.Box (w.setCell ⟨g, 4, none⟩ (.slice x.a x.n x.cap)) g { s with segs := x } := Lay.Box.set h 4 _ _ rfl
theorem Img.set_deps {w : World} {g : Nat} {s : Img} (h : imgL.Box w g s) (x : SlV) : imgL.Box (w.setCell ⟨g, 5, none⟩ (.slice x.a x.n x.cap)) g { s with deps := x } := Lay.Box.set h 5 _ _ rfl
theorem Img.set_rbO {w : World} {g : Nat} {s : Img} (h : imgL.Box w g s) (x : Int) : imgL.Box (w.setCell ⟨g, 6, none⟩ (.int .u64 x)) g { s with rbO := x } := Lay.Box.set h 6 _ _ rfl
theorem Img.set_rbS {w : World} {g : Nat} {s : Img} (h : imgL.Box w g s) (x : Int) : imgL.Box (w.setCell ⟨g, 7, none⟩ (.int .u64 x)) g { s with rbS := x } := Lay.Box.set h 7 _ _ rfl
theorem Img.set_bdO {w : World} {g : Nat} {s : Img} (h : imgL.Box w g s) (x : Int) : imgL.Box (w.setCell ⟨g, 8, none⟩ (.int .u64 x)) g { s with bdO := x } := Lay.Box.set h 8 _ _ rfl
theorem Img.set_bdS {w : World} {g : Nat} {s : Img} (h : imgL.Box w g s) (x : Int) : imgL.Box (w.setCell ⟨g, 9, none⟩ (.int .u64 x)) g { s with bdS := x } := Lay.Box.set h 9 _ _ rfl
theorem Img.set_wkO {w : World} {g : Nat} {s : Img} (h : imgL.Box w g s) (x : Int) : imgL.Box (w.setCell ⟨g, 10, none⟩ (.int .u64 x)) g { s with wkO := x } := Lay.Box.set h 10 _ _ rfl
theorem Img.set_wkS {w : World} {g : Nat} {s : Img} (h : imgL.Box w g s) (x : Int) : imgL.Box (w.setCell ⟨g, 11, none⟩ (.int .u64 x)) g { s with wkS := x } := Lay.Box.set h 11 _ _ rfl
theorem Img.set_lzO {w : World} {g : Nat} {s : Img} (h : imgL.Box w g s) (x : Int) : imgL.Box (w.setCell ⟨g, 12, none⟩ (.int .u64 x)) g { s with lzO := x } := Lay.Box.set h 12 _ _ rfl
theorem Img.set_lzS {w : World} {g : Nat} {s : Img} (h : imgL.Box w g s) (x : Int) : imgL.Box (w.setCell ⟨g, 13, none⟩ (.int .u64 x)) g { s with lzS := x } := Lay.Box.set h 13 _ _ rfl
theorem Img.set_trO {w : World} {g : Nat} {s : Img} (h : imgL.Box w g s) (x : Int) : imgL.Box (w.setCell ⟨g, 14, none⟩ (.int .u64 x)) g { s with trO := x } := Lay.Box.set h 14 _ _ rfl
theorem Img.set_trS {w : World} {g : Nat} {s : Img} (h : imgL.Box w g s) (x : Int) : imgL.Box (w.setCell ⟨g, 15, none⟩ (.int .u64 x)) g { s with trS := x } := Lay.Box.set h 15 _ _ rfl
theorem Img.set_chO {w : World} {g : Nat} {s : Img} (h : imgL.Box w g s) (x : Int) : imgL.Box (w.setCell ⟨g, 16, none⟩ (.int .u64 x)) g { s with chO := x } := Lay.Box.set h 16 _ _ rfl
theorem Img.set_chS {w : World} {g : Nat} {s : Img} (h : imgL.Box w g s) (x : Int) : imgL.Box (w.setCell ⟨g, 17, none⟩ (.int .u64 x)) g { s with chS := x } := Lay.Box.set h 17 _ _ rfl
theorem Img.set_syO {w : World} {g : Nat} {s : Img} (h : imgL.Box w g s) (x : Int) : imgL.Box (w.setCell ⟨g, 18, none⟩ (.int .u64 x)) g { s with syO := x } := Lay.Box.set h 18 _ _ rfl
theorem Img.set_syS {w : World} {g : Nat} {s : Img} (h : imgL.Box w g s) (x : Int) : imgL.Box (w.setCell ⟨g, 19, none⟩ (.int .u64 x)) g { s with syS := x } := Lay.Box.set h 19 _ _ rfl
theorem Img.set_stO {w : World} {g : Nat} {s : Img} (h : imgL.Box w g s) (x : Int) : imgL.Box (w.setCell ⟨g, 20, none⟩ (.int .u64 x)) g { s with stO := x } := Lay.Box.set h 20 _ _ rfl
theorem Img.set_stS {w : World} {g : Nat} {s : Img} (h : imgL.Box w g s) (x : Int) : imgL.Box (w.setCell ⟨g, 21, none⟩ (.int .u64 x)) g { s with stS := x } := Lay.Box.set h 21 _ _ rfl
theorem Img.set_entry {w : World} {g : Nat} {s : Img} (h : imgL.Box w g s) (x : Int) : imgL.Box (w.setCell ⟨g, 22, none⟩ (.int .u64 x)) g { s with entry := x } := Lay.Box.set h 22 _ _ rfl
theorem Img.set_has {w : World} {g : Nat} {s : Img} (h : imgL.Box w g s) (x : Bool) : imgL.Box (w.setCell ⟨g, 23, none⟩ (.bool x)) g { s with has := x } := Lay.Box.set h 23 _ _ rfl
theorem Img.c_kind {w : World} {b : Nat} {s : Img} (h : imgL.Box w b s) : w.cell? ⟨b, 0, none⟩ = some (.int .i64 s.kind) := by have := h.in 0 (by decide); rw [Nat.zero_add] at this; exact this
theorem Img.c_sub {w : World} {b : Nat} {s : Img} (h : imgL.Box w b s) : w.cell? ⟨b, 1, none⟩ = some (.int .i64 s.sub) := by have := h.in 1 (by decide); rw [Nat.zero_add] at this; exact this
theorem Img.c_flags {w : World} {b : Nat} {s : Img} (h : imgL.Box w b s) : w.cell? ⟨b, 2, none⟩ = some (.int .u32 s.flags) := by have := h.in 2 (by decide); rw [Nat.zero_add] at this; exact this
theorem Img.c_name {w : World} {b : Nat} {s : Img} (h : imgL.Box w b s) : w.cell? ⟨b, 3, none⟩ = some (.string s.name) := by have := h.in 3 (by decide); rw [Nat.zero_add] at this; exact this
theorem Img.c_segs {w : World} {b : Nat} {s : Img} (h : imgL.Box w b s) : w.cell? ⟨b, 4, none⟩ = some (.slice s.segs.a s.segs.n s.segs.cap) := by have := h.in 4 (by decide); rw [Nat.zero_add] at this; exact this
theorem Img.c_deps {w : World} {b : Nat} {s : Img} (h : imgL.Box w b s) : w.cell? ⟨b, 5, none⟩ = some (.slice s.deps.a s.deps.n s.deps.cap) := by have := h.in 5 (by decide); rw [Nat.zero_add] at this; exact this
theorem Img.c_rbO {w : World} {b : Nat} {s : Img} (h : imgL.Box w b s) : w.cell? ⟨b, 6, none⟩ = some (.int .u64 s.rbO) := by have := h.in 6 (by decide); rw [Nat.zero_add] at this; exact this
theorem Img.c_rbS {w : World} {b : Nat} {s : Img} (h : imgL.Box w b s) : w.cell? ⟨b, 7, none⟩ = some (.int .u64 s.rbS) := by have := h.in 7 (by decide); rw [Nat.zero_add] at this; exact this
theorem Img.c_bdO {w : World} {b : Nat} {s : Img} (h : imgL.Box w b s) : w.cell? ⟨b, 8, none⟩ = some (.int .u64 s.bdO) := by have := h.in 8 (by decide); rw [Nat.zero_add] at this; exact this
theorem Img.c_bdS {w : World} {b : Nat} {s : Img} (h : imgL.Box w b s) : w.cell? ⟨b, 9, none⟩ = some (.int .u64 s.bdS) := by have := h.in 9 (by decide); rw [Nat.zero_add] at this; exact this
theorem Img.c_wkO {w : World} {b : Nat} {s : Img} (h : imgL.Box w b s) : w.cell? ⟨b, 10, none⟩ = some (.int .u64 s.wkO) := by have := h.in 10 (by decide); rw [Nat.zero_add] at this; exact this
theorem Img.c_wkS {w : World} {b : Nat} {s : Img} (h : imgL.Box w b s) : w.cell? ⟨b, 11, none⟩ = some (.int .u64 s.wkS) := by have := h.in 11 (by decide); rw [Nat.zero_add] at this; exact this
theorem Img.c_lzO {w : World} {b : Nat} {s : Img} (h : imgL.Box w b s) : w.cell? ⟨b, 12, none⟩ = some (.int .u64 s.lzO) := by have := h.in 12 (by decide); rw [Nat.zero_add] at this; exact this
theorem Img.c_lzS {w : World} {b : Nat} {s : Img} (h : imgL.Box w b s) : w.cell? ⟨b, 13, none⟩ = some (.int .u64 s.lzS) := by have := h.in 13 (by decide); rw [Nat.zero_add] at this; exact this
theorem Img.c_trO {w : World} {b : Nat} {s : Img} (h : imgL.Box w b s) : w.cell? ⟨b, 14, none⟩ = some (.int .u64 s.trO) := by have := h.in 14 (by decide); rw [Nat.zero_add] at this; exact this
theorem Img.c_trS {w : World} {b : Nat} {s : Img} (h : imgL.Box w b s) : w.cell? ⟨b, 15, none⟩ = some (.int .u64 s.trS) := by have := h.in 15 (by decide); rw [Nat.zero_add] at this; exact this
theorem Img.c_chO {w : World} {b : Nat} {s : Img} (h : imgL.Box w b s) : w.cell? ⟨b, 16, none⟩ = some (.int .u64 s.chO) := by have := h.in 16 (by decide); rw [Nat.zero_add] at this; exact this
theorem Img.c_chS {w : World} {b : Nat} {s : Img} (h : imgL.Box w b s) : w.cell? ⟨b, 17, none⟩ = some (.int .u64 s.chS) := by have := h.in 17 (by decide); rw [Nat.zero_add] at this; exact this
theorem Img.c_syO {w : World} {b : Nat} {s : Img} (h : imgL.Box w b s) : w.cell? ⟨b, 18, none⟩ = some (.int .u64 s.syO) := by have := h.in 18 (by decide); rw [Nat.zero_add] at this; exact this
theorem Img.c_syS {w : World} {b : Nat} {s : Img} (h : imgL.Box w b s) : w.cell? ⟨b, 19, none⟩ = some (.int .u64 s.syS) := by have := h.in 19 (by decide); rw [Nat.zero_add] at this; exact this
theorem Img.c_stO {w : World} {b : Nat} {s : Img} (h : imgL.Box w b s) : w.cell? ⟨b, 20, none⟩ = some (.int .u64 s.stO) := by have := h.in 20 (by decide); rw [Nat.zero_add] at this; exact this
theorem Img.c_stS {w : World} {b : Nat} {s : Img} (h : imgL.Box w b s) : w.cell? ⟨b, 21, none⟩ = some (.int .u64 s.stS) := by have := h.in 21 (by decide); rw [Nat.zero_add] at this; exact this
theorem Img.c_entry {w : World} {b : Nat} {s : Img} (h : imgL.Box w b s) : w.cell? ⟨b, 22, none⟩ = some (.int .u64 s.entry) := by have := h.in 22 (by decide); rw [Nat.zero_add] at this; exact this
theorem Img.c_has {w : World} {b : Nat} {s : Img} (h : imgL.Box w b s) : w.cell? ⟨b, 23, none⟩ = some (.bool s.has) := by have := h.in 23 (by decide); rw [Nat.zero_add] at this; exact this
theorem Img.at0B {w : World} {b : Nat} {s : Img} (h : imgL.Box w b s) : w.cell? ⟨b, 0, none⟩ = some (.int .i64 s.kind) ∧ w.cell? ⟨b, 1, none⟩ = some (.int .i64 s.sub) ∧ w.cell? ⟨b, 2, none⟩ = some (.int .u32 s.flags) ∧ w.cell? ⟨b, 3, none⟩ = some (.string s.name) ∧ w.cell? ⟨b, 4, none⟩ = some (.slice s.segs.a s.segs.n s.segs.cap) ∧ w.cell? ⟨b, 5, none⟩ = some (.slice s.deps.a s.deps.n s.deps.cap) ∧ w.cell? ⟨b, 6, none⟩ = some (.int .u64 s.rbO) ∧ w.cell? ⟨b, 7, none⟩ = some (.int .u64 s.rbS) ∧ w.cell? ⟨b, 8, none⟩ = some (.int .u64 s.bdO) ∧ w.cell? ⟨b, 9, none⟩ = some (.int .u64 s.bdS) ∧ w.cell? ⟨b, 10, none⟩ = some (.int .u64 s.wkO) ∧ w.cell? ⟨b, 11, none⟩ = some (.int .u64 s.wkS) ∧ w.cell? ⟨b, 12, none⟩ = some (.int .u64 s.lzO) ∧ w.cell? ⟨b, 13, none⟩ = some (.int .u64 s.lzS) ∧ w.cell? ⟨b, 14, none⟩ = some (.int .u64 s.trO) ∧ w.cell? ⟨b, 15, none⟩ = some (.int .u64 s.trS) ∧ w.cell? ⟨b, 16, none⟩ = some (.int .u64 s.chO) ∧ w.cell? ⟨b, 17, none⟩ = some (.int .u64 s.chS) ∧ w.cell? ⟨b, 18, none⟩ = some (.int .u64 s.syO) ∧ w.cell? ⟨b, 19, none⟩ = some (.int .u64 s.syS) ∧ w.cell? ⟨b, 20, none⟩ = some (.int .u64 s.stO) ∧ w.cell? ⟨b, 21, none⟩ = some (.int .u64 s.stS) ∧ w.cell? ⟨b, 22, none⟩ = some (.int .u64 s.entry) ∧ w.cell? ⟨b, 23, none⟩ = some (.bool s.has) := Img.at0 h.in
end Go.Proofs.YtgjlgamlmmjdpaaGreatDoor
/- Plain: which segments may be, as the program goes over them and as the document says it. No program in sight. -/
namespace Go.Proofs.YtgjlgamlmmjdpaaGreatDoor
open Go.RowKit
set_option maxRecDepth 100000

def withinI (off size all : Int) : Bool := decide (off ≤ all) && decide (size ≤ all - off)
/-- May a segment's numbers be, in a file of n bytes? -/
def placeB (n : Int) (s : Seg) : Bool :=
  decide (0 ≤ s.prot) && (decide (s.prot ≤ 7) && (!(decide (s.prot = 0) && decide (0 < s.fsize)) && (decide (s.addr % 4096 = 0) && (decide (s.size % 4096 = 0) && (decide (0 < s.size) && (decide (s.fsize ≤ s.size) && (withinI s.off s.fsize n && withinI s.addr s.size 140737488355328)))))))
/-- The segments one behind the other: none stands ahead of the last one's end, none bears a name that was there. -/
def goesB (n : Int) (at_ : Int) (names : ByteArray → Bool) : List Seg → Bool
  | [] => true
  | s :: r => placeB n s && (!names s.name && (decide (at_ ≤ s.addr) && goesB n (s.addr + s.size) (fun x => if x = s.name then true else names x) r))
/-- The document's: each against all ahead of it. -/
def eachB (n : Int) (prev : List Seg) : List Seg → Bool
  | [] => true
  | s :: r => placeB n s && (prev.all (fun o => !decide (o.name = s.name) && decide (o.addr + o.size ≤ s.addr)) && eachB n (prev ++ [s]) r)
/-- What is kept along both ways. -/
structure Along (at_ : Int) (names : ByteArray → Bool) (prev : List Seg) : Prop where
  ends : ∀ o ∈ prev, o.addr + o.size ≤ at_
  last : at_ = 0 ∨ ∃ o ∈ prev, o.addr + o.size = at_
  nm : ∀ x, names x = true ↔ ∃ o ∈ prev, o.name = x
theorem placeB_size {n : Int} {s : Seg} (h : placeB n s = true) : 0 < s.size := by
  unfold placeB at h
  simp only [Bool.and_eq_true, decide_eq_true_eq] at h
  exact h.2.2.2.2.2.1
theorem goes_each (n : Int) : ∀ (l : List Seg) (at_ : Int) (names : ByteArray → Bool) (prev : List Seg), Along at_ names prev → (∀ s ∈ l, 0 ≤ s.addr) → goesB n at_ names l = eachB n prev l
  | [], _, _, _, _, _ => rfl
  | s :: r, at_, names, prev, h, ha => by
    unfold goesB eachB
    cases hp : placeB n s with
    | false => rfl
    | true =>
      have hs := placeB_size hp
      have ha0 := ha s (List.mem_cons_self ..)
      simp only [Bool.true_and]
      have key : (!names s.name && decide (at_ ≤ s.addr)) = prev.all (fun o => !decide (o.name = s.name) && decide (o.addr + o.size ≤ s.addr)) := by
        rw [Bool.eq_iff_iff]
        simp only [Bool.and_eq_true, Bool.not_eq_true', decide_eq_false_iff_not, decide_eq_true_eq, List.all_eq_true]
        constructor
        · rintro ⟨h1, h2⟩ o ho
          refine ⟨fun e => ?_, Int.le_trans (h.ends o ho) h2⟩
          rw [(h.nm _).2 ⟨o, ho, e⟩] at h1
          exact absurd h1 (by decide)
        · intro h1
          refine ⟨?_, ?_⟩
          · cases hm : names s.name with
            | false => rfl
            | true =>
              obtain ⟨o, ho, e⟩ := (h.nm _).1 hm
              exact absurd e (h1 o ho).1
          · rcases h.last with e | ⟨o, ho, e⟩
            · rw [e]; exact ha0
            · rw [← e]; exact (h1 o ho).2
      rw [← key, Bool.and_assoc]
      cases h1 : names s.name with
      | true => rfl
      | false =>
        cases h2 : decide (at_ ≤ s.addr) with
        | false => rfl
        | true =>
          have h2' := of_decide_eq_true h2
          simp only [Bool.not_false, Bool.true_and]
          refine goes_each n r _ _ _ ⟨fun o ho => ?_, .inr ⟨s, by simp, rfl⟩, fun x => ?_⟩ (fun q hq => ha q (List.mem_cons_of_mem _ hq))
          · rcases List.mem_append.1 ho with ho | ho
            · have := h.ends o ho; omega
            · rw [List.mem_singleton.1 ho]; exact Int.le_refl _
          · by_cases ex : x = s.name
            · rw [if_pos ex]
              exact ⟨fun _ => ⟨s, by simp, ex.symm⟩, fun _ => rfl⟩
            · rw [if_neg ex, h.nm x]
              constructor
              · rintro ⟨o, ho, e⟩
                exact ⟨o, List.mem_append_left _ ho, e⟩
              · rintro ⟨o, ho, e⟩
                rcases List.mem_append.1 ho with ho | ho
                · exact ⟨o, ho, e⟩
                · rw [List.mem_singleton.1 ho] at e
                  exact absurd e.symm ex
theorem goes_all (n : Int) (l : List Seg) (ha : ∀ s ∈ l, 0 ≤ s.addr) : goesB n 0 (fun _ => false) l = eachB n [] l :=
  goes_each n l 0 (fun _ => false) [] ⟨(fun _ h => by cases h), .inl rfl, (fun x => ⟨(fun h => by cases h), (fun ⟨_, h, _⟩ => by cases h)⟩)⟩ ha
end Go.Proofs.YtgjlgamlmmjdpaaGreatDoor
