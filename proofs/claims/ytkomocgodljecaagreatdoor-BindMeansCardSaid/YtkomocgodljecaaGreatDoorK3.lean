/- Lemmas, laid together: part 3 of 41. Conditions: none but each lemma's own. -/
import Derived.Test.YtkomocgodljecaaGreatDoorK2
import Derived.Laws.Cells
import Derived.Test.YtkomocgodljecaaGreatDoorK1
import Derived.Deep.RegionHeld3
/- Records: segments, images (printed by mkrecs.sh). -/
namespace Go.Proofs.YtkomocgodljecaaGreatDoor
open Go.RowKit
set_option maxRecDepth 100000

/-- A record Seg. -/
structure Seg where
  name : ByteArray
  addr : Int
  size : Int
  off : Int
  fsize : Int
  prot : Int
  secs : SlV
def Seg.cells (s : Seg) : List Value := [.string s.name, .int .u64 s.addr, .int .u64 s.size, .int .u64 s.off, .int .u64 s.fsize, .int .i64 s.prot, .slice s.secs.a s.secs.n s.secs.cap]
abbrev Seg.v (s : Seg) : Value := .agg #[.string s.name, .int .u64 s.addr, .int .u64 s.size, .int .u64 s.off, .int .u64 s.fsize, .int .i64 s.prot, .slice s.secs.a s.secs.n s.secs.cap]
/-- Its numbers are of their kinds. -/
def Seg.wf (s : Seg) : Prop := (Lit.int .u64 s.addr).wf = true ∧ (Lit.int .u64 s.size).wf = true ∧ (Lit.int .u64 s.off).wf = true ∧ (Lit.int .u64 s.fsize).wf = true ∧ (Lit.int .i64 s.prot).wf = true
def Seg.zero : Seg := ⟨⟨#[]⟩, 0, 0, 0, 0, 0, ⟨none, 0, 0⟩⟩
def segL : Lay Seg := ⟨7, Seg.cells, Seg.zero, fun _ => rfl, by decide, fun x u hu => by
  simp only [Seg.cells, List.mem_cons, List.not_mem_nil, or_false] at hu
  rcases hu with rfl | rfl | rfl | rfl | rfl | rfl | rfl <;> rfl⟩
theorem Seg.at {w : World} {b o : Nat} {s : Seg} (h : segL.In w b o s) : w.cell? ⟨b, o, none⟩ = some (.string s.name) ∧ w.cell? ⟨b, o + 1, none⟩ = some (.int .u64 s.addr) ∧ w.cell? ⟨b, o + 2, none⟩ = some (.int .u64 s.size) ∧ w.cell? ⟨b, o + 3, none⟩ = some (.int .u64 s.off) ∧ w.cell? ⟨b, o + 4, none⟩ = some (.int .u64 s.fsize) ∧ w.cell? ⟨b, o + 5, none⟩ = some (.int .i64 s.prot) ∧ w.cell? ⟨b, o + 6, none⟩ = some (.slice s.secs.a s.secs.n s.secs.cap) :=
  ⟨h 0 (by decide), h 1 (by decide), h 2 (by decide), h 3 (by decide), h 4 (by decide), h 5 (by decide), h 6 (by decide)⟩
/-- A record in a block of its own: made, written, a field written. -/
theorem Seg.box (w : World) (s : Seg) (T : TypeId) : segL.Box (w.alloc (.cells #[.string s.name, .int .u64 s.addr, .int .u64 s.size, .int .u64 s.off, .int .u64 s.fsize, .int .i64 s.prot, .slice s.secs.a s.secs.n s.secs.cap] T)) w.heap.size s := Lay.Box.of_alloc (L := segL) w s T
theorem Seg.put0 {w : World} {g : Nat} {y : Seg} (h : segL.Box w g y) (s : Seg) : segL.Box (((((((w.setCell ⟨g, 0, none⟩ (.string s.name)).setCell ⟨g, 1, none⟩ (.int .u64 s.addr)).setCell ⟨g, 2, none⟩ (.int .u64 s.size)).setCell ⟨g, 3, none⟩ (.int .u64 s.off)).setCell ⟨g, 4, none⟩ (.int .u64 s.fsize)).setCell ⟨g, 5, none⟩ (.int .i64 s.prot)).setCell ⟨g, 6, none⟩ (.slice s.secs.a s.secs.n s.secs.cap)) g s := Lay.Box.put h s
theorem Seg.c_name {w : World} {b : Nat} {s : Seg} (h : segL.Box w b s) : w.cell? ⟨b, 0, none⟩ = some (.string s.name) := by have := h.in 0 (by decide); rw [Nat.zero_add] at this; exact this
theorem Seg.c_addr {w : World} {b : Nat} {s : Seg} (h : segL.Box w b s) : w.cell? ⟨b, 1, none⟩ = some (.int .u64 s.addr) := by have := h.in 1 (by decide); rw [Nat.zero_add] at this; exact this
theorem Seg.c_size {w : World} {b : Nat} {s : Seg} (h : segL.Box w b s) : w.cell? ⟨b, 2, none⟩ = some (.int .u64 s.size) := by have := h.in 2 (by decide); rw [Nat.zero_add] at this; exact this
theorem Seg.c_off {w : World} {b : Nat} {s : Seg} (h : segL.Box w b s) : w.cell? ⟨b, 3, none⟩ = some (.int .u64 s.off) := by have := h.in 3 (by decide); rw [Nat.zero_add] at this; exact this
theorem Seg.c_fsize {w : World} {b : Nat} {s : Seg} (h : segL.Box w b s) : w.cell? ⟨b, 4, none⟩ = some (.int .u64 s.fsize) := by have := h.in 4 (by decide); rw [Nat.zero_add] at this; exact this
theorem Seg.c_prot {w : World} {b : Nat} {s : Seg} (h : segL.Box w b s) : w.cell? ⟨b, 5, none⟩ = some (.int .i64 s.prot) := by have := h.in 5 (by decide); rw [Nat.zero_add] at this; exact this
theorem Seg.c_secs {w : World} {b : Nat} {s : Seg} (h : segL.Box w b s) : w.cell? ⟨b, 6, none⟩ = some (.slice s.secs.a s.secs.n s.secs.cap) := by have := h.in 6 (by decide); rw [Nat.zero_add] at this; exact this
/-- A record Img. -/
structure Img where
  kind : Int
  sub : Int
  flags : Int
  name : ByteArray
  segs : SlV
  deps : SlV
  rbO : Int
  rbS : Int
  bdO : Int
  bdS : Int
  wkO : Int
  wkS : Int
  lzO : Int
  lzS : Int
  trO : Int
  trS : Int
  chO : Int
  chS : Int
  syO : Int
  syS : Int
  stO : Int
  stS : Int
  entry : Int
  has : Bool
def Img.cells (s : Img) : List Value := [.int .i64 s.kind, .int .i64 s.sub, .int .u32 s.flags, .string s.name, .slice s.segs.a s.segs.n s.segs.cap, .slice s.deps.a s.deps.n s.deps.cap, .int .u64 s.rbO, .int .u64 s.rbS, .int .u64 s.bdO, .int .u64 s.bdS, .int .u64 s.wkO, .int .u64 s.wkS, .int .u64 s.lzO, .int .u64 s.lzS, .int .u64 s.trO, .int .u64 s.trS, .int .u64 s.chO, .int .u64 s.chS, .int .u64 s.syO, .int .u64 s.syS, .int .u64 s.stO, .int .u64 s.stS, .int .u64 s.entry, .bool s.has]
abbrev Img.v (s : Img) : Value := .agg #[.int .i64 s.kind, .int .i64 s.sub, .int .u32 s.flags, .string s.name, .slice s.segs.a s.segs.n s.segs.cap, .slice s.deps.a s.deps.n s.deps.cap, .int .u64 s.rbO, .int .u64 s.rbS, .int .u64 s.bdO, .int .u64 s.bdS, .int .u64 s.wkO, .int .u64 s.wkS, .int .u64 s.lzO, .int .u64 s.lzS, .int .u64 s.trO, .int .u64 s.trS, .int .u64 s.chO, .int .u64 s.chS, .int .u64 s.syO, .int .u64 s.syS, .int .u64 s.stO, .int .u64 s.stS, .int .u64 s.entry, .bool s.has]
/-- Its numbers are of their kinds. -/
def Img.wf (s : Img) : Prop := (Lit.int .i64 s.kind).wf = true ∧ (Lit.int .i64 s.sub).wf = true ∧ (Lit.int .u32 s.flags).wf = true ∧ (Lit.int .u64 s.rbO).wf = true ∧ (Lit.int .u64 s.rbS).wf = true ∧ (Lit.int .u64 s.bdO).wf = true ∧ (Lit.int .u64 s.bdS).wf = true ∧ (Lit.int .u64 s.wkO).wf = true ∧ (Lit.int .u64 s.wkS).wf = true ∧ (Lit.int .u64 s.lzO).wf = true ∧ (Lit.int .u64 s.lzS).wf = true ∧ (Lit.int .u64 s.trO).wf = true ∧ (Lit.int .u64 s.trS).wf = true ∧ (Lit.int .u64 s.chO).wf = true ∧ (Lit.int .u64 s.chS).wf = true ∧ (Lit.int .u64 s.syO).wf = true ∧ (Lit.int .u64 s.syS).wf = true ∧ (Lit.int .u64 s.stO).wf = true ∧ (Lit.int .u64 s.stS).wf = true ∧ (Lit.int .u64 s.entry).wf = true
def Img.zero : Img := ⟨0, 0, 0, ⟨#[]⟩, ⟨none, 0, 0⟩, ⟨none, 0, 0⟩, 0, 0, 0, 0, 0, 0, 0, 0, 0, 0, 0, 0, 0, 0, 0, 0, 0, false⟩
def imgL : Lay Img := ⟨24, Img.cells, Img.zero, fun _ => rfl, by decide, fun x u hu => by
  simp only [Img.cells, List.mem_cons, List.not_mem_nil, or_false] at hu
  rcases hu with rfl | rfl | rfl | rfl | rfl | rfl | rfl | rfl | rfl | rfl | rfl | rfl | rfl | rfl | rfl | rfl | rfl | rfl | rfl | rfl | rfl | rfl | rfl | rfl <;> rfl⟩
theorem Img.at {w : World} {b o : Nat} {s : Img} (h : imgL.In w b o s) : w.cell? ⟨b, o, none⟩ = some (.int .i64 s.kind) ∧ w.cell? ⟨b, o + 1, none⟩ = some (.int .i64 s.sub) ∧ w.cell? ⟨b, o + 2, none⟩ = some (.int .u32 s.flags) ∧ w.cell? ⟨b, o + 3, none⟩ = some (.string s.name) ∧ w.cell? ⟨b, o + 4, none⟩ = some (.slice s.segs.a s.segs.n s.segs.cap) ∧ w.cell? ⟨b, o + 5, none⟩ = some (.slice s.deps.a s.deps.n s.deps.cap) ∧ w.cell? ⟨b, o + 6, none⟩ = some (.int .u64 s.rbO) ∧ w.cell? ⟨b, o + 7, none⟩ = some (.int .u64 s.rbS) ∧ w.cell? ⟨b, o + 8, none⟩ = some (.int .u64 s.bdO) ∧ w.cell? ⟨b, o + 9, none⟩ = some (.int .u64 s.bdS) ∧ w.cell? ⟨b, o + 10, none⟩ = some (.int .u64 s.wkO) ∧ w.cell? ⟨b, o + 11, none⟩ = some (.int .u64 s.wkS) ∧ w.cell? ⟨b, o + 12, none⟩ = some (.int .u64 s.lzO) ∧ w.cell? ⟨b, o + 13, none⟩ = some (.int .u64 s.lzS) ∧ w.cell? ⟨b, o + 14, none⟩ = some (.int .u64 s.trO) ∧ w.cell? ⟨b, o + 15, none⟩ = some (.int .u64 s.trS) ∧ w.cell? ⟨b, o + 16, none⟩ = some (.int .u64 s.chO) ∧ w.cell? ⟨b, o + 17, none⟩ = some (.int .u64 s.chS) ∧ w.cell? ⟨b, o + 18, none⟩ = some (.int .u64 s.syO) ∧ w.cell? ⟨b, o + 19, none⟩ = some (.int .u64 s.syS) ∧ w.cell? ⟨b, o + 20, none⟩ = some (.int .u64 s.stO) ∧ w.cell? ⟨b, o + 21, none⟩ = some (.int .u64 s.stS) ∧ w.cell? ⟨b, o + 22, none⟩ = some (.int .u64 s.entry) ∧ w.cell? ⟨b, o + 23, none⟩ = some (.bool s.has) :=
  ⟨h 0 (by decide), h 1 (by decide), h 2 (by decide), h 3 (by decide), h 4 (by decide), h 5 (by decide), h 6 (by decide), h 7 (by decide), h 8 (by decide), h 9 (by decide), h 10 (by decide), h 11 (by decide), h 12 (by decide), h 13 (by decide), h 14 (by decide), h 15 (by decide), h 16 (by decide), h 17 (by decide), h 18 (by decide), h 19 (by decide), h 20 (by decide), h 21 (by decide), h 22 (by decide), h 23 (by decide)⟩
/-- A record in a block of its own: made, written, a field written. -/
theorem Img.box (w : World) (s : Img) (T : TypeId) : imgL.Box (w.alloc (.cells #[.int .i64 s.kind, .int .i64 s.sub, .int .u32 s.flags, .string s.name, .slice s.segs.a s.segs.n s.segs.cap, .slice s.deps.a s.deps.n s.deps.cap, .int .u64 s.rbO, .int .u64 s.rbS, .int .u64 s.bdO, .int .u64 s.bdS, .int .u64 s.wkO, .int .u64 s.wkS, .int .u64 s.lzO, .int .u64 s.lzS, .int .u64 s.trO, .int .u64 s.trS, .int .u64 s.chO, .int .u64 s.chS, .int .u64 s.syO, .int .u64 s.syS, .int .u64 s.stO, .int .u64 s.stS, .int .u64 s.entry, .bool s.has] T)) w.heap.size s := Lay.Box.of_alloc (L := imgL) w s T
theorem Img.put0 {w : World} {g : Nat} {y : Img} (h : imgL.Box w g y) (s : Img) : imgL.Box ((((((((((((((((((((((((w.setCell ⟨g, 0, none⟩ (.int .i64 s.kind)).setCell ⟨g, 1, none⟩ (.int .i64 s.sub)).setCell ⟨g, 2, none⟩ (.int .u32 s.flags)).setCell ⟨g, 3, none⟩ (.string s.name)).setCell ⟨g, 4, none⟩ (.slice s.segs.a s.segs.n s.segs.cap)).setCell ⟨g, 5, none⟩ (.slice s.deps.a s.deps.n s.deps.cap)).setCell ⟨g, 6, none⟩ (.int .u64 s.rbO)).setCell ⟨g, 7, none⟩ (.int .u64 s.rbS)).setCell ⟨g, 8, none⟩ (.int .u64 s.bdO)).setCell ⟨g, 9, none⟩ (.int .u64 s.bdS)).setCell ⟨g, 10, none⟩ (.int .u64 s.wkO)).setCell ⟨g, 11, none⟩ (.int .u64 s.wkS)).setCell ⟨g, 12, none⟩ (.int .u64 s.lzO)).setCell ⟨g, 13, none⟩ (.int .u64 s.lzS)).setCell ⟨g, 14, none⟩ (.int .u64 s.trO)).setCell ⟨g, 15, none⟩ (.int .u64 s.trS)).setCell ⟨g, 16, none⟩ (.int .u64 s.chO)).setCell ⟨g, 17, none⟩ (.int .u64 s.chS)).setCell ⟨g, 18, none⟩ (.int .u64 s.syO)).setCell ⟨g, 19, none⟩ (.int .u64 s.syS)).setCell ⟨g, 20, none⟩ (.int .u64 s.stO)).setCell ⟨g, 21, none⟩ (.int .u64 s.stS)).setCell ⟨g, 22, none⟩ (.int .u64 s.entry)).setCell ⟨g, 23, none⟩ (.bool s.has)) g s := Lay.Box.put h s
theorem Img.c_kind {w : World} {b : Nat} {s : Img} (h : imgL.Box w b s) : w.cell? ⟨b, 0, none⟩ = some (.int .i64 s.kind) := by have := h.in 0 (by decide); rw [Nat.zero_add] at this; exact this
theorem Img.c_name {w : World} {b : Nat} {s : Img} (h : imgL.Box w b s) : w.cell? ⟨b, 3, none⟩ = some (.string s.name) := by have := h.in 3 (by decide); rw [Nat.zero_add] at this; exact this
theorem Img.c_segs {w : World} {b : Nat} {s : Img} (h : imgL.Box w b s) : w.cell? ⟨b, 4, none⟩ = some (.slice s.segs.a s.segs.n s.segs.cap) := by have := h.in 4 (by decide); rw [Nat.zero_add] at this; exact this
theorem Img.c_deps {w : World} {b : Nat} {s : Img} (h : imgL.Box w b s) : w.cell? ⟨b, 5, none⟩ = some (.slice s.deps.a s.deps.n s.deps.cap) := by have := h.in 5 (by decide); rw [Nat.zero_add] at this; exact this
theorem Img.c_rbO {w : World} {b : Nat} {s : Img} (h : imgL.Box w b s) : w.cell? ⟨b, 6, none⟩ = some (.int .u64 s.rbO) := by have := h.in 6 (by decide); rw [Nat.zero_add] at this; exact this
theorem Img.c_rbS {w : World} {b : Nat} {s : Img} (h : imgL.Box w b s) : w.cell? ⟨b, 7, none⟩ = some (.int .u64 s.rbS) := by have := h.in 7 (by decide); rw [Nat.zero_add] at this; exact this
theorem Img.c_bdO {w : World} {b : Nat} {s : Img} (h : imgL.Box w b s) : w.cell? ⟨b, 8, none⟩ = some (.int .u64 s.bdO) := by have := h.in 8 (by decide); rw [Nat.zero_add] at this; exact this
theorem Img.c_bdS {w : World} {b : Nat} {s : Img} (h : imgL.Box w b s) : w.cell? ⟨b, 9, none⟩ = some (.int .u64 s.bdS) := by have := h.in 9 (by decide); rw [Nat.zero_add] at this; exact this
theorem Img.c_wkO {w : World} {b : Nat} {s : Img} (h : imgL.Box w b s) : w.cell? ⟨b, 10, none⟩ = some (.int .u64 s.wkO) := by have := h.in 10 (by decide); rw [Nat.zero_add] at this; exact this
theorem Img.c_wkS {w : World} {b : Nat} {s : Img} (h : imgL.Box w b s) : w.cell? ⟨b, 11, none⟩ = some (.int .u64 s.wkS) := by have := h.in 11 (by decide); rw [Nat.zero_add] at this; exact this
theorem Img.c_lzO {w : World} {b : Nat} {s : Img} (h : imgL.Box w b s) : w.cell? ⟨b, 12, none⟩ = some (.int .u64 s.lzO) := by have := h.in 12 (by decide); rw [Nat.zero_add] at this; exact this
theorem Img.c_lzS {w : World} {b : Nat} {s : Img} (h : imgL.Box w b s) : w.cell? ⟨b, 13, none⟩ = some (.int .u64 s.lzS) := by have := h.in 13 (by decide); rw [Nat.zero_add] at this; exact this
theorem Img.c_trO {w : World} {b : Nat} {s : Img} (h : imgL.Box w b s) : w.cell? ⟨b, 14, none⟩ = some (.int .u64 s.trO) := by have := h.in 14 (by decide); rw [Nat.zero_add] at this; exact this
theorem Img.c_trS {w : World} {b : Nat} {s : Img} (h : imgL.Box w b s) : w.cell? ⟨b, 15, none⟩ = some (.int .u64 s.trS) := by have := h.in 15 (by decide); rw [Nat.zero_add] at this; exact this
theorem Img.c_chO {w : World} {b : Nat} {s : Img} (h : imgL.Box w b s) : w.cell? ⟨b, 16, none⟩ = some (.int .u64 s.chO) := by have := h.in 16 (by decide); rw [Nat.zero_add] at this; exact this
theorem Img.c_chS {w : World} {b : Nat} {s : Img} (h : imgL.Box w b s) : w.cell? ⟨b, 17, none⟩ = some (.int .u64 s.chS) := by have := h.in 17 (by decide); rw [Nat.zero_add] at this; exact this
theorem Img.c_syO {w : World} {b : Nat} {s : Img} (h : imgL.Box w b s) : w.cell? ⟨b, 18, none⟩ = some (.int .u64 s.syO) := by have := h.in 18 (by decide); rw [Nat.zero_add] at this; exact this
theorem Img.c_syS {w : World} {b : Nat} {s : Img} (h : imgL.Box w b s) : w.cell? ⟨b, 19, none⟩ = some (.int .u64 s.syS) := by have := h.in 19 (by decide); rw [Nat.zero_add] at this; exact this
theorem Img.c_stO {w : World} {b : Nat} {s : Img} (h : imgL.Box w b s) : w.cell? ⟨b, 20, none⟩ = some (.int .u64 s.stO) := by have := h.in 20 (by decide); rw [Nat.zero_add] at this; exact this
theorem Img.c_stS {w : World} {b : Nat} {s : Img} (h : imgL.Box w b s) : w.cell? ⟨b, 21, none⟩ = some (.int .u64 s.stS) := by have := h.in 21 (by decide); rw [Nat.zero_add] at this; exact this
theorem Img.c_entry {w : World} {b : Nat} {s : Img} (h : imgL.Box w b s) : w.cell? ⟨b, 22, none⟩ = some (.int .u64 s.entry) := by have := h.in 22 (by decide); rw [Nat.zero_add] at this; exact this
theorem Img.c_has {w : World} {b : Nat} {s : Img} (h : imgL.Box w b s) : w.cell? ⟨b, 23, none⟩ = some (.bool s.has) := by have := h.in 23 (by decide); rw [Nat.zero_add] at this; exact this
end Go.Proofs.YtkomocgodljecaaGreatDoor
/- Operations on whole records, as laws for the walk: boxed, loaded, stored, made. No program in sight. -/
namespace Go.Proofs.YtkomocgodljecaaGreatDoor
open Go.RowKit
set_option maxRecDepth 100000
namespace Lay
variable {α : Type} {L : Lay α} {P : Program} {T : TypeId}

def isRec : TypeDesc → Bool
  | .struct _ => true
  | .array _ _ => true
  | _ => false
/-- What the program says of a record's type: it lies in as many cells, and what its zero is. -/
structure Ty (L : Lay α) (P : Program) (T : TypeId) : Prop where
  agg : (∃ fs, P.underlying T = some (.struct fs)) ∨ ∃ n e, P.underlying T = some (.array n e)
  info : ∃ i, P.info? T = some i ∧ i.size = L.n ∧ i.zero = some (.agg (L.f L.d).toArray)
theorem Ty.mk' (hu : (P.underlying T).map isRec = some true) (hi : (P.info? T).map (fun i => (i.zero, i.size)) = some (some (.agg (L.f L.d).toArray), L.n)) : Ty L P T := by
  constructor
  · cases h : P.underlying T with
    | none => rw [h] at hu; cases hu
    | some d =>
      cases d with
      | struct fs => exact .inl ⟨fs, rfl⟩
      | array n e => exact .inr ⟨n, e, rfl⟩
      | _ => rw [h] at hu; cases hu
  · cases h : P.info? T with
    | none => rw [h] at hi; cases hi
    | some i =>
      rw [h] at hi
      simp only [Option.map_some, Option.some.injEq, Prod.mk.injEq] at hi
      exact ⟨i, rfl, hi.2, hi.1⟩
theorem run_isAgg (hT : Ty L P T) (w : World) : (isAgg T).run P w = .ok true w := by
  rcases hT.agg with ⟨fs, hu⟩ | ⟨n, e, hu⟩ <;> simp [isAgg, run_underlying hu]
theorem run_size (hT : Ty L P T) (w : World) : (sizeOf T).run P w = .ok L.n w := by
  obtain ⟨i, hi, hs, _⟩ := hT.info
  simp [sizeOf, typeInfo, hi, hs]
theorem run_zero (hT : Ty L P T) (w : World) : (zeroValue T).run P w = .ok (.agg (L.f L.d).toArray) w := by
  obtain ⟨i, hi, hs, hz⟩ := hT.info
  simp [zeroValue, typeInfo, hi, hz]
theorem run_load_rec (hT : Ty L P T) {w : World} {b o : Nat} {x : α} (h : L.In w b o x) : (loadVar T ⟨b, o, none⟩).run P w = .ok (.agg (L.f x).toArray) w := by
  have h1 := run_loadCells_list (P := P) w ⟨b, o, none⟩ (L.f x) (fun j v hv => by
    rw [addr_add]
    have hj : j < L.n := by have := (List.getElem?_eq_some_iff.1 hv).1; rw [L.len] at this; exact this
    rw [h j hj, hv])
  rw [L.len] at h1
  unfold loadVar
  simp [run_isAgg hT, run_size hT, h1]
theorem run_storeCells {g : Nat} : ∀ (us : List Value) (w : World) (o i : Nat), (∀ u ∈ us, u.oneCell' = true) → (∀ c, c < us.length → ∃ u, w.cell? ⟨g, o + i + c, none⟩ = some u) → (∀ j, w.frozen? ⟨g, j, none⟩ = false) →
    (storeCells ⟨g, o, none⟩ us i).run P w = .ok () (setW w g (o + i) us)
  | [], w, o, i, _, _, _ => by simp [storeCells, setW]
  | u :: r, w, o, i, h1, hc, hf => by
    obtain ⟨u0, hu0⟩ := hc 0 (by simp)
    rw [Nat.add_zero] at hu0
    have h1u := h1 u (List.mem_cons_self ..)
    have hst : (store ((⟨g, o, none⟩ : Addr).add i) u).run P w = .ok () (w.setCell ⟨g, o + i, none⟩ u) := by
      rw [addr_add, run_store P w _ u _ h1u]
      simp [hu0, hf]
    have ih := run_storeCells r (w.setCell ⟨g, o + i, none⟩ u) o (i + 1) (fun v hv => h1 v (List.mem_cons_of_mem _ hv)) (fun c hcl => by
      obtain ⟨v, hv⟩ := hc (c + 1) (by simpa using hcl)
      rw [show o + (i + 1) + c = o + i + (c + 1) by omega]
      exact cell?_setCell_some hv) (fun j => by simpa using hf j)
    unfold storeCells setW
    simp only [Sem.run_bind, hst, Result.andThen_ok]
    rw [ih, show o + (i + 1) = o + i + 1 by omega]
section
variable {ops : Array Oper} {rest : List Oper} {o : Oper} {a : Act} {Q : Exit → Act → World → Prop} {w : World}
/-- A record is loaded. -/
theorem ld (hT : Ty L P T) (hgd : o.guard = none) (s : Operand) (ho : o.op = .load T s) {b off : Nat} (hs : a.eval s = .pointer (some ⟨b, off, none⟩)) {x : α} (hx : L.In w b off x)
    (h : wpList P ops Q rest (a.put o.dst (.agg (L.f x).toArray)) w) : wpList P ops Q (o :: rest) a w := by
  refine wpList_plain hgd fun K hK => ?_
  unfold Oper.wp execOp
  simp only [ho, Instr.loadAt, Instr.sureAddr, Sem.run_bind, Sem.run_pure, hs, Result.andThen_ok, run_load_rec hT hx]
  exact hK _ _ h
/-- A record is boxed. -/
theorem bx (hgd : o.guard = none) (s : Operand) (ho : o.op = .box T s) {x : α} (hs : a.eval s = .agg (L.f x).toArray)
    (h : ∀ W b, b = w.heap.size → Chg [] w W → L.Box W b x → wpList P ops Q rest (a.put o.dst (.pointer (some ⟨b, 0, none⟩))) W) : wpList P ops Q (o :: rest) a w := by
  refine wpList_plain hgd fun K hK => ?_
  unfold Oper.wp execOp
  have := h _ _ rfl ((Chg.refl [] w).alloc _) (Box.of_alloc (L := L) w x T)
  simp [ho, Instr.box, hs, newVar, newRow, Value.cells]
  exact hK _ _ this
/-- A record is made. -/
theorem al (hT : Ty L P T) (hgd : o.guard = none) (ho : o.op = .alloc T)
    (h : ∀ W b, b = w.heap.size → Chg [] w W → L.Box W b L.d → wpList P ops Q rest (a.put o.dst (.pointer (some ⟨b, 0, none⟩))) W) : wpList P ops Q (o :: rest) a w := by
  refine wpList_plain hgd fun K hK => ?_
  unfold Oper.wp execOp
  have := h _ _ rfl ((Chg.refl [] w).alloc _) (Box.of_alloc (L := L) w L.d T)
  simp [ho, Instr.alloc, run_zero hT, newVar, newRow, Value.cells]
  exact hK _ _ this
/-- A record is stored. -/
theorem st (hT : Ty L P T) (hgd : o.guard = none) (p s : Operand) (ho : o.op = .store T p s) {b : Nat} (hp : a.eval p = .pointer (some ⟨b, 0, none⟩)) {x y : α} (hs : a.eval s = .agg (L.f x).toArray) (hb : L.Box w b y)
    (h : ∀ W, Chg [b] w W → L.Box W b x → wpList P ops Q rest (a.put o.dst undef) W) : wpList P ops Q (o :: rest) a w := by
  refine wpList_plain hgd fun K hK => ?_
  unfold Oper.wp execOp
  have := h _ (setW_chg b (L.f x) w 0) (hb.put x)
  have hr := run_storeCells (P := P) (g := b) (L.f x) w 0 0 (L.one x) (fun c hc => by
    have := hb.in c (by rw [← L.len x]; exact hc)
    rw [Nat.zero_add] at this ⊢
    rw [this]
    exact ⟨_, List.getElem?_eq_getElem (by rw [L.len]; rw [L.len] at hc; exact hc)⟩) hb.frozen
  simp [ho, Instr.storeAt, Instr.sureAddr, hp, hs, storeVar, run_size hT, Value.cells, L.len, hr]
  exact hK _ _ this
/-- The same at an operation that is written out. -/
theorem ldL (hT : Ty L P T) {d : Tmp} {s : Operand} {ty : TypeId} {pos : String} {after : Array Edge} {b off : Nat} (x : α) (hx : L.In w b off x) (hs : a.eval s = .pointer (some ⟨b, off, none⟩))
    (h : wpList P ops Q rest (a.put (some d) (.agg (L.f x).toArray)) w) : wpList P ops Q (⟨some d, .load T s, ty, pos, after, none⟩ :: rest) a w := ld hT rfl s rfl hs hx h
theorem bxL (T : TypeId) {d : Tmp} {s : Operand} {ty : TypeId} {pos : String} {after : Array Edge} (x : α) (hs : a.eval s = .agg (L.f x).toArray)
    (h : ∀ W b, b = w.heap.size → Chg [] w W → L.Box W b x → wpList P ops Q rest (a.put (some d) (.pointer (some ⟨b, 0, none⟩))) W) : wpList P ops Q (⟨some d, .box T s, ty, pos, after, none⟩ :: rest) a w := bx rfl s rfl hs h
theorem alL (hT : Ty L P T) {d : Tmp} {ty : TypeId} {pos : String} {after : Array Edge}
    (h : ∀ W b, b = w.heap.size → Chg [] w W → L.Box W b L.d → wpList P ops Q rest (a.put (some d) (.pointer (some ⟨b, 0, none⟩))) W) : wpList P ops Q (⟨some d, .alloc T, ty, pos, after, none⟩ :: rest) a w := al hT rfl rfl h
theorem stL (hT : Ty L P T) {p s : Operand} {ty : TypeId} {pos : String} {after : Array Edge} {b : Nat} {y : α} (x : α) (hb : L.Box w b y) (hp : a.eval p = .pointer (some ⟨b, 0, none⟩)) (hs : a.eval s = .agg (L.f x).toArray)
    (h : ∀ W, Chg [b] w W → L.Box W b x → wpList P ops Q rest a W) : wpList P ops Q (⟨none, .store T p s, ty, pos, after, none⟩ :: rest) a w := st hT rfl p s rfl hp hs hb h
end
/-- What a call hands back whose first result is a record in a block of its own. -/
theorem ret1 (hT : Ty L P T) {fn : Func} {t : Tmp} (hr : fn.results = #[.cell t T]) {R : Ending → World → Prop} {a : Act} {w : World} {b : Nat} {x : α} (hx : L.Box w b x) (ht : a.tmps.getD t undef = .pointer (some ⟨b, 0, none⟩)) (hd : a.defers = []) (hR : R (.returned (L.val x)) w) : bodyPost P fn R .ret a w := by
  have h2 : (loadVar T ⟨b, 0, none⟩).run P w = .ok (L.val x) w := run_load_rec hT hx.in
  rw [Array.getD_eq_getD_getElem?] at ht
  exact bodyPost_ret (v := L.val x) (by simp [results, hr, ht, asAddr, h2]) hd hR
/-- A function value against nil. -/
theorem run_eql_func {P : Program} {T : TypeId} {x y : Array TypeId} {z : Bool} (hu : P.underlying T = some (.func x y z)) (W : World) :
    (binOp .eql T .nilFunc .nilFunc).run P W = .ok (.bool true) W ∧ (∀ f fi ca, (binOp .eql T (.func f fi ca) .nilFunc).run P W = .ok (.bool false) W) ∧ (binOp .neq T .nilFunc .nilFunc).run P W = .ok (.bool false) W ∧ ∀ f fi ca, (binOp .neq T (.func f fi ca) .nilFunc).run P W = .ok (.bool true) W := by
  have h1 : ∀ d : Nat, (Op.equalIn (d + 1) T .nilFunc .nilFunc).run P W = .ok true W := fun d => by simp [Op.equalIn, run_underlying hu]
  have h2 : ∀ (d : Nat) f fi ca, (Op.equalIn (d + 1) T (.func f fi ca) .nilFunc).run P W = .ok false W := fun d f fi ca => by simp [Op.equalIn, run_underlying hu]
  refine ⟨?_, fun f fi ca => ?_, ?_, fun f fi ca => ?_⟩ <;> simp only [binOp] <;> simp [Op.equal, Op.maxDepth, h1 9999, h2 9999]
end Lay
end Go.Proofs.YtkomocgodljecaaGreatDoor
/- Plain: a region that draws its order, gone through in the order of its text: the steps of such a walk. No program in sight. -/
namespace Go.Proofs.YtkomocgodljecaaGreatDoor
open Go.RowKit

section
variable {P : Program} {ops : Array Oper} {Q : Exit → Act → World → Prop} {md : Region.Mode} {S S' : World → Prop}
/-- An operation that only reads, its value the same wherever S holds. -/
theorem take_read {i : Nat} {oi : Oper} {v : Value} {fuel : Nat} {listed : Array Bool} {a : Act} {w : World} (hi : ops[i]? = some oi)
    (hs : Region.noSelect ops = true) (hf : Region.free md ops listed i = true) (hr : (Region.ready md ops listed).contains i = true)
    (hQ : ∀ c a w, Q (.panic c) (a.put oi.dst v) w → Q (.panic c) a w) (hS : S w)
    (hy : ∀ w, S w → if Region.wanted oi (yielded ops a.tmps) = true then (execOp a.eval oi).run P w = .ok (.value v) w else v = undef)
    (h : wpAnyH P md ops Q S fuel (listed.setIfInBounds i true) (a.put oi.dst v) w) : wpAnyH P md ops Q S (fuel + 1) listed a w := by
  refine wpAnyH_take hi hs hf hr hQ ?_ hS h
  unfold YieldsIf
  cases hw : Region.wanted oi (yielded ops a.tmps) with
  | true =>
    left
    exact ⟨rfl, fun w hw' => by have := hy w hw'; rw [hw, if_pos rfl] at this; exact this⟩
  | false =>
    right
    exact ⟨rfl, by have := hy w hS; rw [hw, if_neg (by decide)] at this; exact this⟩
end
end Go.Proofs.YtkomocgodljecaaGreatDoor
