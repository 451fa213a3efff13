/- Lemmas, laid together: part 4 of 42. Conditions: none but each lemma's own. -/
import Derived.Test.YtiljokmkiolpgaaGreatDoorJ2
import Derived.Shelf.LaysM
import Derived.Shelf.Strings.Search1
import Derived.Shelf.Strings.Search2
import Derived.Shelf.Strings.Search3
import Derived.Test.YtiljokmkiolpgaaGreatDoorProg
import Derived.Test.YtiljokmkiolpgaaGreatDoorJ3
import Derived.Laws.MakeOwn
import Derived.Test.YtiljokmkiolpgaaGreatDoorJ1
import Derived.Deep.RegionHeld3
import Derived.Deep.CutRange
import Derived.StillTailTactics
import Derived.Handy
namespace Go.Proofs.YtiljokmkiolpgaaGreatDoor
open Go.RowKit
set_option maxRecDepth 100000
structure Seg where
 name : ByteArray
 addr : Int
 size : Int
 off : Int
 fsize : Int
 prot : Int
 secs : SlV
def Seg.cells (s : Seg) : List Value := [.string s.name, .int .u64 s.addr, .int .u64 s.size, .int .u64 s.off, .int .u64 s.fsize, .int .i64 s.prot, .slice s.secs.a s.secs.n s.secs.cap]
abbrev Seg.v (s : Seg) : Value := .agg #[.string s.name, .int .u64 s.addr, .int .u64 s.size, .int .u64 s.off, .int .u64 s.fsize, .int .i64 s.prot, .slice s.secs.a s.secs.n s.secs.cap]
def Seg.wf (s : Seg) : Prop := (Lit.int .u64 s.addr).wf = true ∧ (Lit.int .u64 s.size).wf = true ∧ (Lit.int .u64 s.off).wf = true ∧ (Lit.int .u64 s.fsize).wf = true ∧ (Lit.int .i64 s.prot).wf = true
def Seg.zero : Seg := ⟨⟨#[]⟩, 0, 0, 0, 0, 0, ⟨none, 0, 0⟩⟩
def segL : Lay Seg := ⟨7, Seg.cells, Seg.zero, fun _ => rfl, by decide, fun x u hu => by
 simp only [Seg.cells, List.mem_cons, List.not_mem_nil, or_false] at hu
 rcases hu with rfl | rfl | rfl | rfl | rfl | rfl | rfl <;> rfl⟩
theorem Seg.at {w : World} {b o : Nat} {s : Seg} (h : segL.In w b o s) : w.cell? ⟨b, o, none⟩ = some (.string s.name) ∧ w.cell? ⟨b, o + 1, none⟩ = some (.int .u64 s.addr) ∧ w.cell? ⟨b, o + 2, none⟩ = some (.int .u64 s.size) ∧ w.cell? ⟨b, o + 3, none⟩ = some (.int .u64 s.off) ∧ w.cell? ⟨b, o + 4, none⟩ = some (.int .u64 s.fsize) ∧ w.cell? ⟨b, o + 5, none⟩ = some (.int .i64 s.prot) ∧ w.cell? ⟨b, o + 6, none⟩ = some (.slice s.secs.a s.secs.n s.secs.cap) :=
 ⟨h 0 (by decide), h 1 (by decide), h 2 (by decide), h 3 (by decide), h 4 (by decide), h 5 (by decide), h 6 (by decide)⟩
theorem Seg.box (w : World) (s : Seg) (T : TypeId) : segL.Box (w.alloc (.cells #[.string s.name, .int .u64 s.addr, .int .u64 s.size, .int .u64 s.off, .int .u64 s.fsize, .int .i64 s.prot, .slice s.secs.a s.secs.n s.secs.cap] T)) w.heap.size s := Lay.Box.of_alloc (L := segL) w s T
theorem Seg.set_name {w : World} {g : Nat} {s : Seg} (h : segL.Box w g s) (x : ByteArray) : segL.Box (w.setCell ⟨g, 0, none⟩ (.string x)) g { s with name := x } := Lay.Box.set h 0 _ _ rfl
theorem Seg.set_secs {w : World} {g : Nat} {s : Seg} (h : segL.Box w g s) (x : SlV) : segL.Box (w.setCell ⟨g, 6, none⟩ (.slice x.a x.n x.cap)) g { s with secs := x } := Lay.Box.set h 6 _ _ rfl
theorem Seg.c_name {w : World} {b : Nat} {s : Seg} (h : segL.Box w b s) : w.cell? ⟨b, 0, none⟩ = some (.string s.name) := by have := h.in 0 (by decide); rw [Nat.zero_add] at this; exact this
theorem Seg.c_addr {w : World} {b : Nat} {s : Seg} (h : segL.Box w b s) : w.cell? ⟨b, 1, none⟩ = some (.int .u64 s.addr) := by have := h.in 1 (by decide); rw [Nat.zero_add] at this; exact this
theorem Seg.c_size {w : World} {b : Nat} {s : Seg} (h : segL.Box w b s) : w.cell? ⟨b, 2, none⟩ = some (.int .u64 s.size) := by have := h.in 2 (by decide); rw [Nat.zero_add] at this; exact this
theorem Seg.c_off {w : World} {b : Nat} {s : Seg} (h : segL.Box w b s) : w.cell? ⟨b, 3, none⟩ = some (.int .u64 s.off) := by have := h.in 3 (by decide); rw [Nat.zero_add] at this; exact this
theorem Seg.c_fsize {w : World} {b : Nat} {s : Seg} (h : segL.Box w b s) : w.cell? ⟨b, 4, none⟩ = some (.int .u64 s.fsize) := by have := h.in 4 (by decide); rw [Nat.zero_add] at this; exact this
theorem Seg.c_prot {w : World} {b : Nat} {s : Seg} (h : segL.Box w b s) : w.cell? ⟨b, 5, none⟩ = some (.int .i64 s.prot) := by have := h.in 5 (by decide); rw [Nat.zero_add] at this; exact this
theorem Seg.c_secs {w : World} {b : Nat} {s : Seg} (h : segL.Box w b s) : w.cell? ⟨b, 6, none⟩ = some (.slice s.secs.a s.secs.n s.secs.cap) := by have := h.in 6 (by decide); rw [Nat.zero_add] at this; exact this
structure Img where
 kind : Int
 sub : Int
 flags : Int
 name : ByteArray
 segs : SlV
 deps : SlV
 rbO : Int
 rbS : Int
 bdO : Int
 bdS : Int
 wkO : Int
 wkS : Int
 lzO : Int
 lzS : Int
 trO : Int
 trS : Int
 chO : Int
 chS : Int
 syO : Int
 syS : Int
 stO : Int
 stS : Int
 entry : Int
 has : Bool
def Img.cells (s : Img) : List Value := [.int .i64 s.kind, .int .i64 s.sub, .int .u32 s.flags, .string s.name, .slice s.segs.a s.segs.n s.segs.cap, .slice s.deps.a s.deps.n s.deps.cap, .int .u64 s.rbO, .int .u64 s.rbS, .int .u64 s.bdO, .int .u64 s.bdS, .int .u64 s.wkO, .int .u64 s.wkS, .int .u64 s.lzO, .int .u64 s.lzS, .int .u64 s.trO, .int .u64 s.trS, .int .u64 s.chO, .int .u64 s.chS, .int .u64 s.syO, .int .u64 s.syS, .int .u64 s.stO, .int .u64 s.stS, .int .u64 s.entry, .bool s.has]
abbrev Img.v (s : Img) : Value := .agg #[.int .i64 s.kind, .int .i64 s.sub, .int .u32 s.flags, .string s.name, .slice s.segs.a s.segs.n s.segs.cap, .slice s.deps.a s.deps.n s.deps.cap, .int .u64 s.rbO, .int .u64 s.rbS, .int .u64 s.bdO, .int .u64 s.bdS, .int .u64 s.wkO, .int .u64 s.wkS, .int .u64 s.lzO, .int .u64 s.lzS, .int .u64 s.trO, .int .u64 s.trS, .int .u64 s.chO, .int .u64 s.chS, .int .u64 s.syO, .int .u64 s.syS, .int .u64 s.stO, .int .u64 s.stS, .int .u64 s.entry, .bool s.has]
def Img.wf (s : Img) : Prop := (Lit.int .i64 s.kind).wf = true ∧ (Lit.int .i64 s.sub).wf = true ∧ (Lit.int .u32 s.flags).wf = true ∧ (Lit.int .u64 s.rbO).wf = true ∧ (Lit.int .u64 s.rbS).wf = true ∧ (Lit.int .u64 s.bdO).wf = true ∧ (Lit.int .u64 s.bdS).wf = true ∧ (Lit.int .u64 s.wkO).wf = true ∧ (Lit.int .u64 s.wkS).wf = true ∧ (Lit.int .u64 s.lzO).wf = true ∧ (Lit.int .u64 s.lzS).wf = true ∧ (Lit.int .u64 s.trO).wf = true ∧ (Lit.int .u64 s.trS).wf = true ∧ (Lit.int .u64 s.chO).wf = true ∧ (Lit.int .u64 s.chS).wf = true ∧ (Lit.int .u64 s.syO).wf = true ∧ (Lit.int .u64 s.syS).wf = true ∧ (Lit.int .u64 s.stO).wf = true ∧ (Lit.int .u64 s.stS).wf = true ∧ (Lit.int .u64 s.entry).wf = true
def Img.zero : Img := ⟨0, 0, 0, ⟨#[]⟩, ⟨none, 0, 0⟩, ⟨none, 0, 0⟩, 0, 0, 0, 0, 0, 0, 0, 0, 0, 0, 0, 0, 0, 0, 0, 0, 0, false⟩
def imgL : Lay Img := ⟨24, Img.cells, Img.zero, fun _ => rfl, by decide, fun x u hu => by
 simp only [Img.cells, List.mem_cons, List.not_mem_nil, or_false] at hu
 rcases hu with rfl | rfl | rfl | rfl | rfl | rfl | rfl | rfl | rfl | rfl | rfl | rfl | rfl | rfl | rfl | rfl | rfl | rfl | rfl | rfl | rfl | rfl | rfl | rfl <;> rfl⟩
theorem Img.at {w : World} {b o : Nat} {s : Img} (h : imgL.In w b o s) : w.cell? ⟨b, o, none⟩ = some (.int .i64 s.kind) ∧ w.cell? ⟨b, o + 1, none⟩ = some (.int .i64 s.sub) ∧ w.cell? ⟨b, o + 2, none⟩ = some (.int .u32 s.flags) ∧ w.cell? ⟨b, o + 3, none⟩ = some (.string s.name) ∧ w.cell? ⟨b, o + 4, none⟩ = some (.slice s.segs.a s.segs.n s.segs.cap) ∧ w.cell? ⟨b, o + 5, none⟩ = some (.slice s.deps.a s.deps.n s.deps.cap) ∧ w.cell? ⟨b, o + 6, none⟩ = some (.int .u64 s.rbO) ∧ w.cell? ⟨b, o + 7, none⟩ = some (.int .u64 s.rbS) ∧ w.cell? ⟨b, o + 8, none⟩ = some (.int .u64 s.bdO) ∧ w.cell? ⟨b, o + 9, none⟩ = some (.int .u64 s.bdS) ∧ w.cell? ⟨b, o + 10, none⟩ = some (.int .u64 s.wkO) ∧ w.cell? ⟨b, o + 11, none⟩ = some (.int .u64 s.wkS) ∧ w.cell? ⟨b, o + 12, none⟩ = some (.int .u64 s.lzO) ∧ w.cell? ⟨b, o + 13, none⟩ = some (.int .u64 s.lzS) ∧ w.cell? ⟨b, o + 14, none⟩ = some (.int .u64 s.trO) ∧ w.cell? ⟨b, o + 15, none⟩ = some (.int .u64 s.trS) ∧ w.cell? ⟨b, o + 16, none⟩ = some (.int .u64 s.chO) ∧ w.cell? ⟨b, o + 17, none⟩ = some (.int .u64 s.chS) ∧ w.cell? ⟨b, o + 18, none⟩ = some (.int .u64 s.syO) ∧ w.cell? ⟨b, o + 19, none⟩ = some (.int .u64 s.syS) ∧ w.cell? ⟨b, o + 20, none⟩ = some (.int .u64 s.stO) ∧ w.cell? ⟨b, o + 21, none⟩ = some (.int .u64 s.stS) ∧ w.cell? ⟨b, o + 22, none⟩ = some (.int .u64 s.entry) ∧ w.cell? ⟨b, o + 23, none⟩ = some (.bool s.has) :=
 ⟨h 0 (by decide), h 1 (by decide), h 2 (by decide), h 3 (by decide), h 4 (by decide), h 5 (by decide), h 6 (by decide), h 7 (by decide), h 8 (by decide), h 9 (by decide), h 10 (by decide), h 11 (by decide), h 12 (by decide), h 13 (by decide), h 14 (by decide), h 15 (by decide), h 16 (by decide), h 17 (by decide), h 18 (by decide), h 19 (by decide), h 20 (by decide), h 21 (by decide), h 22 (by decide), h 23 (by decide)⟩
theorem Img.box (w : World) (s : Img) (T : TypeId) : imgL.Box (w.alloc (.cells #[.int .i64 s.kind, .int .i64 s.sub, .int .u32 s.flags, .string s.name, .slice s.segs.a s.segs.n s.segs.cap, .slice s.deps.a s.deps.n s.deps.cap, .int .u64 s.rbO, .int .u64 s.rbS, .int .u64 s.bdO, .int .u64 s.bdS, .int .u64 s.wkO, .int .u64 s.wkS, .int .u64 s.lzO, .int .u64 s.lzS, .int .u64 s.trO, .int .u64 s.trS, .int .u64 s.chO, .int .u64 s.chS, .int .u64 s.syO, .int .u64 s.syS, .int .u64 s.stO, .int .u64 s.stS, .int .u64 s.entry, .bool s.has] T)) w.heap.size s := Lay.Box.of_alloc (L := imgL) w s T
theorem Img.set_name {w : World} {g : Nat} {s : Img} (h : imgL.Box w g s) (x : ByteArray) : imgL.Box (w.setCell ⟨g, 3, none⟩ (.string x)) g { s with name := x } := Lay.Box.set h 3 _ _ rfl
theorem Img.set_segs {w : World} {g : Nat} {s : Img} (h : imgL.Box w g s) (x : SlV) : imgL.Box (w.setCell ⟨g, 4, none⟩ (.slice x.a x.n x.cap)) g { s with segs := x } := Lay.Box.set h 4 _ _ rfl
theorem Img.set_deps {w : World} {g : Nat} {s : Img} (h : imgL.Box w g s) (x : SlV) : imgL.Box (w.setCell ⟨g, 5, none⟩ (.slice x.a x.n x.cap)) g { s with deps := x } := Lay.Box.set h 5 _ _ rfl
theorem Img.set_entry {w : World} {g : Nat} {s : Img} (h : imgL.Box w g s) (x : Int) : imgL.Box (w.setCell ⟨g, 22, none⟩ (.int .u64 x)) g { s with entry := x } := Lay.Box.set h 22 _ _ rfl
theorem Img.set_has {w : World} {g : Nat} {s : Img} (h : imgL.Box w g s) (x : Bool) : imgL.Box (w.setCell ⟨g, 23, none⟩ (.bool x)) g { s with has := x } := Lay.Box.set h 23 _ _ rfl
theorem Img.c_kind {w : World} {b : Nat} {s : Img} (h : imgL.Box w b s) : w.cell? ⟨b, 0, none⟩ = some (.int .i64 s.kind) := by have := h.in 0 (by decide); rw [Nat.zero_add] at this; exact this
theorem Img.c_name {w : World} {b : Nat} {s : Img} (h : imgL.Box w b s) : w.cell? ⟨b, 3, none⟩ = some (.string s.name) := by have := h.in 3 (by decide); rw [Nat.zero_add] at this; exact this
theorem Img.c_segs {w : World} {b : Nat} {s : Img} (h : imgL.Box w b s) : w.cell? ⟨b, 4, none⟩ = some (.slice s.segs.a s.segs.n s.segs.cap) := by have := h.in 4 (by decide); rw [Nat.zero_add] at this; exact this
theorem Img.c_deps {w : World} {b : Nat} {s : Img} (h : imgL.Box w b s) : w.cell? ⟨b, 5, none⟩ = some (.slice s.deps.a s.deps.n s.deps.cap) := by have := h.in 5 (by decide); rw [Nat.zero_add] at this; exact this
theorem Img.c_rbO {w : World} {b : Nat} {s : Img} (h : imgL.Box w b s) : w.cell? ⟨b, 6, none⟩ = some (.int .u64 s.rbO) := by have := h.in 6 (by decide); rw [Nat.zero_add] at this; exact this
theorem Img.c_rbS {w : World} {b : Nat} {s : Img} (h : imgL.Box w b s) : w.cell? ⟨b, 7, none⟩ = some (.int .u64 s.rbS) := by have := h.in 7 (by decide); rw [Nat.zero_add] at this; exact this
theorem Img.c_bdO {w : World} {b : Nat} {s : Img} (h : imgL.Box w b s) : w.cell? ⟨b, 8, none⟩ = some (.int .u64 s.bdO) := by have := h.in 8 (by decide); rw [Nat.zero_add] at this; exact this
theorem Img.c_bdS {w : World} {b : Nat} {s : Img} (h : imgL.Box w b s) : w.cell? ⟨b, 9, none⟩ = some (.int .u64 s.bdS) := by have := h.in 9 (by decide); rw [Nat.zero_add] at this; exact this
theorem Img.c_wkO {w : World} {b : Nat} {s : Img} (h : imgL.Box w b s) : w.cell? ⟨b, 10, none⟩ = some (.int .u64 s.wkO) := by have := h.in 10 (by decide); rw [Nat.zero_add] at this; exact this
theorem Img.c_wkS {w : World} {b : Nat} {s : Img} (h : imgL.Box w b s) : w.cell? ⟨b, 11, none⟩ = some (.int .u64 s.wkS) := by have := h.in 11 (by decide); rw [Nat.zero_add] at this; exact this
theorem Img.c_lzO {w : World} {b : Nat} {s : Img} (h : imgL.Box w b s) : w.cell? ⟨b, 12, none⟩ = some (.int .u64 s.lzO) := by have := h.in 12 (by decide); rw [Nat.zero_add] at this; exact this
theorem Img.c_lzS {w : World} {b : Nat} {s : Img} (h : imgL.Box w b s) : w.cell? ⟨b, 13, none⟩ = some (.int .u64 s.lzS) := by have := h.in 13 (by decide); rw [Nat.zero_add] at this; exact this
theorem Img.c_trO {w : World} {b : Nat} {s : Img} (h : imgL.Box w b s) : w.cell? ⟨b, 14, none⟩ = some (.int .u64 s.trO) := by have := h.in 14 (by decide); rw [Nat.zero_add] at this; exact this
theorem Img.c_trS {w : World} {b : Nat} {s : Img} (h : imgL.Box w b s) : w.cell? ⟨b, 15, none⟩ = some (.int .u64 s.trS) := by have := h.in 15 (by decide); rw [Nat.zero_add] at this; exact this
theorem Img.c_chO {w : World} {b : Nat} {s : Img} (h : imgL.Box w b s) : w.cell? ⟨b, 16, none⟩ = some (.int .u64 s.chO) := by have := h.in 16 (by decide); rw [Nat.zero_add] at this; exact this
theorem Img.c_chS {w : World} {b : Nat} {s : Img} (h : imgL.Box w b s) : w.cell? ⟨b, 17, none⟩ = some (.int .u64 s.chS) := by have := h.in 17 (by decide); rw [Nat.zero_add] at this; exact this
theorem Img.c_syO {w : World} {b : Nat} {s : Img} (h : imgL.Box w b s) : w.cell? ⟨b, 18, none⟩ = some (.int .u64 s.syO) := by have := h.in 18 (by decide); rw [Nat.zero_add] at this; exact this
theorem Img.c_syS {w : World} {b : Nat} {s : Img} (h : imgL.Box w b s) : w.cell? ⟨b, 19, none⟩ = some (.int .u64 s.syS) := by have := h.in 19 (by decide); rw [Nat.zero_add] at this; exact this
theorem Img.c_stO {w : World} {b : Nat} {s : Img} (h : imgL.Box w b s) : w.cell? ⟨b, 20, none⟩ = some (.int .u64 s.stO) := by have := h.in 20 (by decide); rw [Nat.zero_add] at this; exact this
theorem Img.c_stS {w : World} {b : Nat} {s : Img} (h : imgL.Box w b s) : w.cell? ⟨b, 21, none⟩ = some (.int .u64 s.stS) := by have := h.in 21 (by decide); rw [Nat.zero_add] at this; exact this
theorem Img.c_entry {w : World} {b : Nat} {s : Img} (h : imgL.Box w b s) : w.cell? ⟨b, 22, none⟩ = some (.int .u64 s.entry) := by have := h.in 22 (by decide); rw [Nat.zero_add] at this; exact this
theorem Img.c_has {w : World} {b : Nat} {s : Img} (h : imgL.Box w b s) : w.cell? ⟨b, 23, none⟩ = some (.bool s.has) := by have := h.in 23 (by decide); rw [Nat.zero_add] at this; exact this
structure Chn where
 starts : SlV
 imps : SlV
def Chn.cells (s : Chn) : List Value := [.slice s.starts.a s.starts.n s.starts.cap, .slice s.imps.a s.imps.n s.imps.cap]
abbrev Chn.v (s : Chn) : Value := .agg #[.slice s.starts.a s.starts.n s.starts.cap, .slice s.imps.a s.imps.n s.imps.cap]
def Chn.wf (_ : Chn) : Prop := True
def Chn.zero : Chn := ⟨⟨none, 0, 0⟩, ⟨none, 0, 0⟩⟩
def chnL : Lay Chn := ⟨2, Chn.cells, Chn.zero, fun _ => rfl, by decide, fun x u hu => by
 simp only [Chn.cells, List.mem_cons, List.not_mem_nil, or_false] at hu
 rcases hu with rfl | rfl <;> rfl⟩
theorem Chn.at {w : World} {b o : Nat} {s : Chn} (h : chnL.In w b o s) : w.cell? ⟨b, o, none⟩ = some (.slice s.starts.a s.starts.n s.starts.cap) ∧ w.cell? ⟨b, o + 1, none⟩ = some (.slice s.imps.a s.imps.n s.imps.cap) :=
 ⟨h 0 (by decide), h 1 (by decide)⟩
theorem Chn.box (w : World) (s : Chn) (T : TypeId) : chnL.Box (w.alloc (.cells #[.slice s.starts.a s.starts.n s.starts.cap, .slice s.imps.a s.imps.n s.imps.cap] T)) w.heap.size s := Lay.Box.of_alloc (L := chnL) w s T
theorem Chn.set_starts {w : World} {g : Nat} {s : Chn} (h : chnL.Box w g s) (x : SlV) : chnL.Box (w.setCell ⟨g, 0, none⟩ (.slice x.a x.n x.cap)) g { s with starts := x } := Lay.Box.set h 0 _ _ rfl
theorem Chn.set_imps {w : World} {g : Nat} {s : Chn} (h : chnL.Box w g s) (x : SlV) : chnL.Box (w.setCell ⟨g, 1, none⟩ (.slice x.a x.n x.cap)) g { s with imps := x } := Lay.Box.set h 1 _ _ rfl
theorem Chn.c_starts {w : World} {b : Nat} {s : Chn} (h : chnL.Box w b s) : w.cell? ⟨b, 0, none⟩ = some (.slice s.starts.a s.starts.n s.starts.cap) := by have := h.in 0 (by decide); rw [Nat.zero_add] at this; exact this
theorem Chn.c_imps {w : World} {b : Nat} {s : Chn} (h : chnL.Box w b s) : w.cell? ⟨b, 1, none⟩ = some (.slice s.imps.a s.imps.n s.imps.cap) := by have := h.in 1 (by decide); rw [Nat.zero_add] at this; exact this
structure Sta where
 seg : Int
 page : Int
 fmt : Int
 begins : SlV
def Sta.cells (s : Sta) : List Value := [.int .i64 s.seg, .int .i64 s.page, .int .i64 s.fmt, .slice s.begins.a s.begins.n s.begins.cap]
abbrev Sta.v (s : Sta) : Value := .agg #[.int .i64 s.seg, .int .i64 s.page, .int .i64 s.fmt, .slice s.begins.a s.begins.n s.begins.cap]
def Sta.wf (s : Sta) : Prop := (Lit.int .i64 s.seg).wf = true ∧ (Lit.int .i64 s.page).wf = true ∧ (Lit.int .i64 s.fmt).wf = true
def Sta.zero : Sta := ⟨0, 0, 0, ⟨none, 0, 0⟩⟩
def staL : Lay Sta := ⟨4, Sta.cells, Sta.zero, fun _ => rfl, by decide, fun x u hu => by
 simp only [Sta.cells, List.mem_cons, List.not_mem_nil, or_false] at hu
 rcases hu with rfl | rfl | rfl | rfl <;> rfl⟩
theorem Sta.at {w : World} {b o : Nat} {s : Sta} (h : staL.In w b o s) : w.cell? ⟨b, o, none⟩ = some (.int .i64 s.seg) ∧ w.cell? ⟨b, o + 1, none⟩ = some (.int .i64 s.page) ∧ w.cell? ⟨b, o + 2, none⟩ = some (.int .i64 s.fmt) ∧ w.cell? ⟨b, o + 3, none⟩ = some (.slice s.begins.a s.begins.n s.begins.cap) :=
 ⟨h 0 (by decide), h 1 (by decide), h 2 (by decide), h 3 (by decide)⟩
theorem Sta.box (w : World) (s : Sta) (T : TypeId) : staL.Box (w.alloc (.cells #[.int .i64 s.seg, .int .i64 s.page, .int .i64 s.fmt, .slice s.begins.a s.begins.n s.begins.cap] T)) w.heap.size s := Lay.Box.of_alloc (L := staL) w s T
theorem Sta.set_begins {w : World} {g : Nat} {s : Sta} (h : staL.Box w g s) (x : SlV) : staL.Box (w.setCell ⟨g, 3, none⟩ (.slice x.a x.n x.cap)) g { s with begins := x } := Lay.Box.set h 3 _ _ rfl
theorem Sta.c_seg {w : World} {b : Nat} {s : Sta} (h : staL.Box w b s) : w.cell? ⟨b, 0, none⟩ = some (.int .i64 s.seg) := by have := h.in 0 (by decide); rw [Nat.zero_add] at this; exact this
theorem Sta.c_page {w : World} {b : Nat} {s : Sta} (h : staL.Box w b s) : w.cell? ⟨b, 1, none⟩ = some (.int .i64 s.page) := by have := h.in 1 (by decide); rw [Nat.zero_add] at this; exact this
theorem Sta.c_fmt {w : World} {b : Nat} {s : Sta} (h : staL.Box w b s) : w.cell? ⟨b, 2, none⟩ = some (.int .i64 s.fmt) := by have := h.in 2 (by decide); rw [Nat.zero_add] at this; exact this
theorem Sta.c_begins {w : World} {b : Nat} {s : Sta} (h : staL.Box w b s) : w.cell? ⟨b, 3, none⟩ = some (.slice s.begins.a s.begins.n s.begins.cap) := by have := h.in 3 (by decide); rw [Nat.zero_add] at this; exact this
end Go.Proofs.YtiljokmkiolpgaaGreatDoor
namespace Go.Proofs
open Go.Shelf
end Go.Proofs
namespace Go.Proofs.YtiljokmkiolpgaaGreatDoor
open Go.RowKit
set_option maxRecDepth 100000
theorem Tryz.tImg : Lay.Ty imgL Tryz.prog 32 := Lay.Ty.mk' (by kernel_rfl) (by kernel_rfl)
theorem Tryz.tImp : Lay.Ty impL Tryz.prog 59 := Lay.Ty.mk' (by kernel_rfl) (by kernel_rfl)
theorem Tryz.tChn : Lay.Ty chnL Tryz.prog 54 := Lay.Ty.mk' (by kernel_rfl) (by kernel_rfl)
def ordB (n : Int) (d : Nat) : Bool := decide (-3 ≤ n) && decide (n ≤ (d : Int))
theorem ordinal_any (n : Int) (m : Img) (w : World) : Calls Tryz.prog 50 #[.int .i64 n, imgL.val m] w fun e w' => e = .returned (.bool (ordB n m.deps.n)) ∧ Chg [] w w' := by
 unfold ordB
 by_cases h1 : -3 ≤ n
 ·have d1 : decide (-3 ≤ n) = true := by simpa using h1
  rw [d1]
  have H1 := hY h1
  clear h1
  go_enter Tryz.func50, Tryz.ntmps50
  go_wp2_with ((with_reducible refine Lay.bxQ (L := imgL) 32 m ?_ ?_); exact rfl)
  refine hY fun W1 bm ebm cbm xbm => ?_
  have x5 := Img.c_deps xbm.out
  go_wp2
  go_ret
  exact ⟨rfl, cbm.out⟩
 ·have d1 : decide (-3 ≤ n) = false := by simpa using h1
  rw [d1]
  have H1 := hY h1
  clear h1
  go_enter Tryz.func50, Tryz.ntmps50
  go_wp2_with ((with_reducible refine Lay.bxQ (L := imgL) 32 m ?_ ?_); exact rfl)
  refine hY fun W1 bm ebm cbm xbm => ?_
  go_wp2
  go_ret
  exact ⟨rfl, cbm.out⟩
def rdF : Int → Option Value := Map.put (Map.put (Map.put (fun _ => none) 1 (.func (.func 85) #[] #[])) 2 (.func (.func 86) #[] #[])) 3 (.func (.func 87) #[] #[])
theorem Tryz.tRdC : Map.Ty (Map.intK .u64) Tryz.prog 116 .nilFunc := ⟨28, 115, by kernel_rfl, by kernel_rfl, fun w => by kernel_rfl⟩
theorem readers_any (w : World) : Calls Tryz.prog 46 #[] w fun e w' => ∃ b, e = .returned (.map (some b)) ∧ Map.Is (Map.intK .u64) w' b rdF ∧ Chg [] w w' := by
 go_enter Tryz.func46, Tryz.ntmps46
 go_wp2_with ((with_reducible refine Map.mkL (Map.intK .u64) 116 ?_); intro W2 bq ebq cbq mbq; replace ebq := hY ebq; replace cbq := hY cbq; replace mbq := hY mbq; refine Hid.out ?_)
 refine hY ?_
 go_wp2_with ((with_reducible refine Map.insL Tryz.tRdC (mbq.out) 1 (.func (.func 85) #[] #[]) ?_ ?_ ?_ ?_); exact rfl; exact rfl; exact rfl; intro W3 cW3 mW3; replace cW3 := hY cW3; replace mW3 := hY mW3; refine Hid.out ?_)
 refine hY ?_
 go_wp2_with ((with_reducible refine Map.insL Tryz.tRdC (mW3.out) 2 (.func (.func 86) #[] #[]) ?_ ?_ ?_ ?_); exact rfl; exact rfl; exact rfl; intro W4 cW4 mW4; replace cW4 := hY cW4; replace mW4 := hY mW4; refine Hid.out ?_)
 refine hY ?_
 go_wp2_with ((with_reducible refine Map.insL Tryz.tRdC (mW4.out) 3 (.func (.func 87) #[] #[]) ?_ ?_ ?_ ?_); exact rfl; exact rfl; exact rfl; intro W5 cW5 mW5; replace cW5 := hY cW5; replace mW5 := hY mW5; refine Hid.out ?_)
 refine hY ?_
 go_wp2
 go_ret
 have hsz : w.heap.size ≤ bq := by rw [ebq.out]; exact Nat.le_refl _
 exact ⟨bq, rfl, mW5.out, ((cbq.out.new cW3.out hsz).new cW4.out hsz).new cW5.out hsz⟩
section
variable {P : Program} {ops : Array Oper} {Q : Exit → Act → World → Prop} {md : Region.Mode} {S S' : World → Prop}
theorem take_read {i : Nat} {oi : Oper} {v : Value} {fuel : Nat} {listed : Array Bool} {a : Act} {w : World} (hi : ops[i]? = some oi)
  (hs : Region.noSelect ops = true) (hf : Region.free md ops listed i = true) (hr : (Region.ready md ops listed).contains i = true)
  (hQ : ∀ c a w, Q (.panic c) (a.put oi.dst v) w → Q (.panic c) a w) (hS : S w)
  (hy : ∀ w, S w → if Region.wanted oi (yielded ops a.tmps) = true then (execOp a.eval oi).run P w = .ok (.value v) w else v = undef)
  (h : wpAnyH P md ops Q S fuel (listed.setIfInBounds i true) (a.put oi.dst v) w) : wpAnyH P md ops Q S (fuel + 1) listed a w := by
 refine wpAnyH_take hi hs hf hr hQ ?_ hS h
 unfold YieldsIf
 cases hw : Region.wanted oi (yielded ops a.tmps) with
 | true =>
  left
  exact ⟨rfl, fun w hw' => by have := hy w hw'; rw [hw, if_pos rfl] at this; exact this⟩
 | false =>
  right
  exact ⟨rfl, by have := hy w hS; rw [hw, if_neg (by decide)] at this; exact this⟩
theorem tkr (i : Nat) {oi : Oper} (v : Value) {fuel : Nat} {listed : Array Bool} {a : Act} {w : World} (hS : S w)
  (hy : ∀ w, S w → if Region.wanted oi (yielded ops a.tmps) = true then (execOp a.eval oi).run P w = .ok (.value v) w else v = undef)
  (h : wpAnyH P md ops Q S fuel (listed.setIfInBounds i true) (a.put oi.dst v) w)
  (hi : ops[i]? = some oi := by simp only [gA, gC, gZ]; rfl)
  (hs : Region.noSelect ops = true := by kernel_rfl) (hf : Region.free md ops listed i = true := by kernel_rfl) (hr : (Region.ready md ops listed).contains i = true := by kernel_rfl)
  (hQ : ∀ c a w, Q (.panic c) (a.put oi.dst v) w → Q (.panic c) a w := by exact fun _ _ _ h => h) : wpAnyH P md ops Q S (fuel + 1) listed a w := take_read hi hs hf hr hQ hS hy h
end
def idx {α : Type} (p : α → Bool) : List α → Option Nat
 | [] => none
 | x :: r => if p x then some 0 else (idx p r).map (· + 1)
theorem idx_some {α : Type} {p : α → Bool} {d : α} : ∀ {l : List α} {k : Nat}, k < l.length → p (l.getD k d) = true → (∀ j, j < k → p (l.getD j d) = false) → idx p l = some k
 | [], _, h, _, _ => by simp at h
 | x :: r, 0, _, h, _ => by
  unfold idx
  rw [if_pos (by simpa using h)]
 | x :: r, k + 1, hk, h, hn => by
  have h0 := hn 0 (by omega)
  have ih := idx_some (p := p) (d := d) (l := r) (k := k) (by simpa using hk) (by simpa using h) (fun j hj => by simpa using hn (j + 1) (by omega))
  unfold idx
  rw [if_neg (by simpa using h0), ih]
  rfl
theorem idx_none {α : Type} {p : α → Bool} {d : α} : ∀ {l : List α}, (∀ j, j < l.length → p (l.getD j d) = false) → idx p l = none
 | [], _ => rfl
 | x :: r, hn => by
  have h0 := hn 0 (by simp)
  have ih := idx_none (p := p) (d := d) (l := r) (fun j hj => by simpa using hn (j + 1) (by simpa using hj))
  unfold idx
  rw [if_neg (by simpa using h0), ih]
  rfl
theorem idx_lt {α : Type} {p : α → Bool} : ∀ {l : List α} {k : Nat}, idx p l = some k → k < l.length
 | [], _, h => by cases h
 | x :: r, k, h => by
  unfold idx at h
  split at h
  ·cases h; simp
  ·cases hi : idx p r with
   | none => rw [hi] at h; cases h
   | some m =>
    rw [hi] at h
    cases h
    have := idx_lt hi
    simpa using this
def idxI (o : Option Nat) : Int := match o with | some k => k | none => -1
def holeS (s : Seg) : Bool := decide (s.prot = 0) && decide (s.fsize = 0)
def lowS (ls : List Seg) : Int := match idx (fun s => !holeS s) ls with | some k => (ls.getD k .zero).addr | none => 0
theorem hole_any (s : Seg) (w : World) : Calls Tryz.prog 112 #[s.v] w fun e w' => e = .returned (.bool (holeS s)) ∧ Chg [] w w' := by
 unfold holeS
 by_cases hp : s.prot = 0
 ·rw [hp, decide_eq_true rfl, Bool.true_and]
  unfold Seg.v
  rw [hp]
  clear hp
  go_enter Tryz.func112, Tryz.ntmps112
  go_wp2
  go_ret
  exact ⟨rfl, (Chg.refl _ _).alloc _⟩
 ·have d1 : decide (s.prot = 0) = false := by simpa using hp
  have d2 : (s.prot == 0) = false := by simpa using hp
  rw [d1, Bool.false_and]
  clear hp
  go_enter Tryz.func112, Tryz.ntmps112
  go_wp2
  go_ret
  exact ⟨rfl, (Chg.refl _ _).alloc _⟩
theorem refHole_any (s : Seg) (w : World) : Calls Tryz.prog 66 #[s.v] w fun e w' => e = .returned (.bool (holeS s)) ∧ Chg [] w w' := by
 unfold holeS
 by_cases hp : s.prot = 0
 ·rw [hp, decide_eq_true rfl, Bool.true_and]
  unfold Seg.v
  rw [hp]
  clear hp
  go_enter Tryz.func66, Tryz.ntmps66
  go_wp2
  go_ret
  exact ⟨rfl, (Chg.refl _ _).alloc _⟩
 ·have d1 : decide (s.prot = 0) = false := by simpa using hp
  have d2 : (s.prot == 0) = false := by simpa using hp
  rw [d1, Bool.false_and]
  clear hp
  go_enter Tryz.func66, Tryz.ntmps66
  go_wp2
  go_ret
  exact ⟨rfl, (Chg.refl _ _).alloc _⟩
theorem first1_any (s : Seg) (w : World) : Calls Tryz.prog 113 #[s.v] w fun e w' => e = .returned (.bool (!holeS s)) ∧ Chg [] w w' := by
 have HH := hY (hole_any s)
 generalize holeS s = b at *
 go_enter Tryz.func113, Tryz.ntmps113
 go_wp2_with fail
 refine (HH.out _).mono ?_
 rintro e w' ⟨rfl, hc⟩
 have Hc := hY hc
 clear hc
 go_wp2
 go_ret
 exact ⟨rfl, ((Chg.refl _ _).alloc _).then Hc.out⟩
set_option maxHeartbeats 1000000 in
theorem idxFirst_any (ls : List Seg) (v : Value) (w : World) (rd : segL.Rd w v ls) :
  Calls Tryz.prog 110 #[v, .func (.func 113) #[] #[]] w fun e w' => e = .returned (.int .i64 (idxI (idx (fun s => !holeS s) ls))) ∧ Chg [] w w' := by
 obtain ⟨a, cap, rfl, hc1, hc2⟩ := rd.shape
 have HR := hY rd
 clear rd
 go_enter Tryz.func110, Tryz.ntmps110
 go_wp2_with fail
 go_loopw [8] (fun s8 wr => ∃ k : Nat, k ≤ ls.length ∧ s8 = .int .i64 (k : Int) ∧ (∀ j, j < k → (!holeS (ls.getD j .zero)) = false) ∧ Chg [] w wr) (fun s8 _ => ls.length - (intOf s8).toNat)
 case atStart => exact ⟨0, Nat.zero_le _, rfl, fun _ h => absurd h (Nat.not_lt_zero _), Chg.refl _ _⟩
 case round =>
  obtain ⟨k, hk, rfl, hno, hch⟩ := hrel
  have Hno := hY hno
  have Hch := hY hch
  clear hno hch
  by_cases hlt : k < ls.length
  ·obtain ⟨b, off, rfl, hb, hcell⟩ := HR.out.at (by omega)
   have hI : segL.In w b (off + k * 7) (ls.getD k .zero) := hcell k hlt
   obtain ⟨s, hs⟩ : ∃ s, s = ls.getD k .zero := ⟨_, rfl⟩
   rw [← hs] at hI
   obtain ⟨x0, x1, x2, x3, x4, x5, x6⟩ := Seg.at (hI.frame Hch.out)
   clear hI hcell hb
   have Hs := hY hs
   clear hs
   have HF := hY (first1_any s)
   obtain ⟨q, hq⟩ : ∃ q, q = !holeS s := ⟨_, rfl⟩
   rw [← hq] at HF
   go_wp2_with fail
   refine (HF.out _).mono ?_
   rintro e w' ⟨rfl, hc⟩
   have HC := hY (Hch.out.then hc)
   clear hc
   cases q with
   | true =>
    have HE : Hid (idx (fun s => !holeS s) ls = some k) := hY (by rw [Hs.out] at hq; exact idx_some hlt hq.symm (fun j hj => Hno.out j hj))
    clear hq
    go_wp2
    go_ret
    exact ⟨by rw [HE.out]; rfl, HC.out⟩
   | false =>
    have Hq := hY hq
    clear hq
    go_wp2
    go_roundw
    case rel =>
     refine ⟨k + 1, hlt, by go_num, fun j hj => ?_, HC.out⟩
     by_cases e : j = k
     ·subst e; rw [← Hs.out]; exact Hq.out.symm
     ·exact Hno.out j (by omega)
    case measure => simp [intOf]; omega
  ·have HE : Hid (idx (fun s => !holeS s) ls = none) := hY (idx_none (fun j hj => Hno.out j (by omega)))
   go_wp2
   go_ret
   exact ⟨by rw [HE.out]; rfl, Hch.out⟩
theorem first_any (m : Img) (ls : List Seg) (w : World) (rd : segL.Rd w m.segs.v ls) :
  Calls Tryz.prog 98 #[imgL.val m] w fun e w' => e = .returned (.int .i64 (idxI (idx (fun s => !holeS s) ls))) ∧ Chg [] w w' := by
 have Rd := hY rd
 clear rd
 go_enter Tryz.func98, Tryz.ntmps98
 go_wp2_with ((with_reducible refine Lay.bxQ (L := imgL) 32 m ?_ ?_); exact rfl)
 refine hY fun W bm hbm hcW hbox => ?_
 have x4 := Img.c_segs hbox.out
 clear hbm
 go_wp2_with fail
 refine (idxFirst_any ls _ _ (Rd.out.frame hcW.out)).mono ?_
 rintro e w' ⟨rfl, hc⟩
 have Hc := hY hc
 clear hc
 go_wp2
 go_ret
 exact ⟨rfl, hcW.out.then Hc.out⟩
theorem low_any (m : Img) (ls : List Seg) (w : World) (rd : segL.Rd w m.segs.v ls) :
  Calls Tryz.prog 70 #[imgL.val m] w fun e w' => e = .returned (.int .u64 (lowS ls)) ∧ Chg [] w w' := by
 have Rd := hY rd
 clear rd
 have HF := hY (first_any m ls)
 cases hi : idx (fun s => !holeS s) ls with
 | none =>
  have hL : lowS ls = 0 := by simp [lowS, hi]
  rw [hi] at HF
  rw [hL]
  clear hi hL
  unfold idxI at HF
  go_enter Tryz.func70, Tryz.ntmps70
  go_wp2_with ((with_reducible refine Lay.bxQ (L := imgL) 32 m ?_ ?_); exact rfl)
  refine hY fun W bm hbm hcW hbox => ?_
  clear hbm
  go_wp2_with ((with_reducible refine Lay.ldQ Tryz.tImg m (hbox.out.in) ?_ ?_); exact rfl)
  refine hY ?_
  go_wp2_with fail
  refine (HF.out _ (Rd.out.frame hcW.out)).mono ?_
  rintro e w' ⟨rfl, hc⟩
  have Hc := hY hc
  clear hc
  go_wp2
  go_ret
  exact ⟨rfl, hcW.out.then Hc.out⟩
 | some k =>
  have hL : lowS ls = (ls.getD k .zero).addr := by simp [lowS, hi]
  have hk := idx_lt hi
  rw [hi] at HF
  rw [hL]
  clear hi hL
  unfold idxI at HF
  obtain ⟨A, hA⟩ : ∃ A, A = (ls.getD k .zero).addr := ⟨_, rfl⟩
  rw [← hA]
  go_enter Tryz.func70, Tryz.ntmps70
  go_wp2_with ((with_reducible refine Lay.bxQ (L := imgL) 32 m ?_ ?_); exact rfl)
  refine hY fun W bm hbm hcW hbox => ?_
  clear hbm
  go_wp2_with ((with_reducible refine Lay.ldQ Tryz.tImg m (hbox.out.in) ?_ ?_); exact rfl)
  refine hY ?_
  go_wp2_with fail
  refine (HF.out _ (Rd.out.frame hcW.out)).mono ?_
  rintro e w' ⟨rfl, hc⟩
  have Hc := hY hc
  clear hc
  have x4 := Img.c_segs (hbox.out.frame Hc.out)
  obtain ⟨a, cap, hv, hc1, hc2⟩ := Rd.out.shape
  have rd2 := (Rd.out.frame hcW.out).frame Hc.out
  rw [hv] at rd2
  unfold SlV.v at hv
  rw [hv] at x4
  obtain ⟨b, off, rfl, hb, hcell⟩ := rd2.at (by omega)
  have hI : segL.In w' b (off + k * 7) (ls.getD k .zero) := hcell k hk
  obtain ⟨_, x1, _⟩ := Seg.at hI
  rw [← hA] at x1
  clear hI hcell rd2 hb hv hA
  have hneg : ¬ (k : Int) < 0 := by omega
  go_wp2
  go_ret
  exact ⟨rfl, hcW.out.then Hc.out⟩
theorem refLow_any (m : Img) (ls : List Seg) (w : World) (rd : segL.Rd w m.segs.v ls) :
  Calls Tryz.prog 31 #[imgL.val m] w fun e w' => e = .returned (.int .u64 (lowS ls)) ∧ Chg [] w w' := by
 obtain ⟨a, cap, hv, hc1, hc2⟩ := rd.shape
 have Rd := hY rd
 clear rd
 go_enter Tryz.func31, Tryz.ntmps31
 go_wp2_with ((with_reducible refine Lay.bxQ (L := imgL) 32 m ?_ ?_); exact rfl)
 refine hY fun W bm hbm hcW hbox => ?_
 clear hbm
 go_wp2_with fail
 go_loopw [3] (fun s3 wr => ∃ k : Nat, k ≤ ls.length ∧ s3 = .int .i64 (k : Int) ∧ (∀ j, j < k → (!holeS (ls.getD j .zero)) = false) ∧ Chg [] W wr) (fun s3 _ => ls.length - (intOf s3).toNat)
 case atStart => exact ⟨0, Nat.zero_le _, rfl, fun _ h => absurd h (Nat.not_lt_zero _), Chg.refl _ _⟩
 case round =>
  obtain ⟨k, hk, rfl, hno, hch⟩ := hrel
  have Hno := hY hno
  have Hch := hY hch
  clear hno hch
  have x4 := Img.c_segs (hbox.out.frame Hch.out)
  have hv2 := hv
  unfold SlV.v at hv2
  rw [hv2] at x4
  by_cases hlt : k < ls.length
  ·have rd2 := (Rd.out.frame hcW.out).frame Hch.out
   rw [hv] at rd2
   obtain ⟨b, off, rfl, hb, hcell⟩ := rd2.at (by omega)
   have hI : segL.In wr b (off + k * 7) (ls.getD k .zero) := hcell k hlt
   obtain ⟨s, hs⟩ : ∃ s, s = ls.getD k .zero := ⟨_, rfl⟩
   rw [← hs] at hI
   obtain ⟨y0, y1, y2, y3, y4, y5, y6⟩ := Seg.at hI
   clear hcell hb rd2 hv hv2
   have Hs := hY hs
   have HI := hY hI
   clear hs hI
   have HF := hY (refHole_any s)
   obtain ⟨q, hq⟩ : ∃ q, q = holeS s := ⟨_, rfl⟩
   rw [← hq] at HF
   go_wp2_with fail
   refine (HF.out _).mono ?_
   rintro e w' ⟨rfl, hc⟩
   have HC := hY (Hch.out.then hc)
   replace x4 := hc.cell x4 (by simp)
   replace y1 := hc.cell y1 (by simp)
   clear hc y0 y2 y3 y4 y5 y6
   cases q with
   | false =>
    have HE : Hid (lowS ls = s.addr) := by
     refine hY ?_
     rw [Hs.out] at hq
     have := idx_some (p := fun s => !holeS s) (d := Seg.zero) (l := ls) (k := k) hlt (by rw [← hq]; rfl) (fun j hj => Hno.out j hj)
     unfold lowS
     rw [this, Hs.out]
    clear hq
    go_wp2
    go_ret
    exact ⟨by rw [HE.out]; rfl, hcW.out.then HC.out⟩
   | true =>
    have Hq := hY hq
    clear hq
    go_wp2
    go_roundw
    case rel =>
     refine ⟨k + 1, hlt, by go_num, fun j hj => ?_, HC.out⟩
     by_cases e : j = k
     ·subst e; rw [← Hs.out, ← Hq.out]; rfl
     ·exact Hno.out j (by omega)
    case measure => simp [intOf]; omega
  ·have HE : Hid (lowS ls = 0) := by
    refine hY ?_
    have := idx_none (p := fun s => !holeS s) (d := Seg.zero) (l := ls) (fun j hj => Hno.out j (by omega))
    unfold lowS
    rw [this]
   clear hv hv2
   go_wp2
   go_ret
   exact ⟨by rw [HE.out]; rfl, hcW.out.then Hch.out⟩
theorem numF {s : CS} (h : s.failed = true) (k : Int) : (numberS s k).failed = true := by
 unfold numberS takeS canTake
 rw [h]
 split <;> rfl
theorem numX {B : List UInt8} {p k : Nat} (h : B.length < p + k) : (numberS (cs B p) k).failed = true := by
 unfold numberS
 split
 ·unfold takeS
  have : canTake (cs B p) k = false := by
   unfold canTake cs
   simp
   omega
  rw [this]
  rfl
 ·rfl
theorem sekX {B : List UInt8} {p q : Nat} (h : B.length < q) : (seekC (cs B p) q).failed = true := by
 unfold seekC seekS failS cs
 split
 ·rw [if_neg (by dsimp only; omega)]
 ·split
  ·rfl
  ·rfl
structure StP where
 seg : Int
 page : Int
 fmt : Int
 begins : List Int
inductive ChR (α : Type) where
 | ok (a : α)
 | bad (e : Int)
def ChR.then {α β : Type} (r : ChR α) (k : α → ChR β) : ChR β := match r with | .ok a => k a | .bad e => .bad e
def begC (B : List UInt8) (page stride : Int) : Nat → Nat → List Int → ChR (List Int)
 | 0, _, acc => .ok acc
 | n + 1, p, acc => if p + 2 ≤ B.length then (if WN B p 2 = 65535 then begC B page stride n (p + 2) (acc ++ [-1]) else if (WN B p 2 : Int) < page ∧ (WN B p 2 : Int) % stride = 0 then begC B page stride n (p + 2) (acc ++ [(WN B p 2 : Int)]) else .bad 15) else .bad 3
def pagesC (size page : Int) : Int := (size + page - 1) / page
def startC (B : List UInt8) (ls : List Seg) (i at_ : Nat) : ChR StP :=
 if at_ + 22 ≤ B.length then
  (if holeS (ls.getD i .zero) = false ∧ (WN B (at_ + 8) 8 : Int) = IntKind.u64.wrap ((ls.getD i .zero).addr - lowS ls) then
   (if (WN B (at_ + 4) 2 = 4096 ∨ WN B (at_ + 4) 2 = 16384) ∧ 0 < strideF (WN B (at_ + 6) 2 : Nat) then
    (if 22 + 2 * WN B (at_ + 20) 2 ≤ WN B at_ 4 ∧ (WN B (at_ + 20) 2 : Int) ≤ pagesC (ls.getD i .zero).size (WN B (at_ + 4) 2 : Nat) then
     (begC B (WN B (at_ + 4) 2 : Nat) (strideF (WN B (at_ + 6) 2 : Nat)) (WN B (at_ + 20) 2) (at_ + 22) []).then fun l => .ok ⟨(i : Int), (WN B (at_ + 4) 2 : Nat), (WN B (at_ + 6) 2 : Nat), l⟩
    else .bad 15)
   else .bad 15)
  else .bad 8)
 else .bad 3
def stsC (B : List UInt8) (ls : List Seg) (at_ : Nat) : Nat → Nat → List StP → ChR (List StP)
 | 0, _, acc => .ok acc
 | n + 1, i, acc => if at_ + 4 + 4 * i + 4 ≤ B.length then (if WN B (at_ + 4 + 4 * i) 4 = 0 then stsC B ls at_ n (i + 1) acc else (startC B ls i (at_ + WN B (at_ + 4 + 4 * i) 4)).then fun s => stsC B ls at_ n (i + 1) (acc ++ [s])) else .bad 3
def startsC (B : List UInt8) (ls : List Seg) (at_ : Nat) : ChR (List StP) :=
 if at_ + 4 ≤ B.length then (if WN B at_ 4 ≤ ls.length then stsC B ls at_ (WN B at_ 4) 0 [] else .bad 8) else .bad 3
def nameC (B : List UInt8) (q : Nat) : Option (List UInt8) := if q ≤ B.length ∧ textOk (cs B q) 255 = true ∧ (textL (cs B q) 255).length ≠ 0 then some (textL (cs B q) 255) else none
def impC (B : List UInt8) (d : Nat) (fm : Int) (names : Nat) : Nat → Nat → List Imp → ChR (List Imp)
 | 0, _, acc => .ok acc
 | n + 1, p, acc => if p + isz fm ≤ B.length then
   (if ordB (rawS fm (cs B p)).ord d = true then
    (match nameC B (names + (rawS fm (cs B p)).name.toNat) with
     | none => .bad 10
     | some s => impC B d fm names n (p + isz fm) (acc ++ [⟨(rawS fm (cs B p)).ord, (rawS fm (cs B p)).weak, ⟨s.toArray⟩, (rawS fm (cs B p)).add⟩]))
   else .bad 22)
  else .bad 3
def readC (B : List UInt8) (ls : List Seg) (d : Nat) : ChR (List StP × List Imp) :=
 if 28 ≤ B.length then
  (if WN B 0 4 = 0 ∧ WN B 24 4 = 0 then
   (if WN B 20 4 = 1 ∨ WN B 20 4 = 2 ∨ WN B 20 4 = 3 then
    (if WN B 16 4 ≤ 4096 then
     (startsC B ls (WN B 4 4)).then fun s => (impC B d (WN B 20 4 : Nat) (WN B 12 4) (WN B 16 4) (WN B 8 4) []).then fun l => .ok (s, l)
    else .bad 11)
   else .bad 16)
  else .bad 15)
 else .bad 3
end Go.Proofs.YtiljokmkiolpgaaGreatDoor
