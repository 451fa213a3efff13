/- Lemmas, laid together: part 39 of 40. Conditions: none but each lemma's own. -/
import Derived.Test.YtkomocgodljecaaGreatDoorJ13
import Derived.Test.YtkomocgodljecaaGreatDoorJ38
import Derived.Test.YtkomocgodljecaaGreatDoorJ19
import Derived.Test.YtkomocgodljecaaGreatDoorJ20
import Derived.Test.YtkomocgodljecaaGreatDoorJ12
import Derived.Lib.Strings
import Derived.Deep.QuietTactic
import Derived.BigQuiet
import Derived.Maps.AppendAt
import Derived.StillTailTactics
import Derived.BigRegion
import Derived.Handy
import Derived.Deep.CutRange
import Derived.Lib.IfaceEq
import Derived.RangeFuncNested
import Derived.RangeFuncBound
import Derived.RangeFuncCalls
import Derived.RangeFuncLeaves
import Derived.Shelf.Abstract
import Derived.Shelf.RegionOpen
import Derived.OwnWalkIn
import Derived.TacticsInMore
import Derived.LoopNIn
import Derived.LoopIn
import Derived.WalkMore
import Derived.Deep.DeepCutAuto
import Derived.Test.YtkomocgodljecaaGreatDoorJ37
import Derived.Test.YtkomocgodljecaaGreatDoorJ2
import Derived.JoinedAt
import Derived.ChangeMaps5
import Derived.Deep.Slices
/- May an image be (of layer 6), the document's answer; what of it is needed here (cut out of other texts by shake.py). -/
namespace Go.Proofs.YtkomocgodljecaaGreatDoor
open Go.RowKit
set_option maxRecDepth 100000
open Go.RowKit
set_option maxRecDepth 100000
def withinI (off size all : Int) : Bool := decide (off ≤ all) && decide (size ≤ all - off)
/-- May a segment's numbers be, in a file of n bytes? -/
def placeB (n : Int) (s : Seg) : Bool :=
  decide (0 ≤ s.prot) && (decide (s.prot ≤ 7) && (!(decide (s.prot = 0) && decide (0 < s.fsize)) && (decide (s.addr % 4096 = 0) && (decide (s.size % 4096 = 0) && (decide (0 < s.size) && (decide (s.fsize ≤ s.size) && (withinI s.off s.fsize n && withinI s.addr s.size 140737488355328)))))))
/-- The document's: each against all ahead of it. -/
def eachB (n : Int) (prev : List Seg) : List Seg → Bool
  | [] => true
  | s :: r => placeB n s && (prev.all (fun o => !decide (o.name = s.name) && decide (o.addr + o.size ≤ s.addr)) && eachB n (prev ++ [s]) r)
/-- What is kept along both ways. -/
structure Along (at_ : Int) (names : ByteArray → Bool) (prev : List Seg) : Prop where
  ends : ∀ o ∈ prev, o.addr + o.size ≤ at_
  last : at_ = 0 ∨ ∃ o ∈ prev, o.addr + o.size = at_
  nm : ∀ x, names x = true ↔ ∃ o ∈ prev, o.name = x
/- image: within, mayPlace; the document's Within. -/
open Go.RowKit
set_option maxRecDepth 100000
open Go.RowKit
set_option maxRecDepth 100000
/-- A record Sec. -/
structure Sec where
  name : ByteArray
  seg : ByteArray
  addr : Int
  size : Int
  off : Int
  kind : Int
def Sec.cells (s : Sec) : List Value := [.string s.name, .string s.seg, .int .u64 s.addr, .int .u64 s.size, .int .u64 s.off, .int .i64 s.kind]
abbrev Sec.v (s : Sec) : Value := .agg #[.string s.name, .string s.seg, .int .u64 s.addr, .int .u64 s.size, .int .u64 s.off, .int .i64 s.kind]
def Sec.zero : Sec := ⟨⟨#[]⟩, ⟨#[]⟩, 0, 0, 0, 0⟩
def secL : Lay Sec := ⟨6, Sec.cells, Sec.zero, fun _ => rfl, by decide, fun x u hu => by
  simp only [Sec.cells, List.mem_cons, List.not_mem_nil, or_false] at hu
  rcases hu with rfl | rfl | rfl | rfl | rfl | rfl <;> rfl⟩
theorem Sec.at {w : World} {b o : Nat} {s : Sec} (h : secL.In w b o s) : w.cell? ⟨b, o, none⟩ = some (.string s.name) ∧ w.cell? ⟨b, o + 1, none⟩ = some (.string s.seg) ∧ w.cell? ⟨b, o + 2, none⟩ = some (.int .u64 s.addr) ∧ w.cell? ⟨b, o + 3, none⟩ = some (.int .u64 s.size) ∧ w.cell? ⟨b, o + 4, none⟩ = some (.int .u64 s.off) ∧ w.cell? ⟨b, o + 5, none⟩ = some (.int .i64 s.kind) :=
  ⟨h 0 (by decide), h 1 (by decide), h 2 (by decide), h 3 (by decide), h 4 (by decide), h 5 (by decide)⟩
theorem Sec.c_addr {w : World} {b : Nat} {s : Sec} (h : secL.Box w b s) : w.cell? ⟨b, 2, none⟩ = some (.int .u64 s.addr) := by have := h.in 2 (by decide); rw [Nat.zero_add] at this; exact this
theorem Sec.c_size {w : World} {b : Nat} {s : Sec} (h : secL.Box w b s) : w.cell? ⟨b, 3, none⟩ = some (.int .u64 s.size) := by have := h.in 3 (by decide); rw [Nat.zero_add] at this; exact this
theorem Sec.c_kind {w : World} {b : Nat} {s : Sec} (h : secL.Box w b s) : w.cell? ⟨b, 5, none⟩ = some (.int .i64 s.kind) := by have := h.in 5 (by decide); rw [Nat.zero_add] at this; exact this
/- load.section. -/
open Go.RowKit
set_option maxRecDepth 100000
open Go.RowKit
set_option maxRecDepth 100000
/-- A record Spn. -/
structure Spn where
  off : Int
  size : Int
def Spn.cells (s : Spn) : List Value := [.int .u64 s.off, .int .u64 s.size]
abbrev Spn.v (s : Spn) : Value := .agg #[.int .u64 s.off, .int .u64 s.size]
def Spn.zero : Spn := ⟨0, 0⟩
def spnL : Lay Spn := ⟨2, Spn.cells, Spn.zero, fun _ => rfl, by decide, fun x u hu => by
  simp only [Spn.cells, List.mem_cons, List.not_mem_nil, or_false] at hu
  rcases hu with rfl | rfl <;> rfl⟩
theorem Spn.at {w : World} {b o : Nat} {s : Spn} (h : spnL.In w b o s) : w.cell? ⟨b, o, none⟩ = some (.int .u64 s.off) ∧ w.cell? ⟨b, o + 1, none⟩ = some (.int .u64 s.size) :=
  ⟨h 0 (by decide), h 1 (by decide)⟩
theorem Spn.c_size {w : World} {b : Nat} {s : Spn} (h : spnL.Box w b s) : w.cell? ⟨b, 1, none⟩ = some (.int .u64 s.size) := by have := h.in 1 (by decide); rw [Nat.zero_add] at this; exact this
open Go.RowKit
set_option maxRecDepth 100000
/-- A record Dep. -/
structure Dep where
  name : ByteArray
  kind : Int
def Dep.cells (s : Dep) : List Value := [.string s.name, .int .i64 s.kind]
abbrev Dep.v (s : Dep) : Value := .agg #[.string s.name, .int .i64 s.kind]
def Dep.zero : Dep := ⟨⟨#[]⟩, 0⟩
def depL : Lay Dep := ⟨2, Dep.cells, Dep.zero, fun _ => rfl, by decide, fun x u hu => by
  simp only [Dep.cells, List.mem_cons, List.not_mem_nil, or_false] at hu
  rcases hu with rfl | rfl <;> rfl⟩
theorem Dep.at {w : World} {b o : Nat} {s : Dep} (h : depL.In w b o s) : w.cell? ⟨b, o, none⟩ = some (.string s.name) ∧ w.cell? ⟨b, o + 1, none⟩ = some (.int .i64 s.kind) :=
  ⟨h 0 (by decide), h 1 (by decide)⟩
theorem Dep.c_kind {w : World} {b : Nat} {s : Dep} (h : depL.Box w b s) : w.cell? ⟨b, 1, none⟩ = some (.int .i64 s.kind) := by have := h.in 1 (by decide); rw [Nat.zero_add] at this; exact this
open Go.RowKit
set_option maxRecDepth 100000
section
end
/-- A segment as plain data: its numbers (without its row), its sections. -/
structure SegP where
  s : Seg
  ks : List Sec
def SegP.zero : SegP := ⟨.zero, []⟩
def Seg.bare (s : Seg) : Seg := { s with secs := ⟨none, 0, 0⟩ }
def Img.bare (m : Img) : Img := { m with segs := ⟨none, 0, 0⟩, deps := ⟨none, 0, 0⟩ }
/-- What was told so far. -/
structure TP where
  m : Img
  segs : List SegP
  deps : List Dep
  seen : Int → Bool
  n : Nat
section
end
/- load: the teller's spans. -/
open Go.RowKit
set_option maxRecDepth 100000
/- load.Image, whatever the bytes. -/
open Go.RowKit
set_option maxRecDepth 100000
/- image.segments. -/
open Go.RowKit
set_option maxRecDepth 100000
/- The document's SameSegment (of layer 5): two segments with the same numbers and the same sections are the same. -/
open Go.RowKit
set_option maxRecDepth 100000
/-- A segment in memory, as plain data. -/
def SegRd (w : World) (s : Seg) (p : SegP) : Prop := s.bare = p.s ∧ secL.Rd w (.slice s.secs.a s.secs.n s.secs.cap) p.ks
theorem SegRd.frame {w w' : World} {s : Seg} {p : SegP} (h : SegRd w s p) (k : Chg [] w w') : SegRd w' s p := ⟨h.1, h.2.frame k⟩
/- The document's Same (of layer 5): two images of the same plain data are the same. -/
open Go.RowKit
set_option maxRecDepth 100000
/-- An image in memory reads as plain data. -/
def DRd (w : World) (m : Img) (p : TP) : Prop := ∃ xs, m.bare = p.m ∧ segL.Rd w (.slice m.segs.a m.segs.n m.segs.cap) xs ∧ xs.length = p.segs.length ∧ (∀ i, i < xs.length → SegRd w (xs.getD i .zero) (p.segs.getD i .zero)) ∧ depL.Rd w (.slice m.deps.a m.deps.n m.deps.cap) p.deps
theorem DRd.frame {w w' : World} {m : Img} {p : TP} (h : DRd w m p) (k : Chg [] w w') : DRd w' m p := by
  obtain ⟨xs, h1, h2, h3, h4, h5⟩ := h
  exact ⟨xs, h1, h2.frame k, h3, fun i hi => (h4 i hi).frame k, h5.frame k⟩
theorem DRd.zero (w : World) (s : Int → Bool) (n : Nat) : DRd w .zero ⟨Img.zero, [], [], s, n⟩ := ⟨[], rfl, Lay.Rd.nil _, rfl, fun i hi => absurd hi (by simp), Lay.Rd.nil _⟩
/- image.sections. -/
open Go.RowKit
set_option maxRecDepth 100000
def SecB (x : Sec) : Prop := (0 ≤ x.addr ∧ x.addr < 18446744073709551616) ∧ (0 ≤ x.size ∧ x.size < 18446744073709551616) ∧ (0 ≤ x.off ∧ x.off < 18446744073709551616)
/-- The numbers of an image's segments and sections are of their kinds. -/
structure ImB (ps : List SegP) : Prop where
  seg : ∀ k, k < ps.length → SegB (ps.getD k .zero).s
  sec : ∀ k, k < ps.length → ∀ j, j < (ps.getD k .zero).ks.length → SecB ((ps.getD k .zero).ks.getD j .zero)
/- image.High, image.spans, image.names. -/
open Go.RowKit
set_option maxRecDepth 100000
/-- An image's spans. -/
def spans8 (m : Img) : List Spn := [⟨m.rbO, m.rbS⟩, ⟨m.bdO, m.bdS⟩, ⟨m.wkO, m.wkS⟩, ⟨m.lzO, m.lzS⟩, ⟨m.trO, m.trS⟩, ⟨m.chO, m.chS⟩, ⟨m.syO, m.syS⟩, ⟨m.stO, m.stS⟩]
def SpnsB (m : Img) : Prop := ∀ j, j < (spans8 m).length → (0 ≤ ((spans8 m).getD j .zero).off ∧ ((spans8 m).getD j .zero).off < 18446744073709551616) ∧ 0 ≤ ((spans8 m).getD j .zero).size ∧ ((spans8 m).getD j .zero).size < 18446744073709551616
/- image.May. -/
open Go.RowKit
set_option maxRecDepth 100000
/- The document's segments (of layer 6). -/
open Go.RowKit
set_option maxRecDepth 100000
/-- The number of the first segment that is laid, of those that were gone over. -/
def FstIs (ls : List Seg) (i : Nat) (f : Int) : Prop := (f = -1 ∧ ∀ j, j < i → holeS (ls.getD j .zero) = true) ∨ ∃ k : Nat, k < i ∧ f = k ∧ holeS (ls.getD k .zero) = false ∧ ∀ j, j < k → holeS (ls.getD j .zero) = true
theorem FstIs.zero (ls : List Seg) : FstIs ls 0 (-1) := .inl ⟨rfl, fun _ h => absurd h (Nat.not_lt_zero _)⟩
theorem FstIs.idx {ls : List Seg} {f : Int} (h : FstIs ls ls.length f) : f = idxI (idx (fun s => !holeS s) ls) := by
  rcases h with ⟨h1, h2⟩ | ⟨k, h1, h2, h3, h4⟩
  · rw [idx_none (d := Seg.zero) (fun j hj => by rw [h2 j hj]; rfl)]
    exact h1
  · rw [idx_some (d := Seg.zero) h1 (by rw [h3]; rfl) (fun j hj => by rw [h4 j hj]; rfl)]
    exact h2
/-- The document's loop. -/
structure DsR (w : World) (n : Int) (ls : List Seg) (i : Nat) (f : Int) (wr : World) : Prop where
  chg : Chg [] w wr
  fst : FstIs ls i f
  go : eachB n (ls.take i) (ls.drop i) = eachB n [] ls
  pl : ∀ j, j < i → placeB n (ls.getD j .zero) = true
/- The document's sections (of layer 6). -/
open Go.RowKit
set_option maxRecDepth 100000
/- The document's High, and its May (of layer 6). -/
open Go.RowKit
set_option maxRecDepth 100000
/- The document's May (of layer 6). -/
open Go.RowKit
set_option maxRecDepth 100000
open Go.RowKit
set_option maxRecDepth 100000
/-- The numbers of an image (plain data) are of their kinds. -/
structure PB (p : TP) : Prop where
  im : ImB p.segs
  sp : SpnsB p.m
theorem segsB_of {w : World} {xs : List Seg} {ps : List SegP} (hb : ImB ps) (hl : xs.length = ps.length) (hk : ∀ i, i < xs.length → SegRd w (xs.getD i .zero) (ps.getD i .zero)) : SegsB xs := fun k h => by
  have h1 := hb.seg k (by omega)
  rw [← (hk k h).1] at h1
  exact h1
open Go.RowKit
set_option maxRecDepth 100000
end Go.Proofs.YtkomocgodljecaaGreatDoor
/- clevislaw14.BindMakes, of an image that came in. -/
namespace Go.Proofs.YtkomocgodljecaaGreatDoor
open Go.RowKit
theorem BindMakes_walk (W : World) (hg : Env W) (m : Img) (p : TP) (hd : DRd W m p) (hp : PB p) (K : Int) (_ : (Lit.int .i64 K).wf = true) (l : List Fx) (a : Option Addr) (cap : Nat) (rl : FxRd W (.slice a l.length cap) l) (hat : ∀ f ∈ l, (0 ≤ f.at_ ∧ f.at_ < 18446744073709551616) ∧ -9223372036854775808 ≤ f.add ∧ f.add < 9223372036854775808) :
    Calls Tryz.prog 3 #[imgL.val m, .int .i64 K, .slice a l.length cap] W fun e W' => e = .returned (.bool true) ∧ Chg [] W W' := by
  obtain ⟨ls, _, rd, hll, hlk, _⟩ := hd
  exact BindMakes_core W hg m ls rd (segsB_of hp.im hll hlk) K l a cap rl hat
end Go.Proofs.YtkomocgodljecaaGreatDoor
/- Records that came in, behind a door: the general part of XEndB. -/
namespace Go.Proofs.YtkomocgodljecaaGreatDoor
open Go.ChangeShapes Go.WideShapes Go.RowKit
def tyOf : TypeDesc → List (TypeId × Nat)
  | .struct fs => fs.toList.map fun f => (f.type, f.offset)
  | _ => []
section
variable {H : Type} {enc : TypeId × Value → H} {P : Program} {w : World} {base : Nat} {spare : Nat → Bool} {held : Bool}
theorem struct_at {t : TypeId} {l : List (TypeId × Nat)} (h : (P.underlying t).map tyOf = some l) (hne : l ≠ []) {fuel : Nat} {cs : List Value} {x : DataW H × List MemPlace}
    (ht : DataW.trod enc P w base spare held fuel t cs = some x) :
    cs.length = P.cellsOf t ∧ ∀ (j : Nat) (ty : TypeId) (o : Nat), l[j]? = some (ty, o) → ∃ n y, DataW.trod enc P w base spare held n ty ((cs.drop o).take (P.cellsOf ty)) = some y := by
  cases hu : P.underlying t with
  | none => rw [hu] at h; cases h
  | some d =>
    rw [hu] at h
    simp only [Option.map_some, Option.some.injEq] at h
    cases d with
    | struct fs =>
      obtain ⟨xs, n, _, rfl, hl, hlen, hf⟩ := DataW.trod_struct hu ht
      refine ⟨hl, fun j ty o hj => ?_⟩
      rw [← h] at hj
      simp only [tyOf, List.getElem?_map, Array.getElem?_toList] at hj
      cases hfj : fs[j]? with
      | none => rw [hfj] at hj; cases hj
      | some f =>
        rw [hfj] at hj
        simp only [Option.map_some, Option.some.injEq, Prod.mk.injEq] at hj
        obtain ⟨rfl, rfl⟩ := hj
        have hjl : j < fs.size := (Array.getElem?_eq_some_iff.1 hfj).1
        have hy : xs[j]? = some (xs[j]'(by omega)) := List.getElem?_eq_getElem (by omega)
        exact ⟨_, _, (hf j f hfj).trans hy⟩
    | _ => exact absurd h.symm hne
theorem int_at {t : TypeId} {K : IntKind} (hu : P.underlying t = some (.int K)) {n o k : Nat} {cs : List Value} {y : DataW H × List MemPlace} (h : DataW.trod enc P w base spare held n t ((cs.drop o).take k) = some y) :
    ∃ z : Int, cs[o]? = some (.int K z) ∧ (Lit.int K z).wf = true := by
  obtain ⟨z, hc, _, hw⟩ := DataW.trod_int hu h
  refine ⟨z, ?_, hw⟩
  have : ((cs.drop o).take k)[0]? = some (.int K z) := by rw [hc]; rfl
  rw [List.getElem?_take] at this
  split at this
  · simpa using this
  · cases this
end
section
variable {H : Type} {enc : TypeId × Value → H} {P : Program} {w : World} {base : Nat} {spare : Nat → Bool} {held : Bool}
theorem str_at {t : TypeId} (hu : P.underlying t = some .string) {n o k : Nat} {cs : List Value} {y : DataW H × List MemPlace} (h : DataW.trod enc P w base spare held n t ((cs.drop o).take k) = some y) :
    ∃ s : ByteArray, cs[o]? = some (.string s) := by
  obtain ⟨z, hc, _, _⟩ := DataW.trod_string hu h
  refine ⟨z, ?_⟩
  have : ((cs.drop o).take k)[0]? = some (.string z) := by rw [hc]; rfl
  rw [List.getElem?_take] at this
  split at this
  · simpa using this
  · cases this
theorem bool_at {t : TypeId} (hu : P.underlying t = some .bool) {n o k : Nat} {cs : List Value} {y : DataW H × List MemPlace} (h : DataW.trod enc P w base spare held n t ((cs.drop o).take k) = some y) :
    ∃ s : Bool, cs[o]? = some (.bool s) := by
  obtain ⟨z, hc, _⟩ := DataW.trod_bool hu h
  refine ⟨z, ?_⟩
  have : ((cs.drop o).take k)[0]? = some (.bool z) := by rw [hc]; rfl
  rw [List.getElem?_take] at this
  split at this
  · simpa using this
  · cases this
end
theorem list_of {α : Type} (d : α) (Q : Nat → α → Prop) : ∀ n, (∀ i, i < n → ∃ s, Q i s) → ∃ l : List α, l.length = n ∧ ∀ i, i < n → Q i (l.getD i d)
  | 0, _ => ⟨[], rfl, fun i hi => absurd hi (Nat.not_lt_zero i)⟩
  | n + 1, h => by
    obtain ⟨l, hl, hq⟩ := list_of d Q n (fun i hi => h i (by omega))
    obtain ⟨s, hs⟩ := h n (by omega)
    refine ⟨l ++ [s], by simp [hl], fun i hi => ?_⟩
    by_cases hin : i < n
    · have := hq i hin
      rw [List.getD_eq_getElem?_getD] at this ⊢
      rw [List.getElem?_append_left (by omega)]
      exact this
    · obtain rfl : i = n := by omega
      rw [List.getD_eq_getElem?_getD, List.getElem?_append_right (by omega), hl, Nat.sub_self]
      exact hs
/-- A slice of structs whose cells are C each: its elements' cells, and what is read of each. -/
theorem open_rows {H : Type} {enc : TypeId × Value → H} {T E : TypeId} {C : Nat} {W : World} {a : Option Addr} {len cap : Nat} {d : DataW H} {ps : List MemPlace} (hu : Tryz.prog.underlying T = some (.slice E)) (hC : Tryz.prog.cellsOf E = C) (hC0 : 0 < C)
    (h : DataW.Trod enc Tryz.prog W 0 (fun _ => true) true T (.slice a len cap) d ps) :
    len ≤ cap ∧ cap ≤ maxLen ∧ (0 < len → ∃ b off, a = some ⟨b, off, none⟩ ∧ b < W.heap.size ∧
      ∀ i, i < len → ∃ cs n x, DataW.trod enc Tryz.prog W 0 (fun _ => true) true n E cs = some x ∧ cs.length = C ∧ ∀ j, j < C → W.cell? ⟨b, off + i * C + j, none⟩ = cs[j]?) := by
  obtain ⟨fuel, hf⟩ := h
  rcases Go.Deep.open_slice hu hf with ⟨hcs, _⟩ | ⟨ad, l, c, m, n, D, Pl, hcs, _, hl, hm, hmm, _, hi⟩
  · simp [Value.cells] at hcs
    obtain ⟨rfl, rfl, rfl⟩ := hcs
    exact ⟨Nat.le_refl _, Nat.zero_le _, fun h => absurd h (by omega)⟩
  · simp [Value.cells] at hcs
    obtain ⟨rfl, rfl, rfl⟩ := hcs
    refine ⟨hl, hm, fun hp => ?_⟩
    have hm' : m = cap := by simpa using hmm
    rw [hC] at hi
    have key : ∀ i, i < len → ∃ cs n x, DataW.trod enc Tryz.prog W 0 (fun _ => true) true n E cs = some x ∧ cs.length = C ∧ ∀ j, j < C → W.cell? (ad.add (i * C + j)) = cs[j]? := fun i hil => by
      obtain ⟨cs, hc, ht⟩ := hi i (by omega)
      obtain ⟨_, hcl, hat⟩ := World.cells?_some hc
      exact ⟨cs, _, _, ht, hcl, fun j hj => by rw [← Go.Deep.add_add]; exact hat j hj⟩
    obtain ⟨b, off, spot⟩ := ad
    obtain ⟨cs, _, _, _, hcl, hc0⟩ := key 0 hp
    have h0 := hc0 0 hC0
    have hv : cs[0]? = some (cs[0]'(by omega)) := List.getElem?_eq_getElem (by omega)
    rw [hv] at h0
    have hspot : spot = none := by simpa [Addr.add] using World.cell?_spot h0
    subst hspot
    refine ⟨b, off, rfl, ?_, fun i hil => ?_⟩
    · rw [Go.WideShapes.add_plain] at h0
      exact World.block_lt_of_cell? _ _ h0
    · obtain ⟨cs, n, x, ht, hcl, hat⟩ := key i hil
      exact ⟨cs, n, x, ht, hcl, fun j hj => by rw [← hat j hj, Go.WideShapes.add_plain, Nat.add_assoc]⟩

end Go.Proofs.YtkomocgodljecaaGreatDoor
