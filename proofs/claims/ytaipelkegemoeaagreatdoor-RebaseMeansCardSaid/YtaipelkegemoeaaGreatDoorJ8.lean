/- Lemmas, laid together: part 8 of 46. Conditions: none but each lemma's own. -/
import Derived.Test.YtaipelkegemoeaaGreatDoorJ7
import Derived.Test.YtaipelkegemoeaaGreatDoorJ2
import Derived.Test.YtaipelkegemoeaaGreatDoorJ3
import Derived.StillTailTactics
import Derived.BigRegion
import Derived.Test.YtaipelkegemoeaaGreatDoorJ1
import Derived.Maps.AppendAt
/- load: the teller, a record; what it has told so far. -/
namespace Go.Proofs.YtaipelkegemoeaaGreatDoor
open Go.RowKit
set_option maxRecDepth 100000

structure Tel where
  m : Img
  seen : Option Nat
  secs : Int
def Tel.cells (t : Tel) : List Value := t.m.cells ++ [.map t.seen, .int .i64 t.secs]
def Tel.zero : Tel := ⟨Img.zero, none, 0⟩
def telL : Lay Tel := ⟨26, Tel.cells, Tel.zero, fun _ => rfl, by decide, fun x u hu => by
  simp only [Tel.cells, List.mem_cons, List.mem_append, List.not_mem_nil, or_false] at hu
  rcases hu with h | rfl | rfl
  · exact imgL.one x.m u h
  · rfl
  · rfl⟩
section
variable {w : World} {g : Nat} {t : Tel}
theorem Tel.cell (h : telL.Box w g t) (j : Nat) (u : Value) (hj : j < 26) (hu : t.cells[j]? = some u) : w.cell? ⟨g, j, none⟩ = some u := by
  have := h.in j hj
  rw [Nat.zero_add] at this
  rw [this]
  exact hu
theorem Tel.c_secs (h : telL.Box w g t) : w.cell? ⟨g, 25, none⟩ = some (.int .i64 t.secs) := Tel.cell h 25 _ (by decide) rfl
theorem Tel.c_name (h : telL.Box w g t) : w.cell? ⟨g, 3, none⟩ = some (.string t.m.name) := Tel.cell h 3 _ (by decide) rfl
theorem Tel.c_segs (h : telL.Box w g t) : w.cell? ⟨g, 4, none⟩ = some (.slice t.m.segs.a t.m.segs.n t.m.segs.cap) := Tel.cell h 4 _ (by decide) rfl
theorem Tel.c_deps (h : telL.Box w g t) : w.cell? ⟨g, 5, none⟩ = some (.slice t.m.deps.a t.m.deps.n t.m.deps.cap) := Tel.cell h 5 _ (by decide) rfl
theorem Tel.c_rb (h : telL.Box w g t) : w.cell? ⟨g, 6, none⟩ = some (.int .u64 t.m.rbO) ∧ w.cell? ⟨g, 7, none⟩ = some (.int .u64 t.m.rbS) := ⟨Tel.cell h 6 _ (by decide) rfl, Tel.cell h 7 _ (by decide) rfl⟩
theorem Tel.c_bd (h : telL.Box w g t) : w.cell? ⟨g, 8, none⟩ = some (.int .u64 t.m.bdO) ∧ w.cell? ⟨g, 9, none⟩ = some (.int .u64 t.m.bdS) := ⟨Tel.cell h 8 _ (by decide) rfl, Tel.cell h 9 _ (by decide) rfl⟩
theorem Tel.c_wk (h : telL.Box w g t) : w.cell? ⟨g, 10, none⟩ = some (.int .u64 t.m.wkO) ∧ w.cell? ⟨g, 11, none⟩ = some (.int .u64 t.m.wkS) := ⟨Tel.cell h 10 _ (by decide) rfl, Tel.cell h 11 _ (by decide) rfl⟩
theorem Tel.c_lz (h : telL.Box w g t) : w.cell? ⟨g, 12, none⟩ = some (.int .u64 t.m.lzO) ∧ w.cell? ⟨g, 13, none⟩ = some (.int .u64 t.m.lzS) := ⟨Tel.cell h 12 _ (by decide) rfl, Tel.cell h 13 _ (by decide) rfl⟩
theorem Tel.c_tr (h : telL.Box w g t) : w.cell? ⟨g, 14, none⟩ = some (.int .u64 t.m.trO) ∧ w.cell? ⟨g, 15, none⟩ = some (.int .u64 t.m.trS) := ⟨Tel.cell h 14 _ (by decide) rfl, Tel.cell h 15 _ (by decide) rfl⟩
theorem Tel.c_ch (h : telL.Box w g t) : w.cell? ⟨g, 16, none⟩ = some (.int .u64 t.m.chO) ∧ w.cell? ⟨g, 17, none⟩ = some (.int .u64 t.m.chS) := ⟨Tel.cell h 16 _ (by decide) rfl, Tel.cell h 17 _ (by decide) rfl⟩
theorem Tel.c_sy (h : telL.Box w g t) : w.cell? ⟨g, 18, none⟩ = some (.int .u64 t.m.syO) ∧ w.cell? ⟨g, 19, none⟩ = some (.int .u64 t.m.syS) := ⟨Tel.cell h 18 _ (by decide) rfl, Tel.cell h 19 _ (by decide) rfl⟩
theorem Tel.c_st (h : telL.Box w g t) : w.cell? ⟨g, 20, none⟩ = some (.int .u64 t.m.stO) ∧ w.cell? ⟨g, 21, none⟩ = some (.int .u64 t.m.stS) := ⟨Tel.cell h 20 _ (by decide) rfl, Tel.cell h 21 _ (by decide) rfl⟩
theorem Tel.c_entry (h : telL.Box w g t) : w.cell? ⟨g, 22, none⟩ = some (.int .u64 t.m.entry) := Tel.cell h 22 _ (by decide) rfl
theorem Tel.c_has (h : telL.Box w g t) : w.cell? ⟨g, 23, none⟩ = some (.bool t.m.has) := Tel.cell h 23 _ (by decide) rfl
theorem Tel.set_secs (h : telL.Box w g t) (x : Int) : telL.Box (w.setCell ⟨g, 25, none⟩ (.int .i64 x)) g { t with secs := x } := Lay.Box.set h 25 _ _ rfl
theorem Tel.set_name (h : telL.Box w g t) (x : ByteArray) : telL.Box (w.setCell ⟨g, 3, none⟩ (.string x)) g { t with m := { t.m with name := x } } := Lay.Box.set h 3 _ _ rfl
theorem Tel.set_segs (h : telL.Box w g t) (x : SlV) : telL.Box (w.setCell ⟨g, 4, none⟩ (.slice x.a x.n x.cap)) g { t with m := { t.m with segs := x } } := Lay.Box.set h 4 _ _ rfl
theorem Tel.set_deps (h : telL.Box w g t) (x : SlV) : telL.Box (w.setCell ⟨g, 5, none⟩ (.slice x.a x.n x.cap)) g { t with m := { t.m with deps := x } } := Lay.Box.set h 5 _ _ rfl
theorem Tel.set_rb (h : telL.Box w g t) (x : Spn) : telL.Box ((w.setCell ⟨g, 6, none⟩ (.int .u64 x.off)).setCell ⟨g, 7, none⟩ (.int .u64 x.size)) g { t with m := { t.m with rbO := x.off, rbS := x.size } } := Lay.Box.set (Lay.Box.set h 6 _ { t with m := { t.m with rbO := x.off } } rfl) 7 _ _ rfl
theorem Tel.set_bd (h : telL.Box w g t) (x : Spn) : telL.Box ((w.setCell ⟨g, 8, none⟩ (.int .u64 x.off)).setCell ⟨g, 9, none⟩ (.int .u64 x.size)) g { t with m := { t.m with bdO := x.off, bdS := x.size } } := Lay.Box.set (Lay.Box.set h 8 _ { t with m := { t.m with bdO := x.off } } rfl) 9 _ _ rfl
theorem Tel.set_wk (h : telL.Box w g t) (x : Spn) : telL.Box ((w.setCell ⟨g, 10, none⟩ (.int .u64 x.off)).setCell ⟨g, 11, none⟩ (.int .u64 x.size)) g { t with m := { t.m with wkO := x.off, wkS := x.size } } := Lay.Box.set (Lay.Box.set h 10 _ { t with m := { t.m with wkO := x.off } } rfl) 11 _ _ rfl
theorem Tel.set_lz (h : telL.Box w g t) (x : Spn) : telL.Box ((w.setCell ⟨g, 12, none⟩ (.int .u64 x.off)).setCell ⟨g, 13, none⟩ (.int .u64 x.size)) g { t with m := { t.m with lzO := x.off, lzS := x.size } } := Lay.Box.set (Lay.Box.set h 12 _ { t with m := { t.m with lzO := x.off } } rfl) 13 _ _ rfl
theorem Tel.set_tr (h : telL.Box w g t) (x : Spn) : telL.Box ((w.setCell ⟨g, 14, none⟩ (.int .u64 x.off)).setCell ⟨g, 15, none⟩ (.int .u64 x.size)) g { t with m := { t.m with trO := x.off, trS := x.size } } := Lay.Box.set (Lay.Box.set h 14 _ { t with m := { t.m with trO := x.off } } rfl) 15 _ _ rfl
theorem Tel.set_ch (h : telL.Box w g t) (x : Spn) : telL.Box ((w.setCell ⟨g, 16, none⟩ (.int .u64 x.off)).setCell ⟨g, 17, none⟩ (.int .u64 x.size)) g { t with m := { t.m with chO := x.off, chS := x.size } } := Lay.Box.set (Lay.Box.set h 16 _ { t with m := { t.m with chO := x.off } } rfl) 17 _ _ rfl
theorem Tel.set_sy (h : telL.Box w g t) (x : Spn) : telL.Box ((w.setCell ⟨g, 18, none⟩ (.int .u64 x.off)).setCell ⟨g, 19, none⟩ (.int .u64 x.size)) g { t with m := { t.m with syO := x.off, syS := x.size } } := Lay.Box.set (Lay.Box.set h 18 _ { t with m := { t.m with syO := x.off } } rfl) 19 _ _ rfl
theorem Tel.set_st (h : telL.Box w g t) (x : Spn) : telL.Box ((w.setCell ⟨g, 20, none⟩ (.int .u64 x.off)).setCell ⟨g, 21, none⟩ (.int .u64 x.size)) g { t with m := { t.m with stO := x.off, stS := x.size } } := Lay.Box.set (Lay.Box.set h 20 _ { t with m := { t.m with stO := x.off } } rfl) 21 _ _ rfl
theorem Tel.set_entry (h : telL.Box w g t) (x : Int) : telL.Box (w.setCell ⟨g, 22, none⟩ (.int .u64 x)) g { t with m := { t.m with entry := x } } := Lay.Box.set h 22 _ _ rfl
theorem Tel.set_has (h : telL.Box w g t) (x : Bool) : telL.Box (w.setCell ⟨g, 23, none⟩ (.bool x)) g { t with m := { t.m with has := x } } := Lay.Box.set h 23 _ _ rfl
end

/-- A segment as plain data: its numbers (without its row), its sections. -/
structure SegP where
  s : Seg
  ks : List Sec
def SegP.zero : SegP := ⟨.zero, []⟩
def Seg.bare (s : Seg) : Seg := { s with secs := ⟨none, 0, 0⟩ }
def Img.bare (m : Img) : Img := { m with segs := ⟨none, 0, 0⟩, deps := ⟨none, 0, 0⟩ }
/-- What was told so far. -/
structure TP where
  m : Img
  segs : List SegP
  deps : List Dep
  seen : Int → Bool
  n : Nat
/-- Segments in memory: their numbers, and rows of their sections. -/
def SecsIn (w : World) (base : Nat) (xs : List Seg) (ps : List SegP) : Prop :=
  xs.length = ps.length ∧ ∀ i, i < xs.length → (xs.getD i .zero).bare = (ps.getD i .zero).s ∧ secL.Buf 123 w base (.slice (xs.getD i .zero).secs.a (xs.getD i .zero).secs.n (xs.getD i .zero).secs.cap) (ps.getD i .zero).ks
theorem SecsIn.nil (w : World) (base : Nat) : SecsIn w base [] [] := ⟨rfl, fun i h => absurd h (by simp)⟩
/-- Rows of records of two types are apart. -/
theorem rows_ne {α β : Type} {L : Lay α} {M : Lay β} {E F : TypeId} {w : World} {b c : Nat} {u v : Value} {xs : List α} {ys : List β} (h : L.Buf E w b u xs) (k : M.Buf F w c v ys) (hEF : E ≠ F) : ∀ j, u.ownBlock = some j → j ∉ v.ownBlock.toList := by
  intro j hj hm
  rcases h.2 with ⟨rfl, _⟩ | ⟨g, cap, cur, rfl, _, hg, _⟩
  · cases hj
  · rcases k.2 with ⟨rfl, _⟩ | ⟨g', cap', cur', rfl, _, hg', _⟩
    · cases hm
    · simp only [Value.ownBlock, Option.some.injEq, Option.toList_some, List.mem_singleton] at hj hm
      subst hj
      subst hm
      rw [hg] at hg'
      cases hg'
      exact hEF rfl
theorem SecsIn.frame {w w' : World} {base : Nat} {xs : List Seg} {ps : List SegP} (h : SecsIn w base xs ps) {S : List Nat} (k : Chg S w w') (hn : ∀ i, i < xs.length → ∀ b, (Value.slice (xs.getD i .zero).secs.a (xs.getD i .zero).secs.n (xs.getD i .zero).secs.cap).ownBlock = some b → b ∉ S) : SecsIn w' base xs ps :=
  ⟨h.1, fun i hi => ⟨(h.2 i hi).1, (h.2 i hi).2.frame k (hn i hi)⟩⟩
theorem SecsIn.low {w w' : World} {base : Nat} {xs : List Seg} {ps : List SegP} (h : SecsIn w base xs ps) {S : List Nat} (k : Chg S w w') (hn : ∀ i ∈ S, i < base) : SecsIn w' base xs ps :=
  h.frame k (fun i hi b hb hm => by have h1 := ((h.2 i hi).2.lt b hb).1; have h2 := hn b hm; omega)
theorem SecsIn.pure {w w' : World} {base : Nat} {xs : List Seg} {ps : List SegP} (h : SecsIn w base xs ps) (k : Chg [] w w') : SecsIn w' base xs ps := h.low k (by simp)
theorem SecsIn.apart {α : Type} {L : Lay α} {E : TypeId} {w w' : World} {base c : Nat} {xs : List Seg} {ps : List SegP} {v : Value} {ys : List α} (h : SecsIn w base xs ps) (hv : L.Buf E w c v ys) (hE : 123 ≠ E) (k : Chg v.ownBlock.toList w w') : SecsIn w' base xs ps :=
  h.frame k (fun i hi b hb => rows_ne (h.2 i hi).2 hv hE b hb)
theorem getD_snoc {α : Type} (l : List α) (x d : α) (i : Nat) : (l ++ [x]).getD i d = if i < l.length then l.getD i d else if i = l.length then x else d := by
  simp only [List.getD_eq_getElem?_getD]
  by_cases h : i < l.length
  · rw [if_pos h, List.getElem?_append_left h]
  · rw [if_neg h, List.getElem?_append_right (by omega)]
    by_cases h2 : i = l.length
    · subst h2; simp
    · rw [if_neg h2]
      have : ¬ i - l.length < 1 := by omega
      rw [List.getElem?_eq_none (by simp; omega)]
      rfl
theorem SecsIn.snoc {w : World} {base : Nat} {xs : List Seg} {ps : List SegP} (h : SecsIn w base xs ps) (x : Seg) (p : SegP) (h1 : x.bare = p.s) (h2 : secL.Buf 123 w base (.slice x.secs.a x.secs.n x.secs.cap) p.ks) : SecsIn w base (xs ++ [x]) (ps ++ [p]) := by
  refine ⟨by simp [h.1], fun i hi => ?_⟩
  rw [getD_snoc, getD_snoc, ← h.1]
  by_cases hl : i < xs.length
  · rw [if_pos hl, if_pos hl]
    exact h.2 i hl
  · have : i = xs.length := by simp at hi; omega
    rw [if_neg hl, if_neg hl, if_pos this, if_pos this]
    exact ⟨h1, h2⟩
/-- What the map of what was there holds. -/
def seenF (s : Int → Bool) : Int → Option Value := fun c => if s c then some (.agg #[.bool true]) else none
/-- The teller in memory. -/
structure TInv (w1 : World) (base bt bs : Nat) (p : TP) (t : Tel) (xs : List Seg) (w : World) : Prop where
  box : telL.Box w bt t
  seen : t.seen = some bs
  secs : t.secs = p.n
  m : t.m.bare = p.m
  sg : segL.Buf 64 w base (.slice t.m.segs.a t.m.segs.n t.m.segs.cap) xs
  ks : SecsIn w base xs p.segs
  dp : depL.Buf 117 w base (.slice t.m.deps.a t.m.deps.n t.m.deps.cap) p.deps
  mp : Map.Is (Map.intK .u32) w bs (seenF p.seen)
  o1 : bs < base
  o2 : bt < base
  o3 : bs ≠ bt
  o4 : base ≤ w.heap.size
  o5 : w1.heap.size ≤ bs
  o6 : w1.heap.size ≤ bt
  l1 : p.segs.length ≤ 16
  l2 : p.deps.length ≤ 64
  l3 : p.n ≤ 64
  chg : Chg [] w1 w
section
variable {w1 w w' : World} {base bt bs : Nat} {p : TP} {t : Tel} {xs : List Seg}
theorem TInv.pure (h : TInv w1 base bt bs p t xs w) (k : Chg [] w w') : TInv w1 base bt bs p t xs w' :=
  ⟨h.box.frame k, h.seen, h.secs, h.m, h.sg.pure k, h.ks.pure k, h.dp.pure k, h.mp.frame k, h.o1, h.o2, h.o3, Nat.le_trans h.o4 k.size, h.o5, h.o6, h.l1, h.l2, h.l3, h.chg.then k⟩
/-- Some of its numbers are written. -/
theorem TInv.upd (h : TInv w1 base bt bs p t xs w) (k : Chg [bt] w w') {t' : Tel} (hb : telL.Box w' bt t') {q : TP} (h1 : t'.seen = t.seen) (h2 : t'.secs = q.n) (h3 : t'.m.bare = q.m) (h4 : t'.m.segs = t.m.segs) (h5 : t'.m.deps = t.m.deps) (h6 : q.segs = p.segs) (h7 : q.deps = p.deps) (h8 : q.seen = p.seen) (h9 : q.n ≤ 64) : TInv w1 base bt bs q t' xs w' := by
  have o2 := h.o2
  have o3 := h.o3
  refine ⟨hb, h1.trans h.seen, h2, h3, ?_, ?_, ?_, ?_, h.o1, o2, o3, Nat.le_trans h.o4 k.size, h.o5, h.o6, by rw [h6]; exact h.l1, by rw [h7]; exact h.l2, h9, h.chg.new k h.o6⟩
  · rw [h4]; exact h.sg.frame k (fun i hi hm => by have := (h.sg.lt i hi).1; simp at hm; omega)
  · rw [h6]; exact h.ks.low k (by simp; omega)
  · rw [h5, h7]; exact h.dp.frame k (fun i hi hm => by have := (h.dp.lt i hi).1; simp at hm; omega)
  · rw [h8]; exact h.mp.frameS k (by simpa using o3)
end
end Go.Proofs.YtaipelkegemoeaaGreatDoor
/- load: once, depend, segment. -/
namespace Go.Proofs.YtaipelkegemoeaaGreatDoor
open Go.RowKit
set_option maxRecDepth 100000

def seeN (p : TP) (c : Int) : TP := { p with seen := fun k => if k = c then true else p.seen k }
theorem Tryz.infoDep : Lay.Info Tryz.prog 27 117 depL.n 24 := Lay.Info.mk' (z := .agg (depL.f depL.d).toArray) (by kernel_rfl) (by kernel_rfl) rfl
theorem dep_built (x : Dep) (w : World) : (Instr.buildSlice 27 1 #[(0, depL.val x)]).run Tryz.prog w = .ok (.slice (some ⟨w.heap.size, 0, none⟩) 1 1) (w.alloc (.cells (depL.f x).toArray 117)) := by
  show (Instr.buildSlice 27 1 #[(0, .agg #[.string x.name, .int .i64 x.kind])]).run Tryz.prog w = .ok (.slice (some ⟨w.heap.size, 0, none⟩) 1 1) (w.alloc (.cells #[.string x.name, .int .i64 x.kind] 117))
  go_simp
theorem grown_ne {w : World} {base : Nat} {α : Type} {L : Lay α} {E : TypeId} {v : Value} {ls : List α} (h : L.Buf E w base v ls) : ∀ i ∈ v.ownBlock.toList, base ≤ i := fun i hi => (h.lt i (by simpa using hi)).1
structure TMid (w1 : World) (base bt bs : Nat) (p : TP) (t : Tel) (w : World) : Prop where
  box : telL.Box w bt t
  seen : t.seen = some bs
  secs : t.secs = p.n
  m : t.m.bare = p.m
  mp : Map.Is (Map.intK .u32) w bs (seenF p.seen)
  o1 : bs < base
  o2 : bt < base
  o3 : bs ≠ bt
  o4 : base ≤ w.heap.size
  o5 : w1.heap.size ≤ bs
  o6 : w1.heap.size ≤ bt
  l1 : p.segs.length ≤ 16
  l2 : p.deps.length ≤ 64
  l3 : p.n ≤ 64
  chg : Chg [] w1 w
theorem TInv.grew {w1 w w' : World} {base bt bs : Nat} {p : TP} {t : Tel} {xs : List Seg} {S : List Nat} (h : TInv w1 base bt bs p t xs w) (k : Chg S w w') (hS : ∀ i ∈ S, base ≤ i) : TMid w1 base bt bs p t w' :=
  have h1 := h.o1
  have h2 := h.o2
  have h5 := h.o5
  ⟨h.box.frameS k (fun hm => by have := hS _ hm; omega), h.seen, h.secs, h.m, h.mp.frameS k (fun hm => by have := hS _ hm; omega), h.o1, h.o2, h.o3, Nat.le_trans h.o4 k.size, h.o5, h.o6, h.l1, h.l2, h.l3, h.chg.trans k (fun i hi hw => by have := hS i hi; omega)⟩
/-- The new row of dependencies is laid. -/
theorem TMid.dep {w1 w0 w : World} {base bt bs : Nat} {p : TP} {t : Tel} {xs : List Seg} (h : TMid w1 base bt bs p t w) (h0 : TInv w1 base bt bs p t xs w0) (k : Chg (Value.slice t.m.deps.a t.m.deps.n t.m.deps.cap).ownBlock.toList w0 w) {a : Option Addr} {n cap : Nat} {ds : List Dep} (hv : depL.Buf 117 w base (.slice a n cap) ds) (hl : ds.length ≤ 64) :
    TInv w1 base bt bs { p with deps := ds } { t with m := { t.m with deps := ⟨a, n, cap⟩ } } xs (w.setCell ⟨bt, 5, none⟩ (.slice a n cap)) := by
  have c : Chg [bt] w (w.setCell ⟨bt, 5, none⟩ (.slice a n cap)) := (Chg.refl _ _).setCell _ _ (.inl (by simp))
  have o1 := h.o1
  have o2 := h.o2
  have o3 := h.o3
  exact ⟨Tel.set_deps h.box ⟨a, n, cap⟩, h.seen, h.secs, h.m, (h0.sg.frame k (rows_ne h0.sg h0.dp (by decide))).frame c (fun i hi hm => by have := (h0.sg.lt i hi).1; simp at hm; omega), (h0.ks.apart h0.dp (by decide) k).low c (by simp; omega), hv.frame c (fun i hi hm => by have := (hv.lt i hi).1; simp at hm; omega), h.mp.frameS c (by simpa using o3), h.o1, h.o2, h.o3, Nat.le_trans h.o4 c.size, h.o5, h.o6, h.l1, hl, h.l3, h.chg.new c h.o6⟩
theorem TMid.seg {w1 w0 w : World} {base bt bs : Nat} {p : TP} {t : Tel} {xs ys : List Seg} (h : TMid w1 base bt bs p t w) (h0 : TInv w1 base bt bs p t xs w0) (k : Chg (Value.slice t.m.segs.a t.m.segs.n t.m.segs.cap).ownBlock.toList w0 w) {a : Option Addr} {n cap : Nat} {q : List SegP} (hv : segL.Buf 64 w base (.slice a n cap) ys) (hq : SecsIn w base ys q) (hl : q.length ≤ 16) :
    TInv w1 base bt bs { p with segs := q } { t with m := { t.m with segs := ⟨a, n, cap⟩ } } ys (w.setCell ⟨bt, 4, none⟩ (.slice a n cap)) := by
  have c : Chg [bt] w (w.setCell ⟨bt, 4, none⟩ (.slice a n cap)) := (Chg.refl _ _).setCell _ _ (.inl (by simp))
  have o1 := h.o1
  have o2 := h.o2
  have o3 := h.o3
  exact ⟨Tel.set_segs h.box ⟨a, n, cap⟩, h.seen, h.secs, h.m, hv.frame c (fun i hi hm => by have := (hv.lt i hi).1; simp at hm; omega), hq.low c (by simp; omega), (h0.dp.frame k (rows_ne h0.dp h0.sg (by decide))).frame c (fun i hi hm => by have := (h0.dp.lt i hi).1; simp at hm; omega), h.mp.frameS c (by simpa using o3), h.o1, h.o2, h.o3, Nat.le_trans h.o4 c.size, h.o5, h.o6, hl, h.l2, h.l3, h.chg.new c h.o6⟩
def depE (p : TP) (l : List UInt8) : Int := if nameE l = 0 then (if p.deps.length = 64 then 11 else 0) else nameE l
end Go.Proofs.YtaipelkegemoeaaGreatDoor
/- append of records to a row of the call's own: the run, and the step of a drawn region. -/
namespace Go.Proofs.YtaipelkegemoeaaGreatDoor
open Go.RowKit
set_option maxRecDepth 100000

namespace Lay
variable {α : Type} {L : Lay α} {E : TypeId}
theorem run_app1 {P : Program} {T : TypeId} {bytes : Nat} (hI : Info P T E L.n bytes) (w : World) (ty : TypeId) (base : Nat) (v : Value) (ls : List α) (hown : L.Buf E w base v ls) (ad : Addr) (n c : Nat) (ms : List α) (hrd : L.Rd w (.slice (some ad) n c) ms)
    (hle : (ls.length + ms.length) * bytes ≤ 140737488355328) (hle2 : ls.length + ms.length ≤ 9223372036854775807) (hbase : base ≤ w.heap.size) :
    ∃ v' w', (Builtin.append_ #[T, T] ty #[v, .slice (some ad) n c]).run P w = .ok v' w' ∧ L.Buf E w' base v' (ls ++ ms) ∧ w.grownBy w' v.ownBlock ∧ (v'.ownBlock = v.ownBlock ∨ v'.ownBlock = some w.heap.size) := by
  obtain ⟨i0, z, hi, hz0, hz1, hz2, hz3⟩ := hI.i
  obtain ⟨hl, hc⟩ := Rd.cells hrd
  subst hl
  obtain ⟨v', w', hr, h2, h3, h4, h5⟩ := run_append_own_at (P := P) w base T ty E i0 z L.n bytes hI.u hi hz0 hz1 hz2 hz3 L.pos v ls.length (L.vals ls) hown ad ms.length c (L.vals ms) (vals_len ms) hc (vals_one _) (by unfold maxLen; exact hle2) hle hbase
  refine ⟨v', w', hr, ?_, h3, h5⟩
  unfold Buf
  rw [vals_append, List.length_append]
  exact h2
theorem armApp {P : Program} {T : TypeId} {bytes : Nat} (hI : Info P T E L.n bytes) {o : Oper} {a : Act} {w : World} {K : Act → World → Prop} {Q : Exit → Act → World → Prop} {tm : Nat → Option Bool} (hgd : o.guard = none) (s x : Operand) (ho : o.op = .call { callee := .builtin .append, args := #[s, x], argTypes := #[T, T] })
    (base : Nat) (v : Value) (ls : List α) (hs : a.eval s = v) (hown : L.Buf E w base v ls) (ad : Addr) (n c : Nat) (hx : a.eval x = .slice (some ad) n c) (ms : List α) (hrd : L.Rd w (.slice (some ad) n c) ms)
    (hle : (ls.length + ms.length) * bytes ≤ 140737488355328) (hle2 : ls.length + ms.length ≤ 9223372036854775807) (hbase : base ≤ w.heap.size)
    (h : ∀ v' w', L.Buf E w' base v' (ls ++ ms) → w.grownBy w' v.ownBlock → (v'.ownBlock = v.ownBlock ∨ v'.ownBlock = some w.heap.size) → K (a.put o.dst v') w') : if Region.wanted o tm = true then Oper.wp P o a w K Q else K (a.put o.dst undef) w := by
  rw [if_pos (by simp [Region.wanted, hgd])]
  obtain ⟨v', w', hr, h1, h2, h3⟩ := run_app1 hI w o.type base v ls hown ad n c ms hrd hle hle2 hbase
  unfold Oper.wp execOp
  simp only [ho, resolve, invoke, builtin, Sem.run_bind, Sem.run_pure, Result.andThen_ok, List.map_toArray, List.map_cons, List.map_nil, hs, hx, hr]
  exact h _ _ h1 h2 h3
theorem armBs1 {P : Program} {T : TypeId} {o : Oper} {a : Act} {w : World} {K : Act → World → Prop} {Q : Exit → Act → World → Prop} {tm : Nat → Option Bool} (hgd : o.guard = none) (s : Operand) (ho : o.op = .buildSlice T 1 #[(0, s)]) (x : α)
    (hr : ∀ w, (Instr.buildSlice T 1 #[(0, L.val x)]).run P w = .ok (.slice (some ⟨w.heap.size, 0, none⟩) 1 1) (w.alloc (.cells (L.f x).toArray E))) (hs : a.eval s = L.val x)
    (h : ∀ W g, Chg [] w W → L.Rd W (.slice (some ⟨g, 0, none⟩) 1 1) [x] → K (a.put o.dst (.slice (some ⟨g, 0, none⟩) 1 1)) W) : if Region.wanted o tm = true then Oper.wp P o a w K Q else K (a.put o.dst undef) w := by
  rw [if_pos (by simp [Region.wanted, hgd])]
  have hrw := hr w
  unfold Oper.wp execOp
  simp only [ho, List.map_toArray, List.map_cons, List.map_nil, hs, Sem.run_bind, hrw, Result.andThen_ok, Sem.run_pure]
  exact h _ _ ((Chg.refl _ _).alloc _) (Lay.Rd.of_heap (heap_alloc_eq _ _) (Lay.vals_single x).symm rfl (show 1 ≤ maxLen by decide))
end Lay
end Go.Proofs.YtaipelkegemoeaaGreatDoor
/- A record boxed, as a step of a drawn region. -/
namespace Go.Proofs.YtaipelkegemoeaaGreatDoor
open Go.RowKit
namespace Lay
variable {α : Type} {L : Lay α}
theorem armBx {P : Program} {T : TypeId} {o : Oper} {a : Act} {w : World} {K : Act → World → Prop} {Q : Exit → Act → World → Prop} {tm : Nat → Option Bool} (hgd : o.guard = none) (s : Operand) (ho : o.op = .box T s) (x : α) (hs : a.eval s = .agg (L.f x).toArray)
    (h : ∀ W b, b = w.heap.size → Chg [] w W → L.Box W b x → K (a.put o.dst (.pointer (some ⟨b, 0, none⟩))) W) : if Region.wanted o tm = true then Oper.wp P o a w K Q else K (a.put o.dst undef) w := by
  rw [if_pos (by simp [Region.wanted, hgd])]
  unfold Oper.wp execOp
  have := h _ _ rfl ((Chg.refl [] w).alloc _) (Box.of_alloc (L := L) w x T)
  simp [ho, Instr.box, hs, newVar, newRow, Value.cells]
  exact this
/-- A build, read in a region that draws. -/
theorem read_bd {P : Program} {T : TypeId} {d : Tmp} {xs : List (Nat × Operand)} {ty : TypeId} {pos : String} {after : Array Edge} {g : Option (Nat × Bool)} {ev : Operand → Value} {y : Nat → Option Bool} {w : World} {v : Value} (hw : Region.wanted ⟨some d, .build T xs.toArray, ty, pos, after, g⟩ y = true) (h : (Instr.build T (xs.map fun p => (p.1, ev p.2)).toArray).run P w = .ok v w) :
    if Region.wanted ⟨some d, .build T xs.toArray, ty, pos, after, g⟩ y = true then (execOp ev ⟨some d, .build T xs.toArray, ty, pos, after, g⟩).run P w = .ok (.value v) w else v = undef := by
  rw [if_pos hw]
  unfold execOp
  simp only [Sem.run_bind, List.map_toArray, h, Result.andThen_ok, Sem.run_pure]
end Lay
end Go.Proofs.YtaipelkegemoeaaGreatDoor
/- A whole record, read in a region that draws. No program in sight. -/
namespace Go.Proofs.YtaipelkegemoeaaGreatDoor
open Go.RowKit
namespace Lay
theorem read_ld {α : Type} {L : Lay α} {P : Program} {T : TypeId} (hT : Ty L P T) {d : Tmp} {s : Operand} {ty : TypeId} {pos : String} {after : Array Edge} {g : Option (Nat × Bool)} {ev : Operand → Value} {y : Nat → Option Bool} {w : World} {b off : Nat} {x : α} (hx : L.In w b off x) (hw : Region.wanted ⟨some d, .load T s, ty, pos, after, g⟩ y = true) (hs : ev s = .pointer (some ⟨b, off, none⟩)) :
    if Region.wanted ⟨some d, .load T s, ty, pos, after, g⟩ y = true then (execOp ev ⟨some d, .load T s, ty, pos, after, g⟩).run P w = .ok (.value (L.val x)) w else L.val x = undef := by
  rw [if_pos hw]
  unfold execOp
  simp only [Instr.loadAt, Instr.sureAddr, Sem.run_bind, Sem.run_pure, hs, Result.andThen_ok, run_load_rec hT hx]
/-- A whole record, loaded under a guard that is met. -/
theorem ldG2 {α : Type} {L : Lay α} {P : Program} {T : TypeId} {ops : Array Oper} {rest : List Oper} {a : Act} {Q : Exit → Act → World → Prop} {w : World} (hT : Ty L P T) {d : Tmp} {s : Operand} {ty : TypeId} {pos : String} {after : Array Edge} {g : Nat × Bool} {b off : Nat} (x : α) (hx : L.In w b off x) (hw : Region.wanted ⟨some d, .load T s, ty, pos, after, some g⟩ (yielded ops a.tmps) = true) (hs : a.eval s = .pointer (some ⟨b, off, none⟩))
    (h : wpList P ops Q rest (a.put (some d) (.agg (L.f x).toArray)) w) : wpList P ops Q (⟨some d, .load T s, ty, pos, after, some g⟩ :: rest) a w := by
  refine wpList_step fun K hK => ?_
  rw [if_pos hw]
  unfold Oper.wp execOp
  simp only [Instr.loadAt, Instr.sureAddr, Sem.run_bind, Sem.run_pure, hs, Result.andThen_ok, run_load_rec hT hx]
  exact hK _ _ h
end Lay
end Go.Proofs.YtaipelkegemoeaaGreatDoor
/- load: the teller's segment. -/
namespace Go.Proofs.YtaipelkegemoeaaGreatDoor
open Go.RowKit
set_option maxRecDepth 100000

theorem with_exitT {Q : World → Prop} {W : World} (R : World → Prop) (hR : R W) (k : ∀ W', R W' → Q W') : Q W := k W hR
theorem segE_ok {l : List UInt8} (h : segE l = 0) : n4 l 64 ≤ 64 := by
  unfold segE at h
  by_cases h0 : opE l = 0
  · rw [if_neg (by simp [h0])] at h
    split at h
    · exact absurd h (by decide)
    · split at h
      · exact absurd h (by decide)
      · split at h
        · exact absurd h (by decide)
        · split at h
          · exact absurd h (by decide)
          · omega
  · rw [if_pos h0] at h
    exact absurd h (by decide)
def segP (l : List UInt8) : SegP := ⟨segX l ⟨none, 0, 0⟩, secsN l (n4 l 64)⟩
def sgtE (p : TP) (l : List UInt8) : Int := if segE l = 0 then (if p.segs.length = 16 ∨ 64 < p.n + n4 l 64 then 11 else 0) else segE l
theorem Tryz.infoSeg : Lay.Info Tryz.prog 26 64 segL.n 80 := Lay.Info.mk' (z := .agg (segL.f segL.d).toArray) (by kernel_rfl) (by kernel_rfl) rfl
theorem seg_built (x : Seg) (w : World) : (Instr.buildSlice 26 1 #[(0, segL.val x)]).run Tryz.prog w = .ok (.slice (some ⟨w.heap.size, 0, none⟩) 1 1) (w.alloc (.cells (segL.f x).toArray 64)) := by
  show (Instr.buildSlice 26 1 #[(0, .agg #[.string x.name, .int .u64 x.addr, .int .u64 x.size, .int .u64 x.off, .int .u64 x.fsize, .int .i64 x.prot, .slice x.secs.a x.secs.n x.secs.cap])]).run Tryz.prog w = .ok (.slice (some ⟨w.heap.size, 0, none⟩) 1 1) (w.alloc (.cells #[.string x.name, .int .u64 x.addr, .int .u64 x.size, .int .u64 x.off, .int .u64 x.fsize, .int .i64 x.prot, .slice x.secs.a x.secs.n x.secs.cap] 64))
  go_simp
/-- A segment that is one. -/
def SegOk (l : List UInt8) (w : World) (e : Ending) (w' : World) : Prop := ∃ s : Seg, e = .returned (.tuple #[segL.val s, .int .i64 0]) ∧ Chg [] w w' ∧ s = segX l s.secs ∧ secL.Buf 123 w' w.heap.size (.slice s.secs.a s.secs.n s.secs.cap) (secsN l (n4 l 64))
end Go.Proofs.YtaipelkegemoeaaGreatDoor
/- A record is stored where one stands: a law for the walk. No program in sight. -/
namespace Go.Proofs.YtaipelkegemoeaaGreatDoor
open Go.RowKit
set_option maxRecDepth 100000
section
variable {α : Type} {L : Lay α} {P : Program} {T : TypeId} {ops : Array Oper} {rest : List Oper} {a : Act} {Q : Exit → Act → World → Prop} {w : World}
theorem stAt (hT : Lay.Ty L P T) {p s : Operand} {ty : TypeId} {pos : String} {after : Array Edge} {b off : Nat} {y : α} (x : α) (hb : L.In w b off y) (hf : ∀ j, w.frozen? ⟨b, j, none⟩ = false) (hp : a.eval p = .pointer (some ⟨b, off, none⟩)) (hs : a.eval s = .agg (L.f x).toArray)
    (h : ∀ W, W = Lay.setW w b off (L.f x) → wpList P ops Q rest a W) : wpList P ops Q (⟨none, .store T p s, ty, pos, after, none⟩ :: rest) a w := by
  refine wpList_plain rfl fun K hK => ?_
  unfold Oper.wp execOp
  have := h _ rfl
  have hr := Lay.run_storeCells (P := P) (g := b) (L.f x) w off 0 (L.one x) (fun c hc => by
    rw [Nat.add_zero]
    have := hb c (by rw [← L.len x]; exact hc)
    rw [this]
    exact ⟨_, List.getElem?_eq_getElem (by rw [L.len]; rw [L.len] at hc; exact hc)⟩) hf
  simp [Instr.storeAt, Instr.sureAddr, hp, hs, storeVar, Lay.run_size hT, Value.cells, L.len, hr]
  exact hK _ _ this
end
end Go.Proofs.YtaipelkegemoeaaGreatDoor
/- load: the teller's trie. -/
namespace Go.Proofs.YtaipelkegemoeaaGreatDoor
open Go.RowKit
set_option maxRecDepth 100000

def trE (p : TP) (x : Spn) : Int := if x.size = 0 then 0 else if 0 < p.m.trS then 21 else 0
def trQ (p : TP) (x : Spn) : TP := if x.size = 0 then p else { p with m := { p.m with trO := x.off, trS := x.size } }
theorem Tel.in_tr {w : World} {g : Nat} {t : Tel} (h : telL.Box w g t) : spnL.In w g 14 ⟨t.m.trO, t.m.trS⟩ := fun c hc => by
  have h1 := Tel.c_tr h
  have : c = 0 ∨ c = 1 := by have : spnL.n = 2 := rfl; omega
  rcases this with rfl | rfl
  · exact h1.1
  · exact h1.2
end Go.Proofs.YtaipelkegemoeaaGreatDoor
/- load: the teller's spans. -/
namespace Go.Proofs.YtaipelkegemoeaaGreatDoor
open Go.RowKit
set_option maxRecDepth 100000

/-- What a call of Spans hands back, its row taken apart. -/
def SpQ (w : World) (ls : List Spn) (e : Ending) (w' : World) : Prop := ∃ g cap, e = .returned (.tuple #[.slice (some ⟨g, 0, none⟩) ls.length cap, .int .i64 0]) ∧ Chg [] w w' ∧ w.heap.size ≤ g ∧ ∀ j, j < ls.length → spnL.In w' g (j * 2) (ls.getD j .zero)
theorem sp_q {w w' : World} {ls : List Spn} {e : Ending} (hne : ls.length ≠ 0) (h : SpP w ls e w') : SpQ w ls e w' := by
  obtain ⟨⟨a, n, cap⟩, rfl, hb, hc⟩ := h
  obtain ⟨g, cap', hsl, hge, _, _, _, _, _, hIn⟩ := hb.at hne
  have hsl' : Value.slice a n cap = .slice (some ⟨g, 0, none⟩) ls.length cap' := hsl
  exact ⟨g, cap', by rw [← hsl'], hc, hge, hIn⟩
theorem Spn.both {w : World} {g o : Nat} {x : Spn} (h : spnL.In w g o x) : w.cell? ⟨g, o, none⟩ = some (.int .u64 x.off) ∧ w.cell? ⟨g, o + 1, none⟩ = some (.int .u64 x.size) := Spn.at h
end Go.Proofs.YtaipelkegemoeaaGreatDoor
/- load: the teller's spans of symbols, and of a dyld's information. -/
namespace Go.Proofs.YtaipelkegemoeaaGreatDoor
open Go.RowKit
set_option maxRecDepth 100000

def fourQ (p : TP) (a b c d : Spn) : TP := { p with m := { p.m with rbO := a.off, rbS := a.size, bdO := b.off, bdS := b.size, wkO := c.off, wkS := c.size, lzO := d.off, lzS := d.size } }
end Go.Proofs.YtaipelkegemoeaaGreatDoor
/- Records: commands (printed by mkrecs4.sh). -/
namespace Go.Proofs.YtaipelkegemoeaaGreatDoor
open Go.RowKit
set_option maxRecDepth 100000

/-- A record Cmr. -/
structure Cmr where
  cmd : Int
  bytes : SlV
def Cmr.cells (s : Cmr) : List Value := [.int .u32 s.cmd, .slice s.bytes.a s.bytes.n s.bytes.cap]
abbrev Cmr.v (s : Cmr) : Value := .agg #[.int .u32 s.cmd, .slice s.bytes.a s.bytes.n s.bytes.cap]
/-- Its numbers are of their kinds. -/
def Cmr.wf (s : Cmr) : Prop := (Lit.int .u32 s.cmd).wf = true
def Cmr.zero : Cmr := ⟨0, ⟨none, 0, 0⟩⟩
def cmrL : Lay Cmr := ⟨2, Cmr.cells, Cmr.zero, fun _ => rfl, by decide, fun x u hu => by
  simp only [Cmr.cells, List.mem_cons, List.not_mem_nil, or_false] at hu
  rcases hu with rfl | rfl <;> rfl⟩
theorem Cmr.at {w : World} {b o : Nat} {s : Cmr} (h : cmrL.In w b o s) : w.cell? ⟨b, o, none⟩ = some (.int .u32 s.cmd) ∧ w.cell? ⟨b, o + 1, none⟩ = some (.slice s.bytes.a s.bytes.n s.bytes.cap) :=
  ⟨h 0 (by decide), h 1 (by decide)⟩
/-- A record in a block of its own: made, written, a field written. -/
theorem Cmr.box (w : World) (s : Cmr) (T : TypeId) : cmrL.Box (w.alloc (.cells #[.int .u32 s.cmd, .slice s.bytes.a s.bytes.n s.bytes.cap] T)) w.heap.size s := Lay.Box.of_alloc (L := cmrL) w s T
end Go.Proofs.YtaipelkegemoeaaGreatDoor
/- load: kinds, Known; the teller's answer to a command, as plain data. -/
namespace Go.Proofs.YtaipelkegemoeaaGreatDoor
open Go.RowKit
set_option maxRecDepth 100000

/-- How a command says that an image depends (0: it does not). -/
def depK (c : Int) : Int := if c = 12 then 1 else if c = 2147483672 then 2 else if c = 2147483679 then 3 else if c = 2147483683 then 4 else 0
def keyC (c : Int) : Int := if c = 2147483682 then 34 else c
/-- Why a command is not taken in (0: it is). -/
def tE (p : TP) (l : List UInt8) : Int :=
  if ¬ opE l = 0 then 3
  else if leastF (n4 l 0) = 0 then (if 2147483648 ≤ n4 l 0 then 7 else 0)
  else if n4 l 0 = 25 then sgtE p l
  else if ¬ depK (n4 l 0) = 0 then depE p l
  else if n4 l 0 = 13 then (if nameE l = 0 then (if p.seen 13 = true then 21 else 0) else nameE l)
  else if n4 l 0 = 2147483699 then trE p (spAt l 0)
  else if p.seen (keyC (n4 l 0)) = true then 21
  else if n4 l 0 = 34 ∨ n4 l 0 = 2147483682 then trE p (spAt l 4)
  else 0
/-- What was told, behind a command that is taken in. -/
def tS (p : TP) (l : List UInt8) : TP :=
  if leastF (n4 l 0) = 0 then p
  else if n4 l 0 = 25 then { p with segs := p.segs ++ [segP l], n := p.n + n4 l 64 }
  else if ¬ depK (n4 l 0) = 0 then { p with deps := p.deps ++ [⟨nameV l, depK (n4 l 0)⟩] }
  else if n4 l 0 = 13 then { seeN p 13 with m := { p.m with name := nameV l } }
  else if n4 l 0 = 2147483699 then trQ p (spAt l 0)
  else if n4 l 0 = 2147483688 then { seeN p 2147483688 with m := { p.m with entry := n8 l 8, has := true } }
  else if n4 l 0 = 2 then { seeN p 2 with m := { p.m with syO := n4 l 8, syS := (n4 l 12 : Int) * 16, stO := n4 l 16, stS := n4 l 20 } }
  else if n4 l 0 = 2147483700 then { seeN p 2147483700 with m := { p.m with chO := n4 l 8, chS := n4 l 12 } }
  else trQ (fourQ (seeN p 34) (spAt l 0) (spAt l 1) (spAt l 2) (spAt l 3)) (spAt l 4)
/-- The known commands. -/
theorem known_cases {c : Int} (h : ¬ leastF c = 0) : c = 25 ∨ c = 12 ∨ c = 2147483672 ∨ c = 2147483679 ∨ c = 2147483683 ∨ c = 13 ∨ c = 2147483699 ∨ c = 2147483688 ∨ c = 2 ∨ c = 2147483700 ∨ c = 34 ∨ c = 2147483682 := by
  unfold leastF at h
  by_cases h1 : c = 25
  · exact .inl h1
  rw [if_neg h1] at h
  by_cases h2 : c = 34 ∨ c = 2147483682
  · omega
  rw [if_neg h2] at h
  by_cases h3 : c = 2 ∨ c = 12 ∨ c = 13 ∨ c = 2147483672 ∨ c = 2147483679 ∨ c = 2147483683 ∨ c = 2147483688
  · omega
  rw [if_neg h3] at h
  by_cases h4 : c = 2147483699 ∨ c = 2147483700
  · omega
  rw [if_neg h4] at h
  exact absurd rfl h
end Go.Proofs.YtaipelkegemoeaaGreatDoor
/- load: tell, the commands that are not known; segments and dependencies. -/
namespace Go.Proofs.YtaipelkegemoeaaGreatDoor
open Go.RowKit
set_option maxRecDepth 100000

end Go.Proofs.YtaipelkegemoeaaGreatDoor
/- load: tell, a name, an entry, spans. -/
namespace Go.Proofs.YtaipelkegemoeaaGreatDoor
open Go.RowKit
set_option maxRecDepth 100000

end Go.Proofs.YtaipelkegemoeaaGreatDoor
/- load: tell, spans; whatever the command. -/
namespace Go.Proofs.YtaipelkegemoeaaGreatDoor
open Go.RowKit
set_option maxRecDepth 100000

end Go.Proofs.YtaipelkegemoeaaGreatDoor
/- append(b, make([]byte, m)...), as the program has it: so many noughts behind a row of bytes of the call's own. No program in sight. -/
namespace Go.Proofs.YtaipelkegemoeaaGreatDoor
open Go.RowKit

section
variable {P : Program}
end
end Go.Proofs.YtaipelkegemoeaaGreatDoor
