/- Lemmas, laid together: part 18 of 38. Conditions: none but each lemma's own. -/
import Derived.Test.YtgjlgamlmmjdpaaDoorJ3
import Derived.Test.YtgjlgamlmmjdpaaDoorProg
import Derived.Lib.Strings
import Derived.Test.YtgjlgamlmmjdpaaDoorJ14
import Derived.Test.YtgjlgamlmmjdpaaDoorJ15
import Derived.Test.YtgjlgamlmmjdpaaDoorJ17
/- Records: dependencies (printed by mkrecs.sh). -/
namespace Go.Proofs.YtgjlgamlmmjdpaaDoor
open Go.RowKit
set_option maxRecDepth 100000

/-- A record Dep. -/
structure Dep where
  name : ByteArray
  kind : Int
def Dep.cells (s : Dep) : List Value := [.string s.name, .int .i64 s.kind]
abbrev Dep.v (s : Dep) : Value := .agg #[.string s.name, .int .i64 s.kind]
/-- Its numbers are of their kinds. -/
def Dep.wf (s : Dep) : Prop := (Lit.int .i64 s.kind).wf = true
def Dep.zero : Dep := ⟨⟨#[]⟩, 0⟩
def depL : Lay Dep := ⟨2, Dep.cells, Dep.zero, fun _ => rfl, by decide, fun x u hu => by
  simp only [Dep.cells, List.mem_cons, List.not_mem_nil, or_false] at hu
  rcases hu with rfl | rfl <;> rfl⟩
theorem Dep.at {w : World} {b o : Nat} {s : Dep} (h : depL.In w b o s) : w.cell? ⟨b, o, none⟩ = some (.string s.name) ∧ w.cell? ⟨b, o + 1, none⟩ = some (.int .i64 s.kind) :=
  ⟨h 0 (by decide), h 1 (by decide)⟩
theorem Dep.at0 {w : World} {b : Nat} {s : Dep} (h : depL.In w b 0 s) : w.cell? ⟨b, 0, none⟩ = some (.string s.name) ∧ w.cell? ⟨b, 1, none⟩ = some (.int .i64 s.kind) := by
  obtain ⟨h0, h1⟩ := Dep.at h
  simp only [Nat.zero_add] at h1
  exact ⟨h0, h1⟩
theorem Dep.boxed (w : World) (s : Dep) (T : TypeId) : depL.In (w.alloc (.cells #[.string s.name, .int .i64 s.kind] T)) w.heap.size 0 s := fun c _ => by
  rw [cell_of_heap (heap_alloc_eq w _), Nat.zero_add]
  exact List.getElem?_toArray ..
/-- A record in a block of its own: made, written, a field written. -/
theorem Dep.box (w : World) (s : Dep) (T : TypeId) : depL.Box (w.alloc (.cells #[.string s.name, .int .i64 s.kind] T)) w.heap.size s := Lay.Box.of_alloc (L := depL) w s T
theorem Dep.boxAt (w : World) (s : Dep) (T : TypeId) {b : Nat} (hb : b = w.heap.size) : depL.Box (w.alloc (.cells #[.string s.name, .int .i64 s.kind] T)) b s := by rw [hb]; exact Dep.box w s T
theorem Dep.put0 {w : World} {g : Nat} {y : Dep} (h : depL.Box w g y) (s : Dep) : depL.Box ((w.setCell ⟨g, 0, none⟩ (.string s.name)).setCell ⟨g, 1, none⟩ (.int .i64 s.kind)) g s := Lay.Box.put h s
theorem Dep.chg0 (w : World) (g : Nat) (s : Dep) : Chg [g] w ((w.setCell ⟨g, 0, none⟩ (.string s.name)).setCell ⟨g, 1, none⟩ (.int .i64 s.kind)) := Lay.setW_chg g s.cells w 0
theorem Dep.set_name {w : World} {g : Nat} {s : Dep} (h : depL.Box w g s) (x : ByteArray) : depL.Box (w.setCell ⟨g, 0, none⟩ (.string x)) g { s with name := x } := Lay.Box.set h 0 _ _ rfl
theorem Dep.set_kind {w : World} {g : Nat} {s : Dep} (h : depL.Box w g s) (x : Int) : depL.Box (w.setCell ⟨g, 1, none⟩ (.int .i64 x)) g { s with kind := x } := Lay.Box.set h 1 _ _ rfl
theorem Dep.c_name {w : World} {b : Nat} {s : Dep} (h : depL.Box w b s) : w.cell? ⟨b, 0, none⟩ = some (.string s.name) := by have := h.in 0 (by decide); rw [Nat.zero_add] at this; exact this
theorem Dep.c_kind {w : World} {b : Nat} {s : Dep} (h : depL.Box w b s) : w.cell? ⟨b, 1, none⟩ = some (.int .i64 s.kind) := by have := h.in 1 (by decide); rw [Nat.zero_add] at this; exact this
theorem Dep.at0B {w : World} {b : Nat} {s : Dep} (h : depL.Box w b s) : w.cell? ⟨b, 0, none⟩ = some (.string s.name) ∧ w.cell? ⟨b, 1, none⟩ = some (.int .i64 s.kind) := Dep.at0 h.in
theorem Dep.ext' {s r : Dep} (h0 : s.name = r.name) (h1 : s.kind = r.kind) : s = r := by
  cases s; cases r; simp only at h0 h1; subst h0 h1; rfl
instance : DecidableEq Dep := fun s r => decidable_of_iff (s.name = r.name ∧ s.kind = r.kind) ⟨fun h => Dep.ext' h.1 h.2, fun h => by rw [h]; exact ⟨rfl, rfl⟩⟩
theorem Dep.eqv (s r : Dep) : decide (s = r) = (decide (s.name.toList = r.name.toList) && (decide (s.kind = r.kind))) := by
  have e : s = r ↔ (s.name = r.name ∧ s.kind = r.kind) := ⟨fun h => by rw [h]; exact ⟨rfl, rfl⟩, fun h => Dep.ext' h.1 h.2⟩
  have hname : (s.name.toList = r.name.toList) = (s.name = r.name) := by rw [Lib.toList_data, Lib.toList_data]; exact propext ⟨fun e => ByteArray.ext (Array.toList_inj.1 e), fun e => by rw [e]⟩
  simp only [hname, ← Bool.decide_and]
  exact decide_eq_decide.2 e
set_option maxHeartbeats 2000000 in
theorem Dep.eql (s r : Dep) (W : World) : (binOp .eql 66 (.agg #[.string s.name, .int .i64 s.kind]) (.agg #[.string r.name, .int .i64 r.kind])).run Tryd.prog W = .ok (.bool (decide (s = r))) W := by
  rw [Dep.eqv]
  go_simp
  (repeat' split) <;> simp [*]
set_option maxHeartbeats 2000000 in
theorem Dep.neq (s r : Dep) (W : World) : (binOp .neq 66 (.agg #[.string s.name, .int .i64 s.kind]) (.agg #[.string r.name, .int .i64 r.kind])).run Tryd.prog W = .ok (.bool (!decide (s = r))) W := by
  rw [Dep.eqv]
  go_simp
  (repeat' split) <;> simp [*]
end Go.Proofs.YtgjlgamlmmjdpaaDoor
/- load: the teller, a record; what it has told so far. -/
namespace Go.Proofs.YtgjlgamlmmjdpaaDoor
open Go.RowKit
set_option maxRecDepth 100000

structure Tel where
  m : Img
  seen : Option Nat
  secs : Int
def Tel.cells (t : Tel) : List Value := t.m.cells ++ [.map t.seen, .int .i64 t.secs]
def Tel.zero : Tel := ⟨Img.zero, none, 0⟩
def telL : Lay Tel := ⟨26, Tel.cells, Tel.zero, fun _ => rfl, by decide, fun x u hu => by
  simp only [Tel.cells, List.mem_cons, List.mem_append, List.not_mem_nil, or_false] at hu
  rcases hu with h | rfl | rfl
  · exact imgL.one x.m u h
  · rfl
  · rfl⟩
section
variable {w : World} {g : Nat} {t : Tel}
theorem Tel.cell (h : telL.Box w g t) (j : Nat) (u : Value) (hj : j < 26) (hu : t.cells[j]? = some u) : w.cell? ⟨g, j, none⟩ = some u := by
  have := h.in j hj
  rw [Nat.zero_add] at this
  rw [this]
  exact hu
theorem Tel.c_seen (h : telL.Box w g t) : w.cell? ⟨g, 24, none⟩ = some (.map t.seen) := Tel.cell h 24 _ (by decide) rfl
theorem Tel.c_secs (h : telL.Box w g t) : w.cell? ⟨g, 25, none⟩ = some (.int .i64 t.secs) := Tel.cell h 25 _ (by decide) rfl
theorem Tel.c_name (h : telL.Box w g t) : w.cell? ⟨g, 3, none⟩ = some (.string t.m.name) := Tel.cell h 3 _ (by decide) rfl
theorem Tel.c_segs (h : telL.Box w g t) : w.cell? ⟨g, 4, none⟩ = some (.slice t.m.segs.a t.m.segs.n t.m.segs.cap) := Tel.cell h 4 _ (by decide) rfl
theorem Tel.c_deps (h : telL.Box w g t) : w.cell? ⟨g, 5, none⟩ = some (.slice t.m.deps.a t.m.deps.n t.m.deps.cap) := Tel.cell h 5 _ (by decide) rfl
theorem Tel.c_rb (h : telL.Box w g t) : w.cell? ⟨g, 6, none⟩ = some (.int .u64 t.m.rbO) ∧ w.cell? ⟨g, 7, none⟩ = some (.int .u64 t.m.rbS) := ⟨Tel.cell h 6 _ (by decide) rfl, Tel.cell h 7 _ (by decide) rfl⟩
theorem Tel.c_bd (h : telL.Box w g t) : w.cell? ⟨g, 8, none⟩ = some (.int .u64 t.m.bdO) ∧ w.cell? ⟨g, 9, none⟩ = some (.int .u64 t.m.bdS) := ⟨Tel.cell h 8 _ (by decide) rfl, Tel.cell h 9 _ (by decide) rfl⟩
theorem Tel.c_wk (h : telL.Box w g t) : w.cell? ⟨g, 10, none⟩ = some (.int .u64 t.m.wkO) ∧ w.cell? ⟨g, 11, none⟩ = some (.int .u64 t.m.wkS) := ⟨Tel.cell h 10 _ (by decide) rfl, Tel.cell h 11 _ (by decide) rfl⟩
theorem Tel.c_lz (h : telL.Box w g t) : w.cell? ⟨g, 12, none⟩ = some (.int .u64 t.m.lzO) ∧ w.cell? ⟨g, 13, none⟩ = some (.int .u64 t.m.lzS) := ⟨Tel.cell h 12 _ (by decide) rfl, Tel.cell h 13 _ (by decide) rfl⟩
theorem Tel.c_tr (h : telL.Box w g t) : w.cell? ⟨g, 14, none⟩ = some (.int .u64 t.m.trO) ∧ w.cell? ⟨g, 15, none⟩ = some (.int .u64 t.m.trS) := ⟨Tel.cell h 14 _ (by decide) rfl, Tel.cell h 15 _ (by decide) rfl⟩
theorem Tel.c_ch (h : telL.Box w g t) : w.cell? ⟨g, 16, none⟩ = some (.int .u64 t.m.chO) ∧ w.cell? ⟨g, 17, none⟩ = some (.int .u64 t.m.chS) := ⟨Tel.cell h 16 _ (by decide) rfl, Tel.cell h 17 _ (by decide) rfl⟩
theorem Tel.c_sy (h : telL.Box w g t) : w.cell? ⟨g, 18, none⟩ = some (.int .u64 t.m.syO) ∧ w.cell? ⟨g, 19, none⟩ = some (.int .u64 t.m.syS) := ⟨Tel.cell h 18 _ (by decide) rfl, Tel.cell h 19 _ (by decide) rfl⟩
theorem Tel.c_st (h : telL.Box w g t) : w.cell? ⟨g, 20, none⟩ = some (.int .u64 t.m.stO) ∧ w.cell? ⟨g, 21, none⟩ = some (.int .u64 t.m.stS) := ⟨Tel.cell h 20 _ (by decide) rfl, Tel.cell h 21 _ (by decide) rfl⟩
theorem Tel.c_entry (h : telL.Box w g t) : w.cell? ⟨g, 22, none⟩ = some (.int .u64 t.m.entry) := Tel.cell h 22 _ (by decide) rfl
theorem Tel.c_has (h : telL.Box w g t) : w.cell? ⟨g, 23, none⟩ = some (.bool t.m.has) := Tel.cell h 23 _ (by decide) rfl
theorem Tel.set_secs (h : telL.Box w g t) (x : Int) : telL.Box (w.setCell ⟨g, 25, none⟩ (.int .i64 x)) g { t with secs := x } := Lay.Box.set h 25 _ _ rfl
theorem Tel.set_name (h : telL.Box w g t) (x : ByteArray) : telL.Box (w.setCell ⟨g, 3, none⟩ (.string x)) g { t with m := { t.m with name := x } } := Lay.Box.set h 3 _ _ rfl
theorem Tel.set_segs (h : telL.Box w g t) (x : SlV) : telL.Box (w.setCell ⟨g, 4, none⟩ (.slice x.a x.n x.cap)) g { t with m := { t.m with segs := x } } := Lay.Box.set h 4 _ _ rfl
theorem Tel.set_deps (h : telL.Box w g t) (x : SlV) : telL.Box (w.setCell ⟨g, 5, none⟩ (.slice x.a x.n x.cap)) g { t with m := { t.m with deps := x } } := Lay.Box.set h 5 _ _ rfl
theorem Tel.set_rb (h : telL.Box w g t) (x : Spn) : telL.Box ((w.setCell ⟨g, 6, none⟩ (.int .u64 x.off)).setCell ⟨g, 7, none⟩ (.int .u64 x.size)) g { t with m := { t.m with rbO := x.off, rbS := x.size } } := Lay.Box.set (Lay.Box.set h 6 _ { t with m := { t.m with rbO := x.off } } rfl) 7 _ _ rfl
theorem Tel.set_bd (h : telL.Box w g t) (x : Spn) : telL.Box ((w.setCell ⟨g, 8, none⟩ (.int .u64 x.off)).setCell ⟨g, 9, none⟩ (.int .u64 x.size)) g { t with m := { t.m with bdO := x.off, bdS := x.size } } := Lay.Box.set (Lay.Box.set h 8 _ { t with m := { t.m with bdO := x.off } } rfl) 9 _ _ rfl
theorem Tel.set_wk (h : telL.Box w g t) (x : Spn) : telL.Box ((w.setCell ⟨g, 10, none⟩ (.int .u64 x.off)).setCell ⟨g, 11, none⟩ (.int .u64 x.size)) g { t with m := { t.m with wkO := x.off, wkS := x.size } } := Lay.Box.set (Lay.Box.set h 10 _ { t with m := { t.m with wkO := x.off } } rfl) 11 _ _ rfl
theorem Tel.set_lz (h : telL.Box w g t) (x : Spn) : telL.Box ((w.setCell ⟨g, 12, none⟩ (.int .u64 x.off)).setCell ⟨g, 13, none⟩ (.int .u64 x.size)) g { t with m := { t.m with lzO := x.off, lzS := x.size } } := Lay.Box.set (Lay.Box.set h 12 _ { t with m := { t.m with lzO := x.off } } rfl) 13 _ _ rfl
theorem Tel.set_tr (h : telL.Box w g t) (x : Spn) : telL.Box ((w.setCell ⟨g, 14, none⟩ (.int .u64 x.off)).setCell ⟨g, 15, none⟩ (.int .u64 x.size)) g { t with m := { t.m with trO := x.off, trS := x.size } } := Lay.Box.set (Lay.Box.set h 14 _ { t with m := { t.m with trO := x.off } } rfl) 15 _ _ rfl
theorem Tel.set_ch (h : telL.Box w g t) (x : Spn) : telL.Box ((w.setCell ⟨g, 16, none⟩ (.int .u64 x.off)).setCell ⟨g, 17, none⟩ (.int .u64 x.size)) g { t with m := { t.m with chO := x.off, chS := x.size } } := Lay.Box.set (Lay.Box.set h 16 _ { t with m := { t.m with chO := x.off } } rfl) 17 _ _ rfl
theorem Tel.set_sy (h : telL.Box w g t) (x : Spn) : telL.Box ((w.setCell ⟨g, 18, none⟩ (.int .u64 x.off)).setCell ⟨g, 19, none⟩ (.int .u64 x.size)) g { t with m := { t.m with syO := x.off, syS := x.size } } := Lay.Box.set (Lay.Box.set h 18 _ { t with m := { t.m with syO := x.off } } rfl) 19 _ _ rfl
theorem Tel.set_st (h : telL.Box w g t) (x : Spn) : telL.Box ((w.setCell ⟨g, 20, none⟩ (.int .u64 x.off)).setCell ⟨g, 21, none⟩ (.int .u64 x.size)) g { t with m := { t.m with stO := x.off, stS := x.size } } := Lay.Box.set (Lay.Box.set h 20 _ { t with m := { t.m with stO := x.off } } rfl) 21 _ _ rfl
theorem Tel.set_entry (h : telL.Box w g t) (x : Int) : telL.Box (w.setCell ⟨g, 22, none⟩ (.int .u64 x)) g { t with m := { t.m with entry := x } } := Lay.Box.set h 22 _ _ rfl
theorem Tel.set_has (h : telL.Box w g t) (x : Bool) : telL.Box (w.setCell ⟨g, 23, none⟩ (.bool x)) g { t with m := { t.m with has := x } } := Lay.Box.set h 23 _ _ rfl
end

/-- A segment as plain data: its numbers (without its row), its sections. -/
structure SegP where
  s : Seg
  ks : List Sec
def SegP.zero : SegP := ⟨.zero, []⟩
def Seg.bare (s : Seg) : Seg := { s with secs := ⟨none, 0, 0⟩ }
def Img.bare (m : Img) : Img := { m with segs := ⟨none, 0, 0⟩, deps := ⟨none, 0, 0⟩ }
/-- What was told so far. -/
structure TP where
  m : Img
  segs : List SegP
  deps : List Dep
  seen : Int → Bool
  n : Nat
/-- Segments in memory: their numbers, and rows of their sections. -/
def SecsIn (w : World) (base : Nat) (xs : List Seg) (ps : List SegP) : Prop :=
  xs.length = ps.length ∧ ∀ i, i < xs.length → (xs.getD i .zero).bare = (ps.getD i .zero).s ∧ secL.Buf 96 w base (.slice (xs.getD i .zero).secs.a (xs.getD i .zero).secs.n (xs.getD i .zero).secs.cap) (ps.getD i .zero).ks
theorem SecsIn.nil (w : World) (base : Nat) : SecsIn w base [] [] := ⟨rfl, fun i h => absurd h (by simp)⟩
/-- Rows of records of two types are apart. -/
theorem rows_ne {α β : Type} {L : Lay α} {M : Lay β} {E F : TypeId} {w : World} {b c : Nat} {u v : Value} {xs : List α} {ys : List β} (h : L.Buf E w b u xs) (k : M.Buf F w c v ys) (hEF : E ≠ F) : ∀ j, u.ownBlock = some j → j ∉ v.ownBlock.toList := by
  intro j hj hm
  rcases h.2 with ⟨rfl, _⟩ | ⟨g, cap, cur, rfl, _, hg, _⟩
  · cases hj
  · rcases k.2 with ⟨rfl, _⟩ | ⟨g', cap', cur', rfl, _, hg', _⟩
    · cases hm
    · simp only [Value.ownBlock, Option.some.injEq, Option.toList_some, List.mem_singleton] at hj hm
      subst hj
      subst hm
      rw [hg] at hg'
      cases hg'
      exact hEF rfl
theorem SecsIn.frame {w w' : World} {base : Nat} {xs : List Seg} {ps : List SegP} (h : SecsIn w base xs ps) {S : List Nat} (k : Chg S w w') (hn : ∀ i, i < xs.length → ∀ b, (Value.slice (xs.getD i .zero).secs.a (xs.getD i .zero).secs.n (xs.getD i .zero).secs.cap).ownBlock = some b → b ∉ S) : SecsIn w' base xs ps :=
  ⟨h.1, fun i hi => ⟨(h.2 i hi).1, (h.2 i hi).2.frame k (hn i hi)⟩⟩
theorem SecsIn.low {w w' : World} {base : Nat} {xs : List Seg} {ps : List SegP} (h : SecsIn w base xs ps) {S : List Nat} (k : Chg S w w') (hn : ∀ i ∈ S, i < base) : SecsIn w' base xs ps :=
  h.frame k (fun i hi b hb hm => by have h1 := ((h.2 i hi).2.lt b hb).1; have h2 := hn b hm; omega)
theorem SecsIn.pure {w w' : World} {base : Nat} {xs : List Seg} {ps : List SegP} (h : SecsIn w base xs ps) (k : Chg [] w w') : SecsIn w' base xs ps := h.low k (by simp)
theorem SecsIn.apart {α : Type} {L : Lay α} {E : TypeId} {w w' : World} {base c : Nat} {xs : List Seg} {ps : List SegP} {v : Value} {ys : List α} (h : SecsIn w base xs ps) (hv : L.Buf E w c v ys) (hE : 96 ≠ E) (k : Chg v.ownBlock.toList w w') : SecsIn w' base xs ps :=
  h.frame k (fun i hi b hb => rows_ne (h.2 i hi).2 hv hE b hb)
theorem getD_snoc {α : Type} (l : List α) (x d : α) (i : Nat) : (l ++ [x]).getD i d = if i < l.length then l.getD i d else if i = l.length then x else d := by
  simp only [List.getD_eq_getElem?_getD]
  by_cases h : i < l.length
  · rw [if_pos h, List.getElem?_append_left h]
  · rw [if_neg h, List.getElem?_append_right (by omega)]
    by_cases h2 : i = l.length
    · subst h2; simp
    · rw [if_neg h2]
      have : ¬ i - l.length < 1 := by omega
      rw [List.getElem?_eq_none (by simp; omega)]
      rfl
theorem SecsIn.snoc {w : World} {base : Nat} {xs : List Seg} {ps : List SegP} (h : SecsIn w base xs ps) (x : Seg) (p : SegP) (h1 : x.bare = p.s) (h2 : secL.Buf 96 w base (.slice x.secs.a x.secs.n x.secs.cap) p.ks) : SecsIn w base (xs ++ [x]) (ps ++ [p]) := by
  refine ⟨by simp [h.1], fun i hi => ?_⟩
  rw [getD_snoc, getD_snoc, ← h.1]
  by_cases hl : i < xs.length
  · rw [if_pos hl, if_pos hl]
    exact h.2 i hl
  · have : i = xs.length := by simp at hi; omega
    rw [if_neg hl, if_neg hl, if_pos this, if_pos this]
    exact ⟨h1, h2⟩
/-- What the map of what was there holds. -/
def seenF (s : Int → Bool) : Int → Option Value := fun c => if s c then some (.agg #[.bool true]) else none
theorem Tryd.tSeen : Map.Ty (Map.intK .u32) Tryd.prog 56 (.agg #[.bool false]) := ⟨25, 114, by kernel_rfl, by kernel_rfl, fun w => by kernel_rfl⟩
/-- The teller in memory. -/
structure TInv (w1 : World) (base bt bs : Nat) (p : TP) (t : Tel) (xs : List Seg) (w : World) : Prop where
  box : telL.Box w bt t
  seen : t.seen = some bs
  secs : t.secs = p.n
  m : t.m.bare = p.m
  sg : segL.Buf 63 w base (.slice t.m.segs.a t.m.segs.n t.m.segs.cap) xs
  ks : SecsIn w base xs p.segs
  dp : depL.Buf 66 w base (.slice t.m.deps.a t.m.deps.n t.m.deps.cap) p.deps
  mp : Map.Is (Map.intK .u32) w bs (seenF p.seen)
  o1 : bs < base
  o2 : bt < base
  o3 : bs ≠ bt
  o4 : base ≤ w.heap.size
  o5 : w1.heap.size ≤ bs
  o6 : w1.heap.size ≤ bt
  l1 : p.segs.length ≤ 16
  l2 : p.deps.length ≤ 64
  l3 : p.n ≤ 64
  chg : Chg [] w1 w
section
variable {w1 w w' : World} {base bt bs : Nat} {p : TP} {t : Tel} {xs : List Seg}
theorem TInv.pure (h : TInv w1 base bt bs p t xs w) (k : Chg [] w w') : TInv w1 base bt bs p t xs w' :=
  ⟨h.box.frame k, h.seen, h.secs, h.m, h.sg.pure k, h.ks.pure k, h.dp.pure k, h.mp.frame k, h.o1, h.o2, h.o3, Nat.le_trans h.o4 k.size, h.o5, h.o6, h.l1, h.l2, h.l3, h.chg.then k⟩
/-- Some of its numbers are written. -/
theorem TInv.upd (h : TInv w1 base bt bs p t xs w) (k : Chg [bt] w w') {t' : Tel} (hb : telL.Box w' bt t') {q : TP} (h1 : t'.seen = t.seen) (h2 : t'.secs = q.n) (h3 : t'.m.bare = q.m) (h4 : t'.m.segs = t.m.segs) (h5 : t'.m.deps = t.m.deps) (h6 : q.segs = p.segs) (h7 : q.deps = p.deps) (h8 : q.seen = p.seen) (h9 : q.n ≤ 64) : TInv w1 base bt bs q t' xs w' := by
  have o2 := h.o2
  have o3 := h.o3
  refine ⟨hb, h1.trans h.seen, h2, h3, ?_, ?_, ?_, ?_, h.o1, o2, o3, Nat.le_trans h.o4 k.size, h.o5, h.o6, by rw [h6]; exact h.l1, by rw [h7]; exact h.l2, h9, h.chg.new k h.o6⟩
  · rw [h4]; exact h.sg.frame k (fun i hi hm => by have := (h.sg.lt i hi).1; simp at hm; omega)
  · rw [h6]; exact h.ks.low k (by simp; omega)
  · rw [h5, h7]; exact h.dp.frame k (fun i hi hm => by have := (h.dp.lt i hi).1; simp at hm; omega)
  · rw [h8]; exact h.mp.frameS k (by simpa using o3)
/-- An entry of the map is laid. -/
theorem TInv.see (h : TInv w1 base bt bs p t xs w) (k : Chg [bs] w w') {q : Int → Bool} (hm : Map.Is (Map.intK .u32) w' bs (seenF q)) : TInv w1 base bt bs { p with seen := q } t xs w' := by
  have o1 := h.o1
  exact ⟨h.box.frameS k (by simp; exact fun e => h.o3 e.symm), h.seen, h.secs, h.m, h.sg.frame k (fun i hi hm => by have := (h.sg.lt i hi).1; simp at hm; omega), h.ks.low k (by simp; omega), h.dp.frame k (fun i hi hm => by have := (h.dp.lt i hi).1; simp at hm; omega), hm, h.o1, h.o2, h.o3, Nat.le_trans h.o4 k.size, h.o5, h.o6, h.l1, h.l2, h.l3, h.chg.new k h.o5⟩
end
theorem seenF_put (s : Int → Bool) (c : Int) : Map.put (seenF s) c (.agg #[.bool true]) = seenF (fun k => if k = c then true else s k) := by
  funext k
  unfold Map.put seenF
  by_cases h : k = c
  · simp [h]
  · simp [h]
theorem seenF_getD (s : Int → Bool) (c : Int) : (seenF s c).getD (.agg #[.bool false]) = .agg #[.bool (s c)] := by
  unfold seenF
  cases h : s c
  · rw [if_neg (by decide)]; rfl
  · rw [if_pos rfl]; rfl
end Go.Proofs.YtgjlgamlmmjdpaaDoor
