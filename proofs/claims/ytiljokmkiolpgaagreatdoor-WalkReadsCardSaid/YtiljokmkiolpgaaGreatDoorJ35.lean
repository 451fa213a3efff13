/- Lemmas, laid together: part 35 of 42. Conditions: none but each lemma's own. -/
import Derived.Test.YtiljokmkiolpgaaGreatDoorJ23
import Derived.Test.YtiljokmkiolpgaaGreatDoorJ19
import Derived.Test.YtiljokmkiolpgaaGreatDoorJ26
import Derived.Test.YtiljokmkiolpgaaGreatDoorJ24
import Derived.Test.YtiljokmkiolpgaaGreatDoorJ1
namespace Go.Proofs.YtiljokmkiolpgaaGreatDoor
open Go.RowKit
set_option maxRecDepth 100000
def SpnOk (x : Spn) : Prop := (0 ≤ x.off ∧ x.off < 18446744073709551616) ∧ 0 ≤ x.size ∧ x.size < 18446744073709551616
theorem spnsB_iff (m : Img) : SpnsB m ↔ (SpnOk ⟨m.rbO, m.rbS⟩ ∧ SpnOk ⟨m.bdO, m.bdS⟩ ∧ SpnOk ⟨m.wkO, m.wkS⟩ ∧ SpnOk ⟨m.lzO, m.lzS⟩) ∧ SpnOk ⟨m.trO, m.trS⟩ ∧ SpnOk ⟨m.chO, m.chS⟩ ∧ SpnOk ⟨m.syO, m.syS⟩ ∧ SpnOk ⟨m.stO, m.stS⟩ := by
 constructor
 ·intro h
  exact ⟨⟨h 0 (show 0 < 8 by decide), h 1 (show 1 < 8 by decide), h 2 (show 2 < 8 by decide), h 3 (show 3 < 8 by decide)⟩, h 4 (show 4 < 8 by decide), h 5 (show 5 < 8 by decide), h 6 (show 6 < 8 by decide), h 7 (show 7 < 8 by decide)⟩
 ·rintro ⟨⟨h0, h1, h2, h3⟩, h4, h5, h6, h7⟩ j hj
  have hj8 : j < 8 := hj
  have : j = 0 ∨ j = 1 ∨ j = 2 ∨ j = 3 ∨ j = 4 ∨ j = 5 ∨ j = 6 ∨ j = 7 := by omega
  rcases this with rfl | rfl | rfl | rfl | rfl | rfl | rfl | rfl
  ·exact h0
  ·exact h1
  ·exact h2
  ·exact h3
  ·exact h4
  ·exact h5
  ·exact h6
  ·exact h7
theorem spn_ok (l : List UInt8) (i : Nat) : SpnOk (spAt l i) := by
 have h1 := n4_lt l (8 + 8 * i)
 have h2 := n4_lt l (12 + 8 * i)
 unfold SpnOk spAt
 dsimp only
 omega
theorem sec_ok (l : List UInt8) (p : Nat) : SecB (secAt l p) := by
 have h1 := n8_lt l (p + 32)
 have h2 := n8_lt l (p + 40)
 have h3 := n4_lt l (p + 48)
 unfold SecB secAt
 dsimp only
 omega
theorem seg_ok (l : List UInt8) (s : SlV) : SegB (segX l s) := by
 have h1 := n8_lt l 24
 have h2 := n8_lt l 32
 have h3 := n8_lt l 40
 have h4 := n8_lt l 48
 unfold SegB segX
 dsimp only
 omega
theorem secsN_ok (l : List UInt8) (k j : Nat) (h : j < (secsN l k).length) : SecB ((secsN l k).getD j .zero) := by
 rw [List.getD_eq_getElem?_getD, List.getElem?_eq_getElem h]
 have hm := List.getElem_mem h
 simp only [Option.getD_some]
 generalize (secsN l k)[j] = x at hm
 unfold secsN at hm
 obtain ⟨i, _, rfl⟩ := List.mem_map.1 hm
 exact sec_ok l _
theorem ImB.nil : ImB [] := ⟨fun _ h => absurd h (Nat.not_lt_zero _), fun _ h => absurd h (Nat.not_lt_zero _)⟩
theorem ImB.snoc {ps : List SegP} (h : ImB ps) (l : List UInt8) : ImB (ps ++ [segP l]) := by
 have hg : ∀ k, k < (ps ++ [segP l]).length → (k < ps.length ∧ (ps ++ [segP l]).getD k .zero = ps.getD k .zero) ∨ (ps ++ [segP l]).getD k .zero = segP l := fun k hk => by
  rw [getD_snoc]
  by_cases h1 : k < ps.length
  ·rw [if_pos h1]; exact .inl ⟨h1, rfl⟩
  ·rw [if_neg h1, if_pos (by simp at hk; omega)]; exact .inr rfl
 constructor
 ·intro k hk
  rcases hg k hk with ⟨h1, h2⟩ | h2
  ·rw [h2]; exact h.seg k h1
  ·rw [h2]; exact seg_ok l _
 ·intro k hk
  rcases hg k hk with ⟨h1, h2⟩ | h2
  ·rw [h2]; exact h.sec k h1
  ·rw [h2]; exact fun j hj => secsN_ok l _ j hj
theorem PB.tr {p : TP} (h : PB p) (l : List UInt8) (i : Nat) : PB (trQ p (spAt l i)) := by
 unfold trQ
 split
 ·exact h
 ·refine ⟨h.im, (spnsB_iff _).2 ?_⟩
  obtain ⟨h0, h4, h5, h6, h7⟩ := (spnsB_iff _).1 h.sp
  exact ⟨h0, spn_ok l i, h5, h6, h7⟩
theorem PB.step {p : TP} (h : PB p) (l : List UInt8) : PB (tS p l) := by
 obtain ⟨h0, h4, h5, h6, h7⟩ := (spnsB_iff _).1 h.sp
 unfold tS
 split
 ·exact h
 ·split
  ·exact ⟨h.im.snoc l, h.sp⟩
  ·split
   ·exact ⟨h.im, h.sp⟩
   ·split
    ·exact ⟨h.im, (spnsB_iff _).2 ⟨h0, h4, h5, h6, h7⟩⟩
    ·split
     ·exact h.tr l 0
     ·split
      ·exact ⟨h.im, (spnsB_iff _).2 ⟨h0, h4, h5, h6, h7⟩⟩
      ·split
       ·refine ⟨h.im, (spnsB_iff _).2 ⟨h0, h4, h5, ?_, ?_⟩⟩
        ·have h1 := n4_lt l 8
         have h2 := n4_lt l 12
         unfold SpnOk
         dsimp only
         omega
        ·exact spn_ok l 1
       ·split
        ·exact ⟨h.im, (spnsB_iff _).2 ⟨h0, h4, spn_ok l 0, h6, h7⟩⟩
        ·refine PB.tr ?_ l 4
         exact ⟨h.im, (spnsB_iff _).2 ⟨⟨spn_ok l 0, spn_ok l 1, spn_ok l 2, spn_ok l 3⟩, h4, h5, h6, h7⟩⟩
theorem PB.tell : ∀ (ls : List (List UInt8)) (p : TP), PB p → PB (tellS p ls)
 | [], _, h => h
 | l :: r, _, h => PB.tell r _ (h.step l)
theorem PB.img (l : List UInt8) : PB (imgP l) := by
 refine PB.tell _ _ ⟨ImB.nil, (spnsB_iff _).2 ?_⟩
 have : SpnOk ⟨0, 0⟩ := by unfold SpnOk; decide
 exact ⟨⟨this, this, this, this⟩, this, this, this, this⟩
structure Sen where
 m : Img
 nm : Bool
 ch : Bool
 sy : Bool
 en : Bool
 sp : Bool
 secs : Int
def Sen.cells (t : Sen) : List Value := t.m.cells ++ [.bool t.nm, .bool t.ch, .bool t.sy, .bool t.en, .bool t.sp, .int .i64 t.secs]
def Sen.zero : Sen := ⟨Img.zero, false, false, false, false, false, 0⟩
def senL : Lay Sen := ⟨30, Sen.cells, Sen.zero, fun _ => rfl, by decide, fun x u hu => by
 simp only [Sen.cells, List.mem_cons, List.mem_append, List.not_mem_nil, or_false] at hu
 rcases hu with h | rfl | rfl | rfl | rfl | rfl | rfl
 ·exact imgL.one x.m u h
 ·rfl
 ·rfl
 ·rfl
 ·rfl
 ·rfl
 ·rfl⟩
section
variable {w : World} {g : Nat} {t : Sen}
theorem Sen.cell (h : senL.Box w g t) (j : Nat) (u : Value) (hj : j < 30) (hu : t.cells[j]? = some u) : w.cell? ⟨g, j, none⟩ = some u := by
 have := h.in j hj
 rw [Nat.zero_add] at this
 rw [this]
 exact hu
theorem Sen.c_nm (h : senL.Box w g t) : w.cell? ⟨g, 24, none⟩ = some (.bool t.nm) := Sen.cell h 24 _ (by decide) rfl
theorem Sen.set_nm (h : senL.Box w g t) (x : Bool) : senL.Box (w.setCell ⟨g, 24, none⟩ (.bool x)) g { t with nm := x } := Lay.Box.set h 24 _ _ rfl
theorem Sen.c_ch_ (h : senL.Box w g t) : w.cell? ⟨g, 25, none⟩ = some (.bool t.ch) := Sen.cell h 25 _ (by decide) rfl
theorem Sen.set_ch_ (h : senL.Box w g t) (x : Bool) : senL.Box (w.setCell ⟨g, 25, none⟩ (.bool x)) g { t with ch := x } := Lay.Box.set h 25 _ _ rfl
theorem Sen.c_sy_ (h : senL.Box w g t) : w.cell? ⟨g, 26, none⟩ = some (.bool t.sy) := Sen.cell h 26 _ (by decide) rfl
theorem Sen.set_sy_ (h : senL.Box w g t) (x : Bool) : senL.Box (w.setCell ⟨g, 26, none⟩ (.bool x)) g { t with sy := x } := Lay.Box.set h 26 _ _ rfl
theorem Sen.c_en (h : senL.Box w g t) : w.cell? ⟨g, 27, none⟩ = some (.bool t.en) := Sen.cell h 27 _ (by decide) rfl
theorem Sen.set_en (h : senL.Box w g t) (x : Bool) : senL.Box (w.setCell ⟨g, 27, none⟩ (.bool x)) g { t with en := x } := Lay.Box.set h 27 _ _ rfl
theorem Sen.c_sp (h : senL.Box w g t) : w.cell? ⟨g, 28, none⟩ = some (.bool t.sp) := Sen.cell h 28 _ (by decide) rfl
theorem Sen.set_sp (h : senL.Box w g t) (x : Bool) : senL.Box (w.setCell ⟨g, 28, none⟩ (.bool x)) g { t with sp := x } := Lay.Box.set h 28 _ _ rfl
theorem Sen.c_secs (h : senL.Box w g t) : w.cell? ⟨g, 29, none⟩ = some (.int .i64 t.secs) := Sen.cell h 29 _ (by decide) rfl
theorem Sen.c_name (h : senL.Box w g t) : w.cell? ⟨g, 3, none⟩ = some (.string t.m.name) := Sen.cell h 3 _ (by decide) rfl
theorem Sen.c_segs (h : senL.Box w g t) : w.cell? ⟨g, 4, none⟩ = some (.slice t.m.segs.a t.m.segs.n t.m.segs.cap) := Sen.cell h 4 _ (by decide) rfl
theorem Sen.c_deps (h : senL.Box w g t) : w.cell? ⟨g, 5, none⟩ = some (.slice t.m.deps.a t.m.deps.n t.m.deps.cap) := Sen.cell h 5 _ (by decide) rfl
theorem Sen.c_rb (h : senL.Box w g t) : w.cell? ⟨g, 6, none⟩ = some (.int .u64 t.m.rbO) ∧ w.cell? ⟨g, 7, none⟩ = some (.int .u64 t.m.rbS) := ⟨Sen.cell h 6 _ (by decide) rfl, Sen.cell h 7 _ (by decide) rfl⟩
theorem Sen.c_bd (h : senL.Box w g t) : w.cell? ⟨g, 8, none⟩ = some (.int .u64 t.m.bdO) ∧ w.cell? ⟨g, 9, none⟩ = some (.int .u64 t.m.bdS) := ⟨Sen.cell h 8 _ (by decide) rfl, Sen.cell h 9 _ (by decide) rfl⟩
theorem Sen.c_wk (h : senL.Box w g t) : w.cell? ⟨g, 10, none⟩ = some (.int .u64 t.m.wkO) ∧ w.cell? ⟨g, 11, none⟩ = some (.int .u64 t.m.wkS) := ⟨Sen.cell h 10 _ (by decide) rfl, Sen.cell h 11 _ (by decide) rfl⟩
theorem Sen.c_lz (h : senL.Box w g t) : w.cell? ⟨g, 12, none⟩ = some (.int .u64 t.m.lzO) ∧ w.cell? ⟨g, 13, none⟩ = some (.int .u64 t.m.lzS) := ⟨Sen.cell h 12 _ (by decide) rfl, Sen.cell h 13 _ (by decide) rfl⟩
theorem Sen.c_tr (h : senL.Box w g t) : w.cell? ⟨g, 14, none⟩ = some (.int .u64 t.m.trO) ∧ w.cell? ⟨g, 15, none⟩ = some (.int .u64 t.m.trS) := ⟨Sen.cell h 14 _ (by decide) rfl, Sen.cell h 15 _ (by decide) rfl⟩
theorem Sen.c_ch (h : senL.Box w g t) : w.cell? ⟨g, 16, none⟩ = some (.int .u64 t.m.chO) ∧ w.cell? ⟨g, 17, none⟩ = some (.int .u64 t.m.chS) := ⟨Sen.cell h 16 _ (by decide) rfl, Sen.cell h 17 _ (by decide) rfl⟩
theorem Sen.c_sy (h : senL.Box w g t) : w.cell? ⟨g, 18, none⟩ = some (.int .u64 t.m.syO) ∧ w.cell? ⟨g, 19, none⟩ = some (.int .u64 t.m.syS) := ⟨Sen.cell h 18 _ (by decide) rfl, Sen.cell h 19 _ (by decide) rfl⟩
theorem Sen.c_st (h : senL.Box w g t) : w.cell? ⟨g, 20, none⟩ = some (.int .u64 t.m.stO) ∧ w.cell? ⟨g, 21, none⟩ = some (.int .u64 t.m.stS) := ⟨Sen.cell h 20 _ (by decide) rfl, Sen.cell h 21 _ (by decide) rfl⟩
theorem Sen.c_entry (h : senL.Box w g t) : w.cell? ⟨g, 22, none⟩ = some (.int .u64 t.m.entry) := Sen.cell h 22 _ (by decide) rfl
theorem Sen.c_has (h : senL.Box w g t) : w.cell? ⟨g, 23, none⟩ = some (.bool t.m.has) := Sen.cell h 23 _ (by decide) rfl
theorem Sen.set_secs (h : senL.Box w g t) (x : Int) : senL.Box (w.setCell ⟨g, 29, none⟩ (.int .i64 x)) g { t with secs := x } := Lay.Box.set h 29 _ _ rfl
theorem Sen.set_name (h : senL.Box w g t) (x : ByteArray) : senL.Box (w.setCell ⟨g, 3, none⟩ (.string x)) g { t with m := { t.m with name := x } } := Lay.Box.set h 3 _ _ rfl
theorem Sen.set_segs (h : senL.Box w g t) (x : SlV) : senL.Box (w.setCell ⟨g, 4, none⟩ (.slice x.a x.n x.cap)) g { t with m := { t.m with segs := x } } := Lay.Box.set h 4 _ _ rfl
theorem Sen.set_deps (h : senL.Box w g t) (x : SlV) : senL.Box (w.setCell ⟨g, 5, none⟩ (.slice x.a x.n x.cap)) g { t with m := { t.m with deps := x } } := Lay.Box.set h 5 _ _ rfl
theorem Sen.set_rb (h : senL.Box w g t) (x : Spn) : senL.Box ((w.setCell ⟨g, 6, none⟩ (.int .u64 x.off)).setCell ⟨g, 7, none⟩ (.int .u64 x.size)) g { t with m := { t.m with rbO := x.off, rbS := x.size } } := Lay.Box.set (Lay.Box.set h 6 _ { t with m := { t.m with rbO := x.off } } rfl) 7 _ _ rfl
theorem Sen.set_bd (h : senL.Box w g t) (x : Spn) : senL.Box ((w.setCell ⟨g, 8, none⟩ (.int .u64 x.off)).setCell ⟨g, 9, none⟩ (.int .u64 x.size)) g { t with m := { t.m with bdO := x.off, bdS := x.size } } := Lay.Box.set (Lay.Box.set h 8 _ { t with m := { t.m with bdO := x.off } } rfl) 9 _ _ rfl
theorem Sen.set_wk (h : senL.Box w g t) (x : Spn) : senL.Box ((w.setCell ⟨g, 10, none⟩ (.int .u64 x.off)).setCell ⟨g, 11, none⟩ (.int .u64 x.size)) g { t with m := { t.m with wkO := x.off, wkS := x.size } } := Lay.Box.set (Lay.Box.set h 10 _ { t with m := { t.m with wkO := x.off } } rfl) 11 _ _ rfl
theorem Sen.set_lz (h : senL.Box w g t) (x : Spn) : senL.Box ((w.setCell ⟨g, 12, none⟩ (.int .u64 x.off)).setCell ⟨g, 13, none⟩ (.int .u64 x.size)) g { t with m := { t.m with lzO := x.off, lzS := x.size } } := Lay.Box.set (Lay.Box.set h 12 _ { t with m := { t.m with lzO := x.off } } rfl) 13 _ _ rfl
theorem Sen.set_tr (h : senL.Box w g t) (x : Spn) : senL.Box ((w.setCell ⟨g, 14, none⟩ (.int .u64 x.off)).setCell ⟨g, 15, none⟩ (.int .u64 x.size)) g { t with m := { t.m with trO := x.off, trS := x.size } } := Lay.Box.set (Lay.Box.set h 14 _ { t with m := { t.m with trO := x.off } } rfl) 15 _ _ rfl
theorem Sen.set_ch (h : senL.Box w g t) (x : Spn) : senL.Box ((w.setCell ⟨g, 16, none⟩ (.int .u64 x.off)).setCell ⟨g, 17, none⟩ (.int .u64 x.size)) g { t with m := { t.m with chO := x.off, chS := x.size } } := Lay.Box.set (Lay.Box.set h 16 _ { t with m := { t.m with chO := x.off } } rfl) 17 _ _ rfl
theorem Sen.set_sy (h : senL.Box w g t) (x : Spn) : senL.Box ((w.setCell ⟨g, 18, none⟩ (.int .u64 x.off)).setCell ⟨g, 19, none⟩ (.int .u64 x.size)) g { t with m := { t.m with syO := x.off, syS := x.size } } := Lay.Box.set (Lay.Box.set h 18 _ { t with m := { t.m with syO := x.off } } rfl) 19 _ _ rfl
theorem Sen.set_st (h : senL.Box w g t) (x : Spn) : senL.Box ((w.setCell ⟨g, 20, none⟩ (.int .u64 x.off)).setCell ⟨g, 21, none⟩ (.int .u64 x.size)) g { t with m := { t.m with stO := x.off, stS := x.size } } := Lay.Box.set (Lay.Box.set h 20 _ { t with m := { t.m with stO := x.off } } rfl) 21 _ _ rfl
theorem Sen.set_entry (h : senL.Box w g t) (x : Int) : senL.Box (w.setCell ⟨g, 22, none⟩ (.int .u64 x)) g { t with m := { t.m with entry := x } } := Lay.Box.set h 22 _ _ rfl
theorem Sen.set_has (h : senL.Box w g t) (x : Bool) : senL.Box (w.setCell ⟨g, 23, none⟩ (.bool x)) g { t with m := { t.m with has := x } } := Lay.Box.set h 23 _ _ rfl
end
structure SInv (w1 : World) (base bt : Nat) (p : TP) (t : Sen) (xs : List Seg) (w : World) : Prop where
 box : senL.Box w bt t
 nm : t.nm = p.seen 13
 ch : t.ch = p.seen 2147483700
 sy : t.sy = p.seen 2
 en : t.en = p.seen 2147483688
 sp : t.sp = p.seen 34
 secs : t.secs = p.n
 m : t.m.bare = p.m
 sg : segL.Buf 73 w base (.slice t.m.segs.a t.m.segs.n t.m.segs.cap) xs
 ks : SecsIn w base xs p.segs
 dp : depL.Buf 84 w base (.slice t.m.deps.a t.m.deps.n t.m.deps.cap) p.deps
 o2 : bt < base
 o4 : base ≤ w.heap.size
 o6 : w1.heap.size ≤ bt
 l1 : p.segs.length ≤ 16
 l2 : p.deps.length ≤ 64
 l3 : p.n ≤ 64
 chg : Chg [] w1 w
section
variable {w1 w w' : World} {base bt : Nat} {p : TP} {t : Sen} {xs : List Seg}
theorem SInv.pure (h : SInv w1 base bt p t xs w) (k : Chg [] w w') : SInv w1 base bt p t xs w' :=
 { h with box := h.box.frame k, sg := h.sg.pure k, ks := h.ks.pure k, dp := h.dp.pure k, o4 := Nat.le_trans h.o4 k.size, chg := h.chg.then k }
theorem SInv.upd (h : SInv w1 base bt p t xs w) (k : Chg [bt] w w') {t' : Sen} (hb : senL.Box w' bt t') {q : TP} (a1 : t'.nm = q.seen 13) (a2 : t'.ch = q.seen 2147483700) (a3 : t'.sy = q.seen 2) (a4 : t'.en = q.seen 2147483688) (a5 : t'.sp = q.seen 34) (h2 : t'.secs = q.n) (h3 : t'.m.bare = q.m) (h4 : t'.m.segs = t.m.segs) (h5 : t'.m.deps = t.m.deps) (h6 : q.segs = p.segs) (h7 : q.deps = p.deps) (h9 : q.n ≤ 64) : SInv w1 base bt q t' xs w' := by
 have o2 := h.o2
 refine ⟨hb, a1, a2, a3, a4, a5, h2, h3, ?_, ?_, ?_, o2, Nat.le_trans h.o4 k.size, h.o6, by rw [h6]; exact h.l1, by rw [h7]; exact h.l2, h9, h.chg.new k h.o6⟩
 ·rw [h4]; exact h.sg.frame k (fun i hi hm => by have := (h.sg.lt i hi).1; simp at hm; omega)
 ·rw [h6]; exact h.ks.low k (by simp; omega)
 ·rw [h5, h7]; exact h.dp.frame k (fun i hi hm => by have := (h.dp.lt i hi).1; simp at hm; omega)
theorem SInv.img (h : SInv w1 base bt p t xs w) : DImg w base t.m p := ⟨xs, h.m, h.sg, h.ks, h.dp⟩
end
theorem Sen.in_m {w : World} {g : Nat} {t : Sen} (h : senL.Box w g t) : imgL.In w g 0 t.m := fun c hc => by
 have hc' : c < 24 := hc
 have h1 := h.in c (Nat.lt_of_lt_of_le hc' (by decide : 24 ≤ 30))
 rw [h1]
 show (t.m.cells ++ _)[c]? = t.m.cells[c]?
 rw [List.getElem?_append_left hc']
def SenSays (w1 : World) (base bt : Nat) (E : Int) (q : TP) (e : Ending) (w' : World) : Prop := e = .returned (.int .i64 E) ∧ Chg [] w1 w' ∧ (E = 0 → ∃ t' xs', SInv w1 base bt q t' xs' w')
theorem opE_3 {l : List UInt8} (h : ¬ opE l = 0) : opE l = 3 := by
 unfold opE at h ⊢
 split
 ·rfl
 ·split
  ·rfl
  ·rename_i h1 h2; rw [if_neg h1, if_neg h2] at h; exact absurd rfl h
set_option maxHeartbeats 4000000 in
theorem Segment5_bad (l : List UInt8) (h : ¬ opE l = 0) (v : Value) (w : World) (rd : byteL.Rd w v l) :
  Calls Tryz.prog 100 #[v] w fun e w' => e = .returned (.tuple #[segL.val segL.d, .int .i64 3]) ∧ Chg [] w w' := by
 have HCM := hY (fun w rd => (opE_3 h) ▸ Cmd5_any l v w rd)
 have H := hY h
 have RD := hY rd
 clear h rd
 go_enter Tryz.func100, Tryz.ntmps100
 go_wp2_with (with_reducible refine Lay.alQ Tryz.tSg ?_)
 refine hY fun Wa ba eba cba xba => ?_
 go_wp2_with fail
 refine (HCM.out _ (RD.out.frame cba.out)).mono ?_
 rintro e W ⟨rfl, rfl⟩
 go_wp2_with ((with_reducible refine Lay.stQ Tryz.tSg (segL.d) (xba.out) ?_ ?_ ?_); exact rfl; exact rfl)
 refine hY fun W2 cW2 xW2 => ?_
 go_wp2
 refine Lay.ret2 Tryz.tSg rfl xW2.out rfl rfl ?_
 exact ⟨rfl, cba.out.new cW2.out (by rw [eba.out]; exact Nat.le_refl _)⟩
set_option maxHeartbeats 4000000 in
theorem Segment5_cmd (l : List UInt8) (h : opE l = 0) (h2 : n4 l 0 ≠ 25) (v : Value) (w : World) (rd : byteL.Rd w v l) :
  Calls Tryz.prog 100 #[v] w fun e w' => e = .returned (.tuple #[segL.val segL.d, .int .i64 7]) ∧ Chg [] w w' := by
 have hcm := fun w rd => h ▸ Cmd5_any l v w rd
 rw [show cmdN l = n4 l 0 by unfold cmdN; rw [if_neg (by have := (opE_len h).1; omega)]] at hcm
 have d2 : (((n4 l 0 : Nat) : Int) != 25) = true := by rw [bne_iff_ne]; omega
 have H := hY h
 have RD := hY rd
 have HCM := hY hcm
 have H2 := hY h2
 clear h rd hcm h2
 go_enter Tryz.func100, Tryz.ntmps100
 go_wp2_with (with_reducible refine Lay.alQ Tryz.tSg ?_)
 refine hY fun Wa ba eba cba xba => ?_
 go_wp2_with fail
 refine (HCM.out _ (RD.out.frame cba.out)).mono ?_
 rintro e W ⟨rfl, rfl⟩
 go_wp2_with ((with_reducible refine Lay.stQ Tryz.tSg (segL.d) (xba.out) ?_ ?_ ?_); exact rfl; exact rfl)
 refine hY fun W2 cW2 xW2 => ?_
 go_wp2
 refine Lay.ret2 Tryz.tSg rfl xW2.out rfl rfl ?_
 exact ⟨rfl, cba.out.new cW2.out (by rw [eba.out]; exact Nat.le_refl _)⟩
set_option maxHeartbeats 8000000 in
theorem Segment5_short (l : List UInt8) (h : opE l = 0) (h2 : n4 l 0 = 25) (h3 : l.length < 72 + 80 * n4 l 64) (v : Value) (w : World) (rd : byteL.Rd w v l) (hl : l.length ≤ 140737488355328) :
    Calls Tryz.prog 100 #[v] w fun e w' => e = .returned (.tuple #[segL.val segL.d, .int .i64 3]) ∧ Chg [] w w' := by
  have d3 : decide (((l.length : Int) - 72) / 80 < (n4 l 64 : Int)) = true := decide_eq_true (by omega)
  have H3 := hY h3
  clear h3
  have h72 : 72 ≤ l.length := by have := (opE_len h).2; rw [h2] at this; have h3 : leastF ((25 : Nat) : Int) = 72 := by decide
                                 omega
  have hcm := fun w rd => h ▸ Cmd5_any l v w rd
  rw [show cmdN l = 25 by unfold cmdN; rw [if_neg (by omega), h2]] at hcm
  have hf8 := fun w rd => field5_any l 8 (by omega) v w rd
  have ha := fun (p : Nat) (hp : p + 8 ≤ l.length) w rd => at5_any l p 8 (by decide) (by decide) hp v w rd
  have ha4 := fun (p : Nat) (hp : p + 4 ≤ l.length) w rd => at5_any l p 4 (by decide) (by decide) hp v w rd
  have A24 := hY (fun w rd => ha 24 (by omega) w rd)
  have A32 := hY (fun w rd => ha 32 (by omega) w rd)
  have A40 := hY (fun w rd => ha 40 (by omega) w rd)
  have A48 := hY (fun w rd => ha 48 (by omega) w rd)
  have A60 := hY (fun w rd => ha4 60 (by omega) w rd)
  have A64 := hY (fun w rd => ha4 64 (by omega) w rd)
  have hm := n4_lt l 64
  have hmp := n4_lt l 60
  obtain ⟨a, cap, rfl, hc1, hc2⟩ := rd.shape
  have H := hY h
  have RD := hY rd
  have HCM := hY hcm
  have H2 := hY h2
  have F8 := hY hf8
  have Ha := hY ha
  have Ha4 := hY ha4
  clear h rd hcm h2 hf8 ha ha4
  go_enter Tryz.func100, Tryz.ntmps100
  go_wp2_with (with_reducible refine Lay.alQ Tryz.tSg ?_)
  refine hY fun Wa ba eba cba xba => ?_
  go_wp2_with fail
  refine (HCM.out _ (RD.out.frame cba.out)).mono ?_
  rintro e W ⟨rfl, rfl⟩
  go_wp2_with fail
  refine (F8.out _ (RD.out.frame cba.out)).mono ?_
  rintro e W ⟨rfl, rfl⟩
  go_wp2_with fail
  refine (A24.out _ (RD.out.frame cba.out)).mono ?_
  rintro e W ⟨rfl, rfl⟩
  go_wp2_with fail
  refine (A32.out _ (RD.out.frame cba.out)).mono ?_
  rintro e W ⟨rfl, rfl⟩
  go_wp2_with fail
  refine (A40.out _ (RD.out.frame cba.out)).mono ?_
  rintro e W ⟨rfl, rfl⟩
  go_wp2_with fail
  refine (A48.out _ (RD.out.frame cba.out)).mono ?_
  rintro e W ⟨rfl, rfl⟩
  go_wp2_with fail
  refine (A60.out _ (RD.out.frame cba.out)).mono ?_
  rintro e W ⟨rfl, rfl⟩
  rw [show leNum ((l.drop 24).take 8) = n8 l 24 from rfl, show leNum ((l.drop 32).take 8) = n8 l 32 from rfl, show leNum ((l.drop 40).take 8) = n8 l 40 from rfl, show leNum ((l.drop 48).take 8) = n8 l 48 from rfl, show leNum ((l.drop 60).take 4) = n4 l 60 from rfl]
  go_wp2_with (with_reducible refine Lay.alQ Tryz.tSg ?_)
  refine hY fun Wb bs ebs cbs xbs => ?_
  go_wp2_with ((with_reducible refine Lay.stQ Tryz.tSg (segX l ⟨none, 0, 0⟩) (xbs.out) ?_ ?_ ?_); exact rfl; exact rfl)
  refine hY fun V5 cV5 xV5 => ?_
  have hbs : ba < bs := by rw [ebs.out]; exact xba.out.lt
  have XA5 := hY ((xba.out.frame cbs.out).frameS cV5.out (by simp; omega))
  have C5 := hY ((cba.out.then cbs.out).new cV5.out (by have := cba.out.size; rw [ebs.out]; omega))
  have R5 := hY (RD.out.frame C5.out)
  go_wp2_with fail
  refine (A64.out _ R5.out).mono ?_
  rintro e W ⟨rfl, rfl⟩
  rw [show leNum ((l.drop 64).take 4) = n4 l 64 from rfl]
  obtain ⟨N, hN⟩ : ∃ N, N = n4 l 64 := ⟨_, rfl⟩
  rw [← hN] at hm ⊢
  rw [← hN] at d3
  have HN := hY hN
  clear hN
  go_wp2_with ((with_reducible refine Lay.stQ Tryz.tSg (segL.d) (XA5.out) ?_ ?_ ?_); exact rfl; exact rfl)
  refine hY fun WE cWE xWE => ?_
  go_wp2
  refine Lay.ret2 Tryz.tSg rfl xWE.out rfl rfl ?_
  exact ⟨rfl, C5.out.new cWE.out (by rw [eba.out]; exact Nat.le_refl _)⟩
structure Sg5 (w0 : World) (B ba bs : Nat) (x : Seg) (ks : List Sec) (wr : World) : Prop where
 bx : segL.Box wr bs x
 bf : secL.Buf 157 wr B (.slice x.secs.a x.secs.n x.secs.cap) ks
 ra : segL.Box wr ba segL.d
 sz : B ≤ wr.heap.size
 chg : Chg [] w0 wr
theorem Sg5.pure {w0 : World} {B ba bs : Nat} {x : Seg} {ks : List Sec} {w w' : World} (h : Sg5 w0 B ba bs x ks w) (k : Chg [] w w') : Sg5 w0 B ba bs x ks w' :=
 ⟨h.bx.frame k, h.bf.pure k, h.ra.frame k, Nat.le_trans h.sz k.size, h.chg.then k⟩
structure Sg5G (w0 : World) (B ba bs : Nat) (x : Seg) (wr : World) : Prop where
 bx : segL.Box wr bs x
 ra : segL.Box wr ba segL.d
 sz : B ≤ wr.heap.size
 chg : Chg [] w0 wr
theorem Sg5.grew {w0 : World} {B ba bs : Nat} {x : Seg} {ks : List Sec} {w w' : World} (h : Sg5 w0 B ba bs x ks w) (g : w.grownBy w' (Value.slice x.secs.a x.secs.n x.secs.cap).ownBlock) (h1 : ba < bs) (h3 : bs < B) (h0 : w0.heap.size ≤ ba) : Sg5G w0 B ba bs x w' := by
 have k := Lay.chg_grown g
 have hb : ∀ i ∈ (Value.slice x.secs.a x.secs.n x.secs.cap).ownBlock.toList, B ≤ i := fun i hi => (h.bf.lt i (by simpa using hi)).1
 exact ⟨h.bx.frameS k (fun hm => by have := hb _ hm; omega), h.ra.frameS k (fun hm => by have := hb _ hm; omega), Nat.le_trans h.sz k.size, h.chg.trans k (fun i hi hw => by have := hb i hi; omega)⟩
theorem Sg5.app {w0 : World} {B ba bs : Nat} {l : List UInt8} {sv : SlV} {ks : List Sec} {w : World} {a : Option Addr} {n cap : Nat} (h : Sg5G w0 B ba bs (segX l sv) w) (hv : secL.Buf 157 w B (.slice a n cap) ks) (h1 : ba < bs) (h3 : bs < B) (h0 : w0.heap.size ≤ ba) : Sg5 w0 B ba bs (segX l ⟨a, n, cap⟩) ks (w.setCell ⟨bs, 6, none⟩ (.slice a n cap)) := by
 have k : Chg [bs] w (w.setCell ⟨bs, 6, none⟩ (.slice a n cap)) := (Chg.refl _ _).setCell _ _ (.inl (by simp))
 exact ⟨Seg.set_secs h.bx ⟨a, n, cap⟩, hv.frame k (fun i hi hm => by have := (hv.lt i hi).1; simp at hm; omega), h.ra.frameS k (by simp; omega), Nat.le_trans h.sz k.size, h.chg.new k (by omega)⟩
theorem sub_take (l : List UInt8) (p q m : Nat) (h : q + m ≤ 80) : ((((l.drop p).take 80).drop q).take m) = (l.drop (p + q)).take m := by
 rw [List.drop_take, List.take_take, List.drop_drop, Nat.min_eq_left (by omega)]
theorem low_byte (l : List UInt8) (q : Nat) (h : q + 4 ≤ l.length) : n4 l q % 256 = (l.getD q 0).toNat := by
 unfold n4
 rw [List.drop_eq_getElem_cons (by omega : q < l.length), List.take_succ_cons]
 show (l[q].toNat + 256 * leNum ((l.drop (q + 1)).take 3)) % 256 = _
 have h1 := l[q].toNat_lt
 simp [List.getD_eq_getElem?_getD, (by omega : q < l.length)]
end Go.Proofs.YtiljokmkiolpgaaGreatDoor
