/- Lemmas, laid together: part 16 of 46. Conditions: none but each lemma's own. -/
import Derived.Test.YtaipelkegemoeaaGreatDoorJ13
import Derived.Test.YtaipelkegemoeaaGreatDoorJ15
import Derived.Test.YtaipelkegemoeaaGreatDoorJ8
/- The document's Seen: the state between two steps; once, trie; Segment whatever the bytes. -/
namespace Go.Proofs.YtaipelkegemoeaaGreatDoor
open Go.RowKit
set_option maxRecDepth 100000

structure SMid (w1 : World) (base bt : Nat) (p : TP) (t : Sen) (w : World) : Prop where
  box : senL.Box w bt t
  nm : t.nm = p.seen 13
  ch : t.ch = p.seen 2147483700
  sy : t.sy = p.seen 2
  en : t.en = p.seen 2147483688
  sp : t.sp = p.seen 34
  secs : t.secs = p.n
  m : t.m.bare = p.m
  o2 : bt < base
  o4 : base ≤ w.heap.size
  o6 : w1.heap.size ≤ bt
  l1 : p.segs.length ≤ 16
  l2 : p.deps.length ≤ 64
  l3 : p.n ≤ 64
  chg : Chg [] w1 w
theorem SInv.grew {w1 w w' : World} {base bt : Nat} {p : TP} {t : Sen} {xs : List Seg} {S : List Nat} (h : SInv w1 base bt p t xs w) (k : Chg S w w') (hS : ∀ i ∈ S, base ≤ i) : SMid w1 base bt p t w' :=
  have h2 := h.o2
  have h6 := h.o6
  ⟨h.box.frameS k (fun hm => by have := hS _ hm; omega), h.nm, h.ch, h.sy, h.en, h.sp, h.secs, h.m, h.o2, Nat.le_trans h.o4 k.size, h.o6, h.l1, h.l2, h.l3, h.chg.trans k (fun i hi hw => by have := hS i hi; omega)⟩
/-- The new row of dependencies is laid. -/
theorem SMid.dep {w1 w0 w : World} {base bt : Nat} {p : TP} {t : Sen} {xs : List Seg} (h : SMid w1 base bt p t w) (h0 : SInv w1 base bt p t xs w0) (k : Chg (Value.slice t.m.deps.a t.m.deps.n t.m.deps.cap).ownBlock.toList w0 w) {a : Option Addr} {n cap : Nat} {ds : List Dep} (hv : depL.Buf 117 w base (.slice a n cap) ds) (hl : ds.length ≤ 64) :
    SInv w1 base bt { p with deps := ds } { t with m := { t.m with deps := ⟨a, n, cap⟩ } } xs (w.setCell ⟨bt, 5, none⟩ (.slice a n cap)) := by
  have c : Chg [bt] w (w.setCell ⟨bt, 5, none⟩ (.slice a n cap)) := (Chg.refl _ _).setCell _ _ (.inl (by simp))
  have o2 := h.o2
  exact ⟨Sen.set_deps h.box ⟨a, n, cap⟩, h.nm, h.ch, h.sy, h.en, h.sp, h.secs, h.m, (h0.sg.frame k (rows_ne h0.sg h0.dp (by decide))).frame c (fun i hi hm => by have := (h0.sg.lt i hi).1; simp at hm; omega), (h0.ks.apart h0.dp (by decide) k).low c (by simp; omega), hv.frame c (fun i hi hm => by have := (hv.lt i hi).1; simp at hm; omega), h.o2, Nat.le_trans h.o4 c.size, h.o6, h.l1, hl, h.l3, h.chg.new c h.o6⟩
theorem SMid.seg {w1 w0 w : World} {base bt : Nat} {p : TP} {t : Sen} {xs ys : List Seg} (h : SMid w1 base bt p t w) (h0 : SInv w1 base bt p t xs w0) (k : Chg (Value.slice t.m.segs.a t.m.segs.n t.m.segs.cap).ownBlock.toList w0 w) {a : Option Addr} {n cap : Nat} {q : List SegP} (hv : segL.Buf 64 w base (.slice a n cap) ys) (hq : SecsIn w base ys q) (hl : q.length ≤ 16) :
    SInv w1 base bt { p with segs := q } { t with m := { t.m with segs := ⟨a, n, cap⟩ } } ys (w.setCell ⟨bt, 4, none⟩ (.slice a n cap)) := by
  have c : Chg [bt] w (w.setCell ⟨bt, 4, none⟩ (.slice a n cap)) := (Chg.refl _ _).setCell _ _ (.inl (by simp))
  have o2 := h.o2
  exact ⟨Sen.set_segs h.box ⟨a, n, cap⟩, h.nm, h.ch, h.sy, h.en, h.sp, h.secs, h.m, hv.frame c (fun i hi hm => by have := (hv.lt i hi).1; simp at hm; omega), hq.low c (by simp; omega), (h0.dp.frame k (rows_ne h0.dp h0.sg (by decide))).frame c (fun i hi hm => by have := (h0.dp.lt i hi).1; simp at hm; omega), h.o2, Nat.le_trans h.o4 c.size, h.o6, hl, h.l2, h.l3, h.chg.new c h.o6⟩
/-- clevisref05.Segment, whatever the bytes. -/
theorem Segment5_any (l : List UInt8) (hl : l.length ≤ 140737488355328) (v : Value) (w : World) (rd : byteL.Rd w v l) :
    Calls Tryz.prog 74 #[v] w fun e w' => ∃ s : Seg, e = .returned (.tuple #[segL.val s, .int .i64 (segE l)]) ∧ Chg [] w w' ∧ (segE l = 0 → s = segX l s.secs ∧ secL.Buf 123 w' w.heap.size (.slice s.secs.a s.secs.n s.secs.cap) (secsN l (n4 l 64))) := by
  by_cases h : opE l = 0
  · by_cases h2 : n4 l 0 = 25
    · by_cases h3 : l.length < 72 + 80 * n4 l 64
      · have hE : segE l = 3 := by unfold segE; rw [if_neg (by simp [h]), if_neg (by simp [h2]), if_pos h3]
        rw [hE]
        exact (Segment5_short l h h2 h3 v w rd hl).mono fun e w' ⟨h1, h2⟩ => ⟨_, h1, h2, fun h => absurd h (by decide)⟩
      · refine (Segment5_main l h h2 h3 v w rd hl).mono ?_
        rintro e w' ⟨s, E, he, hE, hc, hs⟩
        subst hE
        exact ⟨s, he, hc, hs⟩
    · have hE : segE l = 7 := by unfold segE; rw [if_neg (by simp [h]), if_pos h2]
      rw [hE]
      exact (Segment5_cmd l h h2 v w rd).mono fun e w' ⟨h1, h2⟩ => ⟨_, h1, h2, fun h => absurd h (by decide)⟩
  · have hE : segE l = 3 := by unfold segE; rw [if_pos h]
    rw [hE]
    exact (Segment5_bad l h v w rd).mono fun e w' ⟨h1, h2⟩ => ⟨_, h1, h2, fun h => absurd h (by decide)⟩
theorem Segment5_fine (l : List UInt8) (hE : segE l = 0) (hl : l.length ≤ 140737488355328) (v : Value) (w : World) (rd : byteL.Rd w v l) :
    Calls Tryz.prog 74 #[v] w (SegOk l w) := by
  refine (Segment5_any l hl v w rd).mono ?_
  rintro e w' ⟨s, he, hc, hs⟩
  rw [hE] at he
  exact ⟨s, he, hc, (hs hE).1, (hs hE).2⟩
theorem once5_any (b j : Nat) (x : Bool) (w : World) (h : w.cell? ⟨b, j, none⟩ = some (.bool x)) (hf : w.frozen? ⟨b, j, none⟩ = false) :
    Calls Tryz.prog 58 #[.pointer (some ⟨b, j, none⟩)] w fun e w' => e = .returned (.bool (!x)) ∧ w' = w.setCell ⟨b, j, none⟩ (.bool true) := by
  go_enter Tryz.func58, Tryz.ntmps58
  go_wp2
  go_ret
  exact ⟨rfl, rfl⟩
theorem Sen.in_tr {w : World} {g : Nat} {t : Sen} (h : senL.Box w g t) : spnL.In w g 14 ⟨t.m.trO, t.m.trS⟩ := fun c hc => by
  have h1 := Sen.c_tr h
  have : c = 0 ∨ c = 1 := by have : spnL.n = 2 := rfl; omega
  rcases this with rfl | rfl
  · exact h1.1
  · exact h1.2
set_option maxHeartbeats 4000000 in
theorem trie5_any (x : Spn) (w1 : World) (base bt : Nat) (p : TP) (t : Sen) (xs : List Seg) (w : World) (h : SInv w1 base bt p t xs w) :
    Calls Tryz.prog 76 #[.pointer (some ⟨bt, 0, none⟩), spnL.val x] w (SenSays w1 base bt (trE p x) (trQ p x)) := by
  have htr : t.m.trS = p.m.trS := by rw [← h.m]; rfl
  have H := Lib.hid (h)
  clear h
  unfold trE trQ
  by_cases h0 : x.size = 0
  · rw [if_pos h0, if_pos h0]
    have d1 : (x.size == 0) = true := by rw [h0]; rfl
    have Htr := Lib.hid htr
    have H0 := Lib.hid h0
    clear htr h0
    go_enter Tryz.func76, Tryz.ntmps76
    go_wp2_with ((with_reducible refine Lay.bxL (L := spnL) 30 x ?_ ?_); exact rfl; intro W b eb cb xb; replace eb := Lib.hid eb; replace cb := Lib.hid cb; replace xb := Lib.hid xb; refine Hid.out ?_)
    refine Lib.hid ?_
    have H1 := Lib.hid (H.out.pure cb.out)
    have y1 := Spn.c_size xb.out
    go_wp2
    go_ret
    exact ⟨rfl, H1.out.chg, fun _ => ⟨_, _, H1.out⟩⟩
  · rw [if_neg h0, if_neg h0]
    have d1 : (x.size == 0) = false := by rw [beq_eq_false_iff_ne]; exact h0
    by_cases ht : 0 < p.m.trS
    · rw [if_pos ht]
      have d2 : decide ((0 : Int) < t.m.trS) = true := by rw [htr]; exact decide_eq_true ht
      have Htr := Lib.hid htr
      have H0 := Lib.hid h0
      have Ht := Lib.hid ht
      clear htr h0 ht
      go_enter Tryz.func76, Tryz.ntmps76
      go_wp2_with ((with_reducible refine Lay.bxL (L := spnL) 30 x ?_ ?_); exact rfl; intro W b eb cb xb; replace eb := Lib.hid eb; replace cb := Lib.hid cb; replace xb := Lib.hid xb; refine Hid.out ?_)
      refine Lib.hid ?_
      have H1 := Lib.hid (H.out.pure cb.out)
      have y1 := Spn.c_size xb.out
      have y2 := (Sen.c_tr H1.out.box).2
      go_wp2
      go_ret
      exact ⟨rfl, H1.out.chg, fun h => absurd h (by decide)⟩
    · rw [if_neg ht]
      have d2 : decide ((0 : Int) < t.m.trS) = false := by rw [htr]; exact decide_eq_false ht
      have Htr := Lib.hid htr
      have H0 := Lib.hid h0
      have Ht := Lib.hid ht
      clear htr h0 ht
      go_enter Tryz.func76, Tryz.ntmps76
      go_wp2_with ((with_reducible refine Lay.bxL (L := spnL) 30 x ?_ ?_); exact rfl; intro W b eb cb xb; replace eb := Lib.hid eb; replace cb := Lib.hid cb; replace xb := Lib.hid xb; refine Hid.out ?_)
      refine Lib.hid ?_
      have H1 := Lib.hid (H.out.pure cb.out)
      have y1 := Spn.c_size xb.out
      have y2 := (Sen.c_tr H1.out.box).2
      go_wp2_with ((with_reducible refine Lay.ldL Tryz.tSpn x (xb.out.in) ?_ ?_); exact rfl; refine Hid.out ?_)
      refine Lib.hid ?_
      go_wp2_with ((with_reducible refine stAt Tryz.tSpn x (Sen.in_tr H1.out.box) H1.out.box.frozen ?_ ?_ ?_); exact rfl; exact rfl; intro W3 eW3; replace eW3 := Lib.hid eW3; refine Hid.out ?_)
      refine Lib.hid ?_
      have hc : Chg [bt] W W3 := by rw [eW3.out]; exact Lay.setW_chg _ _ _ _
      have hb : senL.Box W3 bt { t with m := { t.m with trO := x.off, trS := x.size } } := by rw [eW3.out]; exact Sen.set_tr H1.out.box x
      have hq : ({ t.m with trO := x.off, trS := x.size } : Img).bare = { p.m with trO := x.off, trS := x.size } := by rw [← H.out.m]; rfl
      have hf := H1.out.upd hc hb (q := { p with m := { p.m with trO := x.off, trS := x.size } }) H1.out.nm H1.out.ch H1.out.sy H1.out.en H1.out.sp H1.out.secs hq rfl rfl rfl rfl H1.out.l3
      have Hf := Lib.hid hf
      clear hf
      clear hc hb hq y1 y2
      go_wp2
      go_ret
      exact ⟨rfl, Hf.out.chg, fun _ => ⟨_, _, Hf.out⟩⟩
end Go.Proofs.YtaipelkegemoeaaGreatDoor
