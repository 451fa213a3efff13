/- Lemmas, laid together: part 20 of 39. Conditions: none but each lemma's own. -/
import Derived.Test.YtnaonkbbecdboaaDoorJ4
import Derived.Test.YtnaonkbbecdboaaDoorJ19
import Derived.BigRegion
import Derived.Test.YtnaonkbbecdboaaDoorJ3
/- A record is stored where one stands: a law for the walk. No program in sight. -/
namespace Go.Proofs.YtnaonkbbecdboaaDoor
open Go.RowKit
set_option maxRecDepth 100000
section
variable {α : Type} {L : Lay α} {P : Program} {T : TypeId} {ops : Array Oper} {rest : List Oper} {a : Act} {Q : Exit → Act → World → Prop} {w : World}
theorem stAt (hT : Lay.Ty L P T) {p s : Operand} {ty : TypeId} {pos : String} {after : Array Edge} {b off : Nat} {y : α} (x : α) (hb : L.In w b off y) (hf : ∀ j, w.frozen? ⟨b, j, none⟩ = false) (hp : a.eval p = .pointer (some ⟨b, off, none⟩)) (hs : a.eval s = .agg (L.f x).toArray)
    (h : ∀ W, W = Lay.setW w b off (L.f x) → wpList P ops Q rest a W) : wpList P ops Q (⟨none, .store T p s, ty, pos, after, none⟩ :: rest) a w := by
  refine wpList_plain rfl fun K hK => ?_
  unfold Oper.wp execOp
  have := h _ rfl
  have hr := Lay.run_storeCells (P := P) (g := b) (L.f x) w off 0 (L.one x) (fun c hc => by
    rw [Nat.add_zero]
    have := hb c (by rw [← L.len x]; exact hc)
    rw [this]
    exact ⟨_, List.getElem?_eq_getElem (by rw [L.len]; rw [L.len] at hc; exact hc)⟩) hf
  simp [Instr.storeAt, Instr.sureAddr, hp, hs, storeVar, Lay.run_size hT, Value.cells, L.len, hr]
  exact hK _ _ this
end
end Go.Proofs.YtnaonkbbecdboaaDoor
/- load: the teller's trie. -/
namespace Go.Proofs.YtnaonkbbecdboaaDoor
open Go.RowKit
set_option maxRecDepth 100000

def trE (p : TP) (x : Spn) : Int := if x.size = 0 then 0 else if 0 < p.m.trS then 21 else 0
def trQ (p : TP) (x : Spn) : TP := if x.size = 0 then p else { p with m := { p.m with trO := x.off, trS := x.size } }
theorem Tel.in_tr {w : World} {g : Nat} {t : Tel} (h : telL.Box w g t) : spnL.In w g 14 ⟨t.m.trO, t.m.trS⟩ := fun c hc => by
  have h1 := Tel.c_tr h
  have : c = 0 ∨ c = 1 := by have : spnL.n = 2 := rfl; omega
  rcases this with rfl | rfl
  · exact h1.1
  · exact h1.2
set_option maxHeartbeats 4000000 in
theorem trie_any (x : Spn) (w1 : World) (base bt bs : Nat) (p : TP) (t : Tel) (xs : List Seg) (w : World) (h : TInv w1 base bt bs p t xs w) :
    Calls Tryd.prog 47 #[.pointer (some ⟨bt, 0, none⟩), spnL.val x] w (TelSays w1 base bt bs (trE p x) (trQ p x)) := by
  have htr : t.m.trS = p.m.trS := by rw [← h.m]; rfl
  have H := Lib.hid (h)
  clear h
  unfold trE trQ
  by_cases h0 : x.size = 0
  · rw [if_pos h0, if_pos h0]
    have d1 : (x.size == 0) = true := by rw [h0]; rfl
    have Htr := Lib.hid htr
    have H0 := Lib.hid h0
    clear htr h0
    go_enter Tryd.func47, Tryd.ntmps47
    go_wp2_with ((with_reducible refine Lay.bxL (L := spnL) 30 x ?_ ?_); exact rfl; intro W b eb cb xb; replace eb := Lib.hid eb; replace cb := Lib.hid cb; replace xb := Lib.hid xb; refine Hid.out ?_)
    refine Lib.hid ?_
    have H1 := Lib.hid (H.out.pure cb.out)
    have y1 := Spn.c_size xb.out
    go_wp2
    go_ret
    exact ⟨rfl, H1.out.chg, fun _ => ⟨_, _, H1.out⟩⟩
  · rw [if_neg h0, if_neg h0]
    have d1 : (x.size == 0) = false := by rw [beq_eq_false_iff_ne]; exact h0
    by_cases ht : 0 < p.m.trS
    · rw [if_pos ht]
      have d2 : decide ((0 : Int) < t.m.trS) = true := by rw [htr]; exact decide_eq_true ht
      have Htr := Lib.hid htr
      have H0 := Lib.hid h0
      have Ht := Lib.hid ht
      clear htr h0 ht
      go_enter Tryd.func47, Tryd.ntmps47
      go_wp2_with ((with_reducible refine Lay.bxL (L := spnL) 30 x ?_ ?_); exact rfl; intro W b eb cb xb; replace eb := Lib.hid eb; replace cb := Lib.hid cb; replace xb := Lib.hid xb; refine Hid.out ?_)
      refine Lib.hid ?_
      have H1 := Lib.hid (H.out.pure cb.out)
      have y1 := Spn.c_size xb.out
      have y2 := (Tel.c_tr H1.out.box).2
      go_wp2
      go_ret
      exact ⟨rfl, H1.out.chg, fun h => absurd h (by decide)⟩
    · rw [if_neg ht]
      have d2 : decide ((0 : Int) < t.m.trS) = false := by rw [htr]; exact decide_eq_false ht
      have Htr := Lib.hid htr
      have H0 := Lib.hid h0
      have Ht := Lib.hid ht
      clear htr h0 ht
      go_enter Tryd.func47, Tryd.ntmps47
      go_wp2_with ((with_reducible refine Lay.bxL (L := spnL) 30 x ?_ ?_); exact rfl; intro W b eb cb xb; replace eb := Lib.hid eb; replace cb := Lib.hid cb; replace xb := Lib.hid xb; refine Hid.out ?_)
      refine Lib.hid ?_
      have H1 := Lib.hid (H.out.pure cb.out)
      have y1 := Spn.c_size xb.out
      have y2 := (Tel.c_tr H1.out.box).2
      go_wp2_with ((with_reducible refine Lay.ldL Tryd.tSpn x (xb.out.in) ?_ ?_); exact rfl; refine Hid.out ?_)
      refine Lib.hid ?_
      go_wp2_with ((with_reducible refine stAt Tryd.tSpn x (Tel.in_tr H1.out.box) H1.out.box.frozen ?_ ?_ ?_); exact rfl; exact rfl; intro W3 eW3; replace eW3 := Lib.hid eW3; refine Hid.out ?_)
      refine Lib.hid ?_
      have hc : Chg [bt] W W3 := by rw [eW3.out]; exact Lay.setW_chg _ _ _ _
      have hb : telL.Box W3 bt { t with m := { t.m with trO := x.off, trS := x.size } } := by rw [eW3.out]; exact Tel.set_tr H1.out.box x
      have hq : ({ t.m with trO := x.off, trS := x.size } : Img).bare = { p.m with trO := x.off, trS := x.size } := by rw [← H.out.m]; rfl
      have hf := H1.out.upd hc hb (q := { p with m := { p.m with trO := x.off, trS := x.size } }) rfl H1.out.secs hq rfl rfl rfl rfl rfl H1.out.l3
      have Hf := Lib.hid hf
      clear hf
      clear hc hb hq y1 y2
      go_wp2
      go_ret
      exact ⟨rfl, Hf.out.chg, fun _ => ⟨_, _, Hf.out⟩⟩
end Go.Proofs.YtnaonkbbecdboaaDoor
/- load: the teller's spans. -/
namespace Go.Proofs.YtnaonkbbecdboaaDoor
open Go.RowKit
set_option maxRecDepth 100000

/-- What a call of Spans hands back, its row taken apart. -/
def SpQ (w : World) (ls : List Spn) (e : Ending) (w' : World) : Prop := ∃ g cap, e = .returned (.tuple #[.slice (some ⟨g, 0, none⟩) ls.length cap, .int .i64 0]) ∧ Chg [] w w' ∧ w.heap.size ≤ g ∧ ∀ j, j < ls.length → spnL.In w' g (j * 2) (ls.getD j .zero)
theorem sp_q {w w' : World} {ls : List Spn} {e : Ending} (hne : ls.length ≠ 0) (h : SpP w ls e w') : SpQ w ls e w' := by
  obtain ⟨⟨a, n, cap⟩, rfl, hb, hc⟩ := h
  obtain ⟨g, cap', hsl, hge, _, _, _, _, _, hIn⟩ := hb.at hne
  have hsl' : Value.slice a n cap = .slice (some ⟨g, 0, none⟩) ls.length cap' := hsl
  exact ⟨g, cap', by rw [← hsl'], hc, hge, hIn⟩
theorem Spn.both {w : World} {g o : Nat} {x : Spn} (h : spnL.In w g o x) : w.cell? ⟨g, o, none⟩ = some (.int .u64 x.off) ∧ w.cell? ⟨g, o + 1, none⟩ = some (.int .u64 x.size) := Spn.at h
set_option maxHeartbeats 4000000 in
theorem spans_tr (l : List UInt8) (x : Spn) (hs : ∀ v w, Env w → byteL.Rd w v l → Calls Tryd.prog 14 #[v] w (SpP w [x])) (v : Value) (w1 : World) (base bt bs : Nat) (p : TP) (t : Tel) (xs : List Seg) (w : World) (h : TInv w1 base bt bs p t xs w) (hg : Env w) (rd : byteL.Rd w v l) :
    Calls Tryd.prog 34 #[.pointer (some ⟨bt, 0, none⟩), .int .u32 2147483699, v] w (TelSays w1 base bt bs (trE p x) (trQ p x)) := by
  have hsp := (hs v w hg rd).mono (fun e w' h => sp_q (by simp) h)
  have H := Lib.hid (h)
  have Hg := Lib.hid hg
  have RD := Lib.hid rd
  have Hs := Lib.hid hs
  have HSP := Lib.hid hsp
  clear hg rd hs hsp
  clear h
  go_enter Tryd.func34, Tryd.ntmps34
  go_wp2_with fail
  refine (HSP.out).mono ?_
  rintro e W1 ⟨g, cap, rfl, hch, _, hIn⟩
  have H1 := Lib.hid (H.out.pure hch)
  have HIN := Lib.hid hIn
  clear hIn
  clear hch
  have hx : spnL.In W1 g 0 x := HIN.out 0 (by simp)
  have Hx := Lib.hid hx
  clear hx
  go_wp2_with ((with_reducible refine Lay.ldL Tryd.tSpn x (Hx.out) ?_ ?_); exact rfl; refine Hid.out ?_)
  refine Lib.hid ?_
  go_wp2_with fail
  refine (trie_any x w1 base bt bs p t xs W1 H1.out).mono ?_
  rintro e W2 ⟨rfl, hc, ht⟩
  have Hc := Lib.hid hc
  have Ht := Lib.hid ht
  clear hc ht
  go_wp2
  go_ret
  exact ⟨rfl, Hc.out, Ht.out⟩
set_option maxHeartbeats 4000000 in
theorem spans_ch (l : List UInt8) (x : Spn) (hs : ∀ v w, Env w → byteL.Rd w v l → Calls Tryd.prog 14 #[v] w (SpP w [x])) (v : Value) (w1 : World) (base bt bs : Nat) (p : TP) (t : Tel) (xs : List Seg) (w : World) (h : TInv w1 base bt bs p t xs w) (hg : Env w) (rd : byteL.Rd w v l) :
    Calls Tryd.prog 34 #[.pointer (some ⟨bt, 0, none⟩), .int .u32 2147483700, v] w (TelSays w1 base bt bs 0 { p with m := { p.m with chO := x.off, chS := x.size } }) := by
  have hsp := (hs v w hg rd).mono (fun e w' h => sp_q (by simp) h)
  have H := Lib.hid (h)
  have Hg := Lib.hid hg
  have RD := Lib.hid rd
  have Hs := Lib.hid hs
  have HSP := Lib.hid hsp
  clear hg rd hs hsp
  clear h
  go_enter Tryd.func34, Tryd.ntmps34
  go_wp2_with fail
  refine (HSP.out).mono ?_
  rintro e W1 ⟨g, cap, rfl, hch, _, hIn⟩
  have H1 := Lib.hid (H.out.pure hch)
  have HIN := Lib.hid hIn
  clear hIn
  clear hch
  have hx : spnL.In W1 g 0 x := HIN.out 0 (by simp)
  have Hx := Lib.hid hx
  clear hx
  have y1 := Tel.c_ch H1.out.box
  obtain ⟨y1, y2⟩ := y1
  have z1 := H1.out.box.frozen 16
  have z2 := H1.out.box.frozen 17
  have x1 := Spn.both Hx.out
  obtain ⟨x1, x2⟩ := x1
  simp only [Nat.zero_add] at x2
  go_upto_region 13 with fail
  refine Lay.with_world (fun W => TInv w1 base bt bs { p with m := { p.m with chO := x.off, chS := x.size } } { t with m := { t.m with chO := x.off, chS := x.size } } xs W) ?_ (fun W4 hW => ?_)
  · have hc : Chg [bt] W1 ((W1.setCell ⟨bt, 16, none⟩ (.int .u64 x.off)).setCell ⟨bt, 17, none⟩ (.int .u64 x.size)) := ((Chg.refl _ _).setCell _ _ (.inl (by simp))).setCell _ _ (.inl (by simp))
    exact H1.out.upd hc (Tel.set_ch H1.out.box x) rfl H1.out.secs (by rw [← H1.out.m]; rfl) rfl rfl rfl rfl rfl H1.out.l3
  · clear x1 x2 y1 y2 z1 z2
    have H4 := Lib.hid hW
    clear hW
    go_wp2
    go_ret
    exact ⟨rfl, H4.out.chg, fun _ => ⟨_, _, H4.out⟩⟩
end Go.Proofs.YtnaonkbbecdboaaDoor
/- load: the teller's spans of symbols, and of a dyld's information. -/
namespace Go.Proofs.YtnaonkbbecdboaaDoor
open Go.RowKit
set_option maxRecDepth 100000

set_option maxHeartbeats 1000000 in
theorem spans_sy (l : List UInt8) (x y : Spn) (hs : ∀ v w, Env w → byteL.Rd w v l → Calls Tryd.prog 14 #[v] w (SpP w [x, y])) (v : Value) (w1 : World) (base bt bs : Nat) (p : TP) (t : Tel) (xs : List Seg) (w : World) (h : TInv w1 base bt bs p t xs w) (hg : Env w) (rd : byteL.Rd w v l) :
    Calls Tryd.prog 34 #[.pointer (some ⟨bt, 0, none⟩), .int .u32 2, v] w (TelSays w1 base bt bs 0 { p with m := { p.m with syO := x.off, syS := x.size, stO := y.off, stS := y.size } }) := by
  have hsp := (hs v w hg rd).mono (fun e w' h => sp_q (by simp) h)
  have H := Lib.hid (h)
  have Hg := Lib.hid hg
  have RD := Lib.hid rd
  have Hs := Lib.hid hs
  have HSP := Lib.hid hsp
  clear hg rd hs hsp
  clear h
  go_enter Tryd.func34, Tryd.ntmps34
  go_wp2_with fail
  refine (HSP.out).mono ?_
  rintro e W1 ⟨g, cap, rfl, hch, hge, hIn⟩
  have H1 := Lib.hid (H.out.pure hch)
  have HIN := Lib.hid hIn
  clear hIn
  clear hch
  have hx : spnL.In W1 g 0 x := HIN.out 0 (by simp)
  have hy : spnL.In W1 g 2 y := HIN.out 1 (by simp)
  obtain ⟨y1, y2⟩ := Tel.c_sy H1.out.box
  obtain ⟨y3, y4⟩ := Tel.c_st H1.out.box
  have z1 := H1.out.box.frozen 18
  have z2 := H1.out.box.frozen 19
  have z3 := H1.out.box.frozen 20
  have z4 := H1.out.box.frozen 21
  obtain ⟨x1, x2⟩ := Spn.both hx
  obtain ⟨x3, x4⟩ := Spn.both hy
  simp only [Nat.zero_add, Nat.reduceAdd] at x2 x4
  clear hx hy
  go_upto_region 8 with fail
  go_region
  refine with_exitT (Q := Exit.inBlock _ _ _ _) (fun W => TInv w1 base bt bs { p with m := { p.m with syO := x.off, syS := x.size, stO := y.off, stS := y.size } } { t with m := { t.m with syO := x.off, syS := x.size, stO := y.off, stS := y.size } } xs W) ?_ (fun W4 hW => ?_)
  · have hc : Chg [bt] W1 (((((W1.setCell ⟨bt, 18, none⟩ (.int .u64 x.off)).setCell ⟨bt, 19, none⟩ (.int .u64 x.size)).setCell ⟨bt, 20, none⟩ (.int .u64 y.off)).setCell ⟨bt, 21, none⟩ (.int .u64 y.size)).drew) := (((((Chg.refl _ _).setCell _ _ (.inl (by simp))).setCell _ _ (.inl (by simp))).setCell _ _ (.inl (by simp))).setCell _ _ (.inl (by simp))).drew
    exact H1.out.upd hc (Lay.Box.drew (Tel.set_st (Tel.set_sy H1.out.box x) y)) rfl H1.out.secs (by rw [← H1.out.m]; rfl) rfl rfl rfl rfl rfl H1.out.l3
  · clear x1 x2 x3 x4 y1 y2 y3 y4 z1 z2 z3 z4
    have H4 := Lib.hid hW
    clear hW
    go_wp2
    go_ret
    exact ⟨rfl, H4.out.chg, fun _ => ⟨_, _, H4.out⟩⟩
def fourQ (p : TP) (a b c d : Spn) : TP := { p with m := { p.m with rbO := a.off, rbS := a.size, bdO := b.off, bdS := b.size, wkO := c.off, wkS := c.size, lzO := d.off, lzS := d.size } }
set_option maxHeartbeats 4000000 in
theorem spans_5 (l : List UInt8) (k : Int) (hk : k = 34 ∨ k = 2147483682) (a b c d f : Spn) (hs : ∀ v w, Env w → byteL.Rd w v l → Calls Tryd.prog 14 #[v] w (SpP w [a, b, c, d, f])) (v : Value) (w1 : World) (base bt bs : Nat) (p : TP) (t : Tel) (xs : List Seg) (w : World) (h : TInv w1 base bt bs p t xs w) (hg : Env w) (rd : byteL.Rd w v l) :
    Calls Tryd.prog 34 #[.pointer (some ⟨bt, 0, none⟩), .int .u32 k, v] w (TelSays w1 base bt bs (trE (fourQ p a b c d) f) (trQ (fourQ p a b c d) f)) := by
  have e1 : (k == 2) = false := by rw [beq_eq_false_iff_ne]; omega
  have e2 : (k == 2147483700) = false := by rw [beq_eq_false_iff_ne]; omega
  have e3 : (k == 2147483699) = false := by rw [beq_eq_false_iff_ne]; omega
  clear hk
  have hsp := (hs v w hg rd).mono (fun e w' h => sp_q (by simp) h)
  have H := Lib.hid (h)
  have Hg := Lib.hid hg
  have RD := Lib.hid rd
  have Hs := Lib.hid hs
  have HSP := Lib.hid hsp
  clear hg rd hs hsp
  clear h
  go_enter Tryd.func34, Tryd.ntmps34
  go_wp2_with fail
  refine (HSP.out).mono ?_
  rintro e W1 ⟨g, cap, rfl, hch, hge, hIn⟩
  have H1 := Lib.hid (H.out.pure hch)
  have HIN := Lib.hid hIn
  clear hIn
  clear hch
  have hx : spnL.In W1 g 0 a := HIN.out 0 (by simp)
  have hy : spnL.In W1 g 2 b := HIN.out 1 (by simp)
  have hz : spnL.In W1 g 4 c := HIN.out 2 (by simp)
  have hu : spnL.In W1 g 6 d := HIN.out 3 (by simp)
  have hf : spnL.In W1 g 8 f := HIN.out 4 (by simp)
  obtain ⟨y1, y2⟩ := Tel.c_rb H1.out.box
  obtain ⟨y3, y4⟩ := Tel.c_bd H1.out.box
  obtain ⟨y5, y6⟩ := Tel.c_wk H1.out.box
  obtain ⟨y7, y8⟩ := Tel.c_lz H1.out.box
  have z1 := H1.out.box.frozen 6
  have z2 := H1.out.box.frozen 7
  have z3 := H1.out.box.frozen 8
  have z4 := H1.out.box.frozen 9
  have z5 := H1.out.box.frozen 10
  have z6 := H1.out.box.frozen 11
  have z7 := H1.out.box.frozen 12
  have z8 := H1.out.box.frozen 13
  obtain ⟨x1, x2⟩ := Spn.both hx
  obtain ⟨x3, x4⟩ := Spn.both hy
  obtain ⟨x5, x6⟩ := Spn.both hz
  obtain ⟨x7, x8⟩ := Spn.both hu
  simp only [Nat.zero_add, Nat.reduceAdd] at x2 x4 x6 x8
  have Hf := Lib.hid hf
  clear hf
  clear hx hy hz hu
  go_upto_region 5 with fail
  go_region
  have hbt : bt < g := Nat.lt_of_lt_of_le H.out.o2 (Nat.le_trans H.out.o4 hge)
  refine with_exitT (Q := Exit.then _ _ _ _) (fun W => TInv w1 base bt bs (fourQ p a b c d) { t with m := { t.m with rbO := a.off, rbS := a.size, bdO := b.off, bdS := b.size, wkO := c.off, wkS := c.size, lzO := d.off, lzS := d.size } } xs W ∧ spnL.In W g 8 f) ?_ (fun W4 hW => ?_)
  · have hc : Chg [bt] W1 (((((((((W1.setCell ⟨bt, 6, none⟩ (.int .u64 a.off)).setCell ⟨bt, 7, none⟩ (.int .u64 a.size)).setCell ⟨bt, 8, none⟩ (.int .u64 b.off)).setCell ⟨bt, 9, none⟩ (.int .u64 b.size)).setCell ⟨bt, 10, none⟩ (.int .u64 c.off)).setCell ⟨bt, 11, none⟩ (.int .u64 c.size)).setCell ⟨bt, 12, none⟩ (.int .u64 d.off)).setCell ⟨bt, 13, none⟩ (.int .u64 d.size)).drew) := (((((((((Chg.refl _ _).setCell _ _ (.inl (by simp))).setCell _ _ (.inl (by simp))).setCell _ _ (.inl (by simp))).setCell _ _ (.inl (by simp))).setCell _ _ (.inl (by simp))).setCell _ _ (.inl (by simp))).setCell _ _ (.inl (by simp))).setCell _ _ (.inl (by simp))).drew
    exact ⟨H1.out.upd hc (Lay.Box.drew (Tel.set_lz (Tel.set_wk (Tel.set_bd (Tel.set_rb H1.out.box a) b) c) d)) rfl H1.out.secs (by unfold fourQ; rw [← H1.out.m]; rfl) rfl rfl rfl rfl rfl H1.out.l3, Hf.out.frameS hc (by simp; omega)⟩
  · clear x1 x2 x3 x4 x5 x6 x7 x8 y1 y2 y3 y4 y5 y6 y7 y8 z1 z2 z3 z4 z5 z6 z7 z8
    have H4 := Lib.hid (hW.1)
    have F4 := Lib.hid (hW.2)
    clear hW
    go_wp2_with ((with_reducible refine Lay.ldL Tryd.tSpn f (F4.out) ?_ ?_); exact rfl; refine Hid.out ?_)
    refine Lib.hid ?_
    go_wp2_with fail
    refine (trie_any f w1 base bt bs _ _ xs W4 H4.out).mono ?_
    rintro e W5 ⟨rfl, hc, ht⟩
    have Hc := Lib.hid hc
    have Ht := Lib.hid ht
    clear hc ht
    go_wp2
    go_ret
    exact ⟨rfl, Hc.out, Ht.out⟩
end Go.Proofs.YtnaonkbbecdboaaDoor
/- Records: commands (printed by mkrecs4.sh). -/
namespace Go.Proofs.YtnaonkbbecdboaaDoor
open Go.RowKit
set_option maxRecDepth 100000

/-- A record Cmr. -/
structure Cmr where
  cmd : Int
  bytes : SlV
def Cmr.cells (s : Cmr) : List Value := [.int .u32 s.cmd, .slice s.bytes.a s.bytes.n s.bytes.cap]
abbrev Cmr.v (s : Cmr) : Value := .agg #[.int .u32 s.cmd, .slice s.bytes.a s.bytes.n s.bytes.cap]
/-- Its numbers are of their kinds. -/
def Cmr.wf (s : Cmr) : Prop := (Lit.int .u32 s.cmd).wf = true
def Cmr.zero : Cmr := ⟨0, ⟨none, 0, 0⟩⟩
def cmrL : Lay Cmr := ⟨2, Cmr.cells, Cmr.zero, fun _ => rfl, by decide, fun x u hu => by
  simp only [Cmr.cells, List.mem_cons, List.not_mem_nil, or_false] at hu
  rcases hu with rfl | rfl <;> rfl⟩
theorem Cmr.at {w : World} {b o : Nat} {s : Cmr} (h : cmrL.In w b o s) : w.cell? ⟨b, o, none⟩ = some (.int .u32 s.cmd) ∧ w.cell? ⟨b, o + 1, none⟩ = some (.slice s.bytes.a s.bytes.n s.bytes.cap) :=
  ⟨h 0 (by decide), h 1 (by decide)⟩
theorem Cmr.at0 {w : World} {b : Nat} {s : Cmr} (h : cmrL.In w b 0 s) : w.cell? ⟨b, 0, none⟩ = some (.int .u32 s.cmd) ∧ w.cell? ⟨b, 1, none⟩ = some (.slice s.bytes.a s.bytes.n s.bytes.cap) := by
  obtain ⟨h0, h1⟩ := Cmr.at h
  simp only [Nat.zero_add] at h1
  exact ⟨h0, h1⟩
theorem Cmr.boxed (w : World) (s : Cmr) (T : TypeId) : cmrL.In (w.alloc (.cells #[.int .u32 s.cmd, .slice s.bytes.a s.bytes.n s.bytes.cap] T)) w.heap.size 0 s := fun c _ => by
  rw [cell_of_heap (heap_alloc_eq w _), Nat.zero_add]
  exact List.getElem?_toArray ..
/-- A record in a block of its own: made, written, a field written. -/
theorem Cmr.box (w : World) (s : Cmr) (T : TypeId) : cmrL.Box (w.alloc (.cells #[.int .u32 s.cmd, .slice s.bytes.a s.bytes.n s.bytes.cap] T)) w.heap.size s := Lay.Box.of_alloc (L := cmrL) w s T
theorem Cmr.boxAt (w : World) (s : Cmr) (T : TypeId) {b : Nat} (hb : b = w.heap.size) : cmrL.Box (w.alloc (.cells #[.int .u32 s.cmd, .slice s.bytes.a s.bytes.n s.bytes.cap] T)) b s := by rw [hb]; exact Cmr.box w s T
theorem Cmr.put0 {w : World} {g : Nat} {y : Cmr} (h : cmrL.Box w g y) (s : Cmr) : cmrL.Box ((w.setCell ⟨g, 0, none⟩ (.int .u32 s.cmd)).setCell ⟨g, 1, none⟩ (.slice s.bytes.a s.bytes.n s.bytes.cap)) g s := Lay.Box.put h s
theorem Cmr.chg0 (w : World) (g : Nat) (s : Cmr) : Chg [g] w ((w.setCell ⟨g, 0, none⟩ (.int .u32 s.cmd)).setCell ⟨g, 1, none⟩ (.slice s.bytes.a s.bytes.n s.bytes.cap)) := Lay.setW_chg g s.cells w 0
theorem Cmr.set_cmd {w : World} {g : Nat} {s : Cmr} (h : cmrL.Box w g s) (x : Int) : cmrL.Box (w.setCell ⟨g, 0, none⟩ (.int .u32 x)) g { s with cmd := x } := Lay.Box.set h 0 _ _ rfl
theorem Cmr.set_bytes {w : World} {g : Nat} {s : Cmr} (h : cmrL.Box w g s) (x : SlV) : cmrL.Box (w.setCell ⟨g, 1, none⟩ (.slice x.a x.n x.cap)) g { s with bytes := x } := Lay.Box.set h 1 _ _ rfl
theorem Cmr.c_cmd {w : World} {b : Nat} {s : Cmr} (h : cmrL.Box w b s) : w.cell? ⟨b, 0, none⟩ = some (.int .u32 s.cmd) := by have := h.in 0 (by decide); rw [Nat.zero_add] at this; exact this
theorem Cmr.c_bytes {w : World} {b : Nat} {s : Cmr} (h : cmrL.Box w b s) : w.cell? ⟨b, 1, none⟩ = some (.slice s.bytes.a s.bytes.n s.bytes.cap) := by have := h.in 1 (by decide); rw [Nat.zero_add] at this; exact this
theorem Cmr.at0B {w : World} {b : Nat} {s : Cmr} (h : cmrL.Box w b s) : w.cell? ⟨b, 0, none⟩ = some (.int .u32 s.cmd) ∧ w.cell? ⟨b, 1, none⟩ = some (.slice s.bytes.a s.bytes.n s.bytes.cap) := Cmr.at0 h.in
end Go.Proofs.YtnaonkbbecdboaaDoor
/- load: kinds, Known; the teller's answer to a command, as plain data. -/
namespace Go.Proofs.YtnaonkbbecdboaaDoor
open Go.RowKit
set_option maxRecDepth 100000

/-- How a command says that an image depends (0: it does not). -/
def depK (c : Int) : Int := if c = 12 then 1 else if c = 2147483672 then 2 else if c = 2147483679 then 3 else if c = 2147483683 then 4 else 0
def kindsM (c : Int) : Option Value := if depK c = 0 then none else some (.int .i64 (depK c))
theorem Tryd.tKnd : Map.Ty (Map.intK .u32) Tryd.prog 97 (.int .i64 0) := ⟨25, 51, by kernel_rfl, by kernel_rfl, fun w => by kernel_rfl⟩
theorem kinds_any (w : World) : Calls Tryd.prog 30 #[] w fun e w' => ∃ b, e = .returned (.map (some b)) ∧ Map.Is (Map.intK .u32) w' b kindsM ∧ Chg [] w w' := by
  go_enter Tryd.func30, Tryd.ntmps30
  go_wp2_with ((with_reducible refine Map.mkL (Map.intK .u32) 97 ?_); intro W2 bq ebq cbq mbq; replace ebq := Lib.hid ebq; replace cbq := Lib.hid cbq; replace mbq := Lib.hid mbq; refine Hid.out ?_)
  refine Lib.hid ?_
  go_wp2_with ((with_reducible refine Map.insL Tryd.tKnd (mbq.out) 12 (.int .i64 1) ?_ ?_ ?_ ?_); exact rfl; exact rfl; exact rfl; intro W3 cW3 mW3; replace cW3 := Lib.hid cW3; replace mW3 := Lib.hid mW3; refine Hid.out ?_)
  refine Lib.hid ?_
  go_wp2_with ((with_reducible refine Map.insL Tryd.tKnd (mW3.out) 2147483672 (.int .i64 2) ?_ ?_ ?_ ?_); exact rfl; exact rfl; exact rfl; intro W4 cW4 mW4; replace cW4 := Lib.hid cW4; replace mW4 := Lib.hid mW4; refine Hid.out ?_)
  refine Lib.hid ?_
  go_wp2_with ((with_reducible refine Map.insL Tryd.tKnd (mW4.out) 2147483679 (.int .i64 3) ?_ ?_ ?_ ?_); exact rfl; exact rfl; exact rfl; intro W5 cW5 mW5; replace cW5 := Lib.hid cW5; replace mW5 := Lib.hid mW5; refine Hid.out ?_)
  refine Lib.hid ?_
  go_wp2_with ((with_reducible refine Map.insL Tryd.tKnd (mW5.out) 2147483683 (.int .i64 4) ?_ ?_ ?_ ?_); exact rfl; exact rfl; exact rfl; intro W6 cW6 mW6; replace cW6 := Lib.hid cW6; replace mW6 := Lib.hid mW6; refine Hid.out ?_)
  refine Lib.hid ?_
  go_wp2
  go_ret
  have hsz : w.heap.size ≤ bq := by rw [ebq.out]; exact Nat.le_refl _
  refine ⟨bq, rfl, mW6.out.congr (fun k => ?_), ((((cbq.out.new cW3.out hsz).new cW4.out hsz).new cW5.out hsz).new cW6.out hsz)⟩
  simp only [Map.put, kindsM, depK]
  by_cases h1 : k = 2147483683
  · simp [h1]
  by_cases h2 : k = 2147483679
  · simp [h2]
  by_cases h3 : k = 2147483672
  · simp [h3]
  by_cases h4 : k = 12
  · simp [h4]
  simp [h1, h2, h3, h4]
theorem Known_yes (c : Int) (h : ¬ leastF c = 0) (w : World) : Calls Tryd.prog 15 #[.int .u32 c] w fun e w' => e = .returned (.bool true) ∧ Chg [] w w' := by
  have := Known_any c w
  rw [decide_eq_false h] at this
  exact this
theorem Known_no (c : Int) (h : leastF c = 0) (w : World) : Calls Tryd.prog 15 #[.int .u32 c] w fun e w' => e = .returned (.bool false) ∧ Chg [] w w' := by
  have := Known_any c w
  rw [decide_eq_true h] at this
  exact this
def keyC (c : Int) : Int := if c = 2147483682 then 34 else c
/-- Why a command is not taken in (0: it is). -/
def tE (p : TP) (l : List UInt8) : Int :=
  if ¬ opE l = 0 then 3
  else if leastF (n4 l 0) = 0 then (if 2147483648 ≤ n4 l 0 then 7 else 0)
  else if n4 l 0 = 25 then sgtE p l
  else if ¬ depK (n4 l 0) = 0 then depE p l
  else if n4 l 0 = 13 then (if nameE l = 0 then (if p.seen 13 = true then 21 else 0) else nameE l)
  else if n4 l 0 = 2147483699 then trE p (spAt l 0)
  else if p.seen (keyC (n4 l 0)) = true then 21
  else if n4 l 0 = 34 ∨ n4 l 0 = 2147483682 then trE p (spAt l 4)
  else 0
/-- What was told, behind a command that is taken in. -/
def tS (p : TP) (l : List UInt8) : TP :=
  if leastF (n4 l 0) = 0 then p
  else if n4 l 0 = 25 then { p with segs := p.segs ++ [segP l], n := p.n + n4 l 64 }
  else if ¬ depK (n4 l 0) = 0 then { p with deps := p.deps ++ [⟨nameV l, depK (n4 l 0)⟩] }
  else if n4 l 0 = 13 then { seeN p 13 with m := { p.m with name := nameV l } }
  else if n4 l 0 = 2147483699 then trQ p (spAt l 0)
  else if n4 l 0 = 2147483688 then { seeN p 2147483688 with m := { p.m with entry := n8 l 8, has := true } }
  else if n4 l 0 = 2 then { seeN p 2 with m := { p.m with syO := n4 l 8, syS := (n4 l 12 : Int) * 16, stO := n4 l 16, stS := n4 l 20 } }
  else if n4 l 0 = 2147483700 then { seeN p 2147483700 with m := { p.m with chO := n4 l 8, chS := n4 l 12 } }
  else trQ (fourQ (seeN p 34) (spAt l 0) (spAt l 1) (spAt l 2) (spAt l 3)) (spAt l 4)
/-- The known commands. -/
theorem known_cases {c : Int} (h : ¬ leastF c = 0) : c = 25 ∨ c = 12 ∨ c = 2147483672 ∨ c = 2147483679 ∨ c = 2147483683 ∨ c = 13 ∨ c = 2147483699 ∨ c = 2147483688 ∨ c = 2 ∨ c = 2147483700 ∨ c = 34 ∨ c = 2147483682 := by
  unfold leastF at h
  by_cases h1 : c = 25
  · exact .inl h1
  rw [if_neg h1] at h
  by_cases h2 : c = 34 ∨ c = 2147483682
  · omega
  rw [if_neg h2] at h
  by_cases h3 : c = 2 ∨ c = 12 ∨ c = 13 ∨ c = 2147483672 ∨ c = 2147483679 ∨ c = 2147483683 ∨ c = 2147483688
  · omega
  rw [if_neg h3] at h
  by_cases h4 : c = 2147483699 ∨ c = 2147483700
  · omega
  rw [if_neg h4] at h
  exact absurd rfl h
/-- The highest bit of a command. -/
theorem top_bit (c : Nat) (hc : c < 4294967296) : bits .and .u32 (c : Int) 2147483648 = if 2147483648 ≤ c then 2147483648 else 0 := by
  show IntKind.u32.wrap ((BitVec.ofInt 32 (c : Int) &&& BitVec.ofInt 32 2147483648).toNat : Int) = _
  have e1 : (BitVec.ofInt 32 (c : Int)).toNat = c := by
    rw [BitVec.toNat_ofInt]
    simp
    omega
  have e2 : (BitVec.ofInt 32 2147483648).toNat = 2 ^ 31 := by decide
  have e3 : c.testBit 31 = decide (2147483648 ≤ c) := by
    rw [Nat.testBit_eq_decide_div_mod_eq]
    by_cases h : 2147483648 ≤ c
    · rw [decide_eq_true h, decide_eq_true_eq]; omega
    · rw [decide_eq_false h, decide_eq_false_iff_not]; omega
  have e4 : c &&& 2 ^ 31 = if 2147483648 ≤ c then 2 ^ 31 else 0 := by
    apply Nat.eq_of_testBit_eq
    intro i
    rw [Nat.testBit_and, Nat.testBit_two_pow]
    by_cases hi : 31 = i
    · subst hi
      rw [e3, decide_eq_true rfl, Bool.and_true]
      by_cases h : 2147483648 ≤ c
      · rw [if_pos h, decide_eq_true h, Nat.testBit_two_pow]; rfl
      · rw [if_neg h, decide_eq_false h, Nat.zero_testBit]
    · rw [decide_eq_false hi, Bool.and_false]
      by_cases h : 2147483648 ≤ c
      · rw [if_pos h, Nat.testBit_two_pow, decide_eq_false hi]
      · rw [if_neg h, Nat.zero_testBit]
  rw [BitVec.toNat_and, e1, e2, e4]
  by_cases h : 2147483648 ≤ c
  · rw [if_pos h, if_pos h]; decide
  · rw [if_neg h, if_neg h]; decide
theorem req_bit (c : Nat) (hc : c < 4294967296) : (bits .and .u32 (c : Int) 2147483648 != 0) = decide (2147483648 ≤ c) := by
  rw [top_bit c hc]
  by_cases h : 2147483648 ≤ c
  · rw [if_pos h, decide_eq_true h]; rfl
  · rw [if_neg h, decide_eq_false h]; rfl
end Go.Proofs.YtnaonkbbecdboaaDoor
