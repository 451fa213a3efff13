/- Lemmas, laid together: part 21 of 38. Conditions: none but each lemma's own. -/
import Derived.Test.YtgjlgamlmmjdpaaDoorJ4
import Derived.Test.YtgjlgamlmmjdpaaDoorJ20
import Derived.BigRegion
import Derived.Test.YtgjlgamlmmjdpaaDoorJ3
/- A record is stored where one stands: a law for the walk. No program in sight. -/
namespace Go.Proofs.YtgjlgamlmmjdpaaDoor
open Go.RowKit
set_option maxRecDepth 100000
section
variable {α : Type} {L : Lay α} {P : Program} {T : TypeId} {ops : Array Oper} {rest : List Oper} {a : Act} {Q : Exit → Act → World → Prop} {w : World}
theorem stAt (hT : Lay.Ty L P T) {p s : Operand} {ty : TypeId} {pos : String} {after : Array Edge} {b off : Nat} {y : α} (x : α) (hb : L.In w b off y) (hf : ∀ j, w.frozen? ⟨b, j, none⟩ = false) (hp : a.eval p = .pointer (some ⟨b, off, none⟩)) (hs : a.eval s = .agg (L.f x).toArray)
    (h : ∀ W, W = Lay.setW w b off (L.f x) → wpList P ops Q rest a W) : wpList P ops Q (⟨none, .store T p s, ty, pos, after, none⟩ :: rest) a w := by
  refine wpList_plain rfl fun K hK => ?_
  unfold Oper.wp execOp
  have := h _ rfl
  have hr := Lay.run_storeCells (P := P) (g := b) (L.f x) w off 0 (L.one x) (fun c hc => by
    rw [Nat.add_zero]
    have := hb c (by rw [← L.len x]; exact hc)
    rw [this]
    exact ⟨_, List.getElem?_eq_getElem (by rw [L.len]; rw [L.len] at hc; exact hc)⟩) hf
  simp [Instr.storeAt, Instr.sureAddr, hp, hs, storeVar, Lay.run_size hT, Value.cells, L.len, hr]
  exact hK _ _ this
end
end Go.Proofs.YtgjlgamlmmjdpaaDoor
/- load: the teller's trie. -/
namespace Go.Proofs.YtgjlgamlmmjdpaaDoor
open Go.RowKit
set_option maxRecDepth 100000

def trE (p : TP) (x : Spn) : Int := if x.size = 0 then 0 else if 0 < p.m.trS then 21 else 0
def trQ (p : TP) (x : Spn) : TP := if x.size = 0 then p else { p with m := { p.m with trO := x.off, trS := x.size } }
theorem Tel.in_tr {w : World} {g : Nat} {t : Tel} (h : telL.Box w g t) : spnL.In w g 14 ⟨t.m.trO, t.m.trS⟩ := fun c hc => by
  have h1 := Tel.c_tr h
  have : c = 0 ∨ c = 1 := by have : spnL.n = 2 := rfl; omega
  rcases this with rfl | rfl
  · exact h1.1
  · exact h1.2
set_option maxHeartbeats 4000000 in
theorem trie_any (x : Spn) (w1 : World) (base bt bs : Nat) (p : TP) (t : Tel) (xs : List Seg) (w : World) (h : TInv w1 base bt bs p t xs w) :
    Calls Tryd.prog 42 #[.pointer (some ⟨bt, 0, none⟩), spnL.val x] w (TelSays w1 base bt bs (trE p x) (trQ p x)) := by
  have htr : t.m.trS = p.m.trS := by rw [← h.m]; rfl
  have H := Lib.hid (h)
  clear h
  unfold trE trQ
  by_cases h0 : x.size = 0
  · rw [if_pos h0, if_pos h0]
    have d1 : (x.size == 0) = true := by rw [h0]; rfl
    have Htr := Lib.hid htr
    have H0 := Lib.hid h0
    clear htr h0
    go_enter Tryd.func42, Tryd.ntmps42
    go_wp2_with ((with_reducible refine Lay.bxL (L := spnL) 35 x ?_ ?_); exact rfl; intro W b eb cb xb; replace eb := Lib.hid eb; replace cb := Lib.hid cb; replace xb := Lib.hid xb; refine Hid.out ?_)
    refine Lib.hid ?_
    have H1 := Lib.hid (H.out.pure cb.out)
    have y1 := Spn.c_size xb.out
    go_wp2
    go_ret
    exact ⟨rfl, H1.out.chg, fun _ => ⟨_, _, H1.out⟩⟩
  · rw [if_neg h0, if_neg h0]
    have d1 : (x.size == 0) = false := by rw [beq_eq_false_iff_ne]; exact h0
    by_cases ht : 0 < p.m.trS
    · rw [if_pos ht]
      have d2 : decide ((0 : Int) < t.m.trS) = true := by rw [htr]; exact decide_eq_true ht
      have Htr := Lib.hid htr
      have H0 := Lib.hid h0
      have Ht := Lib.hid ht
      clear htr h0 ht
      go_enter Tryd.func42, Tryd.ntmps42
      go_wp2_with ((with_reducible refine Lay.bxL (L := spnL) 35 x ?_ ?_); exact rfl; intro W b eb cb xb; replace eb := Lib.hid eb; replace cb := Lib.hid cb; replace xb := Lib.hid xb; refine Hid.out ?_)
      refine Lib.hid ?_
      have H1 := Lib.hid (H.out.pure cb.out)
      have y1 := Spn.c_size xb.out
      have y2 := (Tel.c_tr H1.out.box).2
      go_wp2
      go_ret
      exact ⟨rfl, H1.out.chg, fun h => absurd h (by decide)⟩
    · rw [if_neg ht]
      have d2 : decide ((0 : Int) < t.m.trS) = false := by rw [htr]; exact decide_eq_false ht
      have Htr := Lib.hid htr
      have H0 := Lib.hid h0
      have Ht := Lib.hid ht
      clear htr h0 ht
      go_enter Tryd.func42, Tryd.ntmps42
      go_wp2_with ((with_reducible refine Lay.bxL (L := spnL) 35 x ?_ ?_); exact rfl; intro W b eb cb xb; replace eb := Lib.hid eb; replace cb := Lib.hid cb; replace xb := Lib.hid xb; refine Hid.out ?_)
      refine Lib.hid ?_
      have H1 := Lib.hid (H.out.pure cb.out)
      have y1 := Spn.c_size xb.out
      have y2 := (Tel.c_tr H1.out.box).2
      go_wp2_with ((with_reducible refine Lay.ldL Tryd.tSpn x (xb.out.in) ?_ ?_); exact rfl; refine Hid.out ?_)
      refine Lib.hid ?_
      go_wp2_with ((with_reducible refine stAt Tryd.tSpn x (Tel.in_tr H1.out.box) H1.out.box.frozen ?_ ?_ ?_); exact rfl; exact rfl; intro W3 eW3; replace eW3 := Lib.hid eW3; refine Hid.out ?_)
      refine Lib.hid ?_
      have hc : Chg [bt] W W3 := by rw [eW3.out]; exact Lay.setW_chg _ _ _ _
      have hb : telL.Box W3 bt { t with m := { t.m with trO := x.off, trS := x.size } } := by rw [eW3.out]; exact Tel.set_tr H1.out.box x
      have hq : ({ t.m with trO := x.off, trS := x.size } : Img).bare = { p.m with trO := x.off, trS := x.size } := by rw [← H.out.m]; rfl
      have hf := H1.out.upd hc hb (q := { p with m := { p.m with trO := x.off, trS := x.size } }) rfl H1.out.secs hq rfl rfl rfl rfl rfl H1.out.l3
      have Hf := Lib.hid hf
      clear hf
      clear hc hb hq y1 y2
      go_wp2
      go_ret
      exact ⟨rfl, Hf.out.chg, fun _ => ⟨_, _, Hf.out⟩⟩
end Go.Proofs.YtgjlgamlmmjdpaaDoor
/- load: the teller's spans. -/
namespace Go.Proofs.YtgjlgamlmmjdpaaDoor
open Go.RowKit
set_option maxRecDepth 100000

/-- What a call of Spans hands back, its row taken apart. -/
def SpQ (w : World) (ls : List Spn) (e : Ending) (w' : World) : Prop := ∃ g cap, e = .returned (.tuple #[.slice (some ⟨g, 0, none⟩) ls.length cap, .int .i64 0]) ∧ Chg [] w w' ∧ w.heap.size ≤ g ∧ ∀ j, j < ls.length → spnL.In w' g (j * 2) (ls.getD j .zero)
theorem sp_q {w w' : World} {ls : List Spn} {e : Ending} (hne : ls.length ≠ 0) (h : SpP w ls e w') : SpQ w ls e w' := by
  obtain ⟨⟨a, n, cap⟩, rfl, hb, hc⟩ := h
  obtain ⟨g, cap', hsl, hge, _, _, _, _, _, hIn⟩ := hb.at hne
  have hsl' : Value.slice a n cap = .slice (some ⟨g, 0, none⟩) ls.length cap' := hsl
  exact ⟨g, cap', by rw [← hsl'], hc, hge, hIn⟩
theorem Spn.both {w : World} {g o : Nat} {x : Spn} (h : spnL.In w g o x) : w.cell? ⟨g, o, none⟩ = some (.int .u64 x.off) ∧ w.cell? ⟨g, o + 1, none⟩ = some (.int .u64 x.size) := Spn.at h
set_option maxHeartbeats 4000000 in
theorem spans_tr (l : List UInt8) (x : Spn) (hs : ∀ v w, Env w → byteL.Rd w v l → Calls Tryd.prog 10 #[v] w (SpP w [x])) (v : Value) (w1 : World) (base bt bs : Nat) (p : TP) (t : Tel) (xs : List Seg) (w : World) (h : TInv w1 base bt bs p t xs w) (hg : Env w) (rd : byteL.Rd w v l) :
    Calls Tryd.prog 29 #[.pointer (some ⟨bt, 0, none⟩), .int .u32 2147483699, v] w (TelSays w1 base bt bs (trE p x) (trQ p x)) := by
  have hsp := (hs v w hg rd).mono (fun e w' h => sp_q (by simp) h)
  have H := Lib.hid (h)
  have Hg := Lib.hid hg
  have RD := Lib.hid rd
  have Hs := Lib.hid hs
  have HSP := Lib.hid hsp
  clear hg rd hs hsp
  clear h
  go_enter Tryd.func29, Tryd.ntmps29
  go_wp2_with fail
  refine (HSP.out).mono ?_
  rintro e W1 ⟨g, cap, rfl, hch, _, hIn⟩
  have H1 := Lib.hid (H.out.pure hch)
  have HIN := Lib.hid hIn
  clear hIn
  clear hch
  have hx : spnL.In W1 g 0 x := HIN.out 0 (by simp)
  have Hx := Lib.hid hx
  clear hx
  go_wp2_with ((with_reducible refine Lay.ldL Tryd.tSpn x (Hx.out) ?_ ?_); exact rfl; refine Hid.out ?_)
  refine Lib.hid ?_
  go_wp2_with fail
  refine (trie_any x w1 base bt bs p t xs W1 H1.out).mono ?_
  rintro e W2 ⟨rfl, hc, ht⟩
  have Hc := Lib.hid hc
  have Ht := Lib.hid ht
  clear hc ht
  go_wp2
  go_ret
  exact ⟨rfl, Hc.out, Ht.out⟩
set_option maxHeartbeats 4000000 in
theorem spans_ch (l : List UInt8) (x : Spn) (hs : ∀ v w, Env w → byteL.Rd w v l → Calls Tryd.prog 10 #[v] w (SpP w [x])) (v : Value) (w1 : World) (base bt bs : Nat) (p : TP) (t : Tel) (xs : List Seg) (w : World) (h : TInv w1 base bt bs p t xs w) (hg : Env w) (rd : byteL.Rd w v l) :
    Calls Tryd.prog 29 #[.pointer (some ⟨bt, 0, none⟩), .int .u32 2147483700, v] w (TelSays w1 base bt bs 0 { p with m := { p.m with chO := x.off, chS := x.size } }) := by
  have hsp := (hs v w hg rd).mono (fun e w' h => sp_q (by simp) h)
  have H := Lib.hid (h)
  have Hg := Lib.hid hg
  have RD := Lib.hid rd
  have Hs := Lib.hid hs
  have HSP := Lib.hid hsp
  clear hg rd hs hsp
  clear h
  go_enter Tryd.func29, Tryd.ntmps29
  go_wp2_with fail
  refine (HSP.out).mono ?_
  rintro e W1 ⟨g, cap, rfl, hch, _, hIn⟩
  have H1 := Lib.hid (H.out.pure hch)
  have HIN := Lib.hid hIn
  clear hIn
  clear hch
  have hx : spnL.In W1 g 0 x := HIN.out 0 (by simp)
  have Hx := Lib.hid hx
  clear hx
  have y1 := Tel.c_ch H1.out.box
  obtain ⟨y1, y2⟩ := y1
  have z1 := H1.out.box.frozen 16
  have z2 := H1.out.box.frozen 17
  have x1 := Spn.both Hx.out
  obtain ⟨x1, x2⟩ := x1
  simp only [Nat.zero_add] at x2
  go_upto_region 13 with fail
  refine Lay.with_world (fun W => TInv w1 base bt bs { p with m := { p.m with chO := x.off, chS := x.size } } { t with m := { t.m with chO := x.off, chS := x.size } } xs W) ?_ (fun W4 hW => ?_)
  · have hc : Chg [bt] W1 ((W1.setCell ⟨bt, 16, none⟩ (.int .u64 x.off)).setCell ⟨bt, 17, none⟩ (.int .u64 x.size)) := ((Chg.refl _ _).setCell _ _ (.inl (by simp))).setCell _ _ (.inl (by simp))
    exact H1.out.upd hc (Tel.set_ch H1.out.box x) rfl H1.out.secs (by rw [← H1.out.m]; rfl) rfl rfl rfl rfl rfl H1.out.l3
  · clear x1 x2 y1 y2 z1 z2
    have H4 := Lib.hid hW
    clear hW
    go_wp2
    go_ret
    exact ⟨rfl, H4.out.chg, fun _ => ⟨_, _, H4.out⟩⟩
end Go.Proofs.YtgjlgamlmmjdpaaDoor
/- load: the teller's spans of symbols, and of a dyld's information. -/
namespace Go.Proofs.YtgjlgamlmmjdpaaDoor
open Go.RowKit
set_option maxRecDepth 100000

set_option maxHeartbeats 1000000 in
theorem spans_sy (l : List UInt8) (x y : Spn) (hs : ∀ v w, Env w → byteL.Rd w v l → Calls Tryd.prog 10 #[v] w (SpP w [x, y])) (v : Value) (w1 : World) (base bt bs : Nat) (p : TP) (t : Tel) (xs : List Seg) (w : World) (h : TInv w1 base bt bs p t xs w) (hg : Env w) (rd : byteL.Rd w v l) :
    Calls Tryd.prog 29 #[.pointer (some ⟨bt, 0, none⟩), .int .u32 2, v] w (TelSays w1 base bt bs 0 { p with m := { p.m with syO := x.off, syS := x.size, stO := y.off, stS := y.size } }) := by
  have hsp := (hs v w hg rd).mono (fun e w' h => sp_q (by simp) h)
  have H := Lib.hid (h)
  have Hg := Lib.hid hg
  have RD := Lib.hid rd
  have Hs := Lib.hid hs
  have HSP := Lib.hid hsp
  clear hg rd hs hsp
  clear h
  go_enter Tryd.func29, Tryd.ntmps29
  go_wp2_with fail
  refine (HSP.out).mono ?_
  rintro e W1 ⟨g, cap, rfl, hch, hge, hIn⟩
  have H1 := Lib.hid (H.out.pure hch)
  have HIN := Lib.hid hIn
  clear hIn
  clear hch
  have hx : spnL.In W1 g 0 x := HIN.out 0 (by simp)
  have hy : spnL.In W1 g 2 y := HIN.out 1 (by simp)
  obtain ⟨y1, y2⟩ := Tel.c_sy H1.out.box
  obtain ⟨y3, y4⟩ := Tel.c_st H1.out.box
  have z1 := H1.out.box.frozen 18
  have z2 := H1.out.box.frozen 19
  have z3 := H1.out.box.frozen 20
  have z4 := H1.out.box.frozen 21
  obtain ⟨x1, x2⟩ := Spn.both hx
  obtain ⟨x3, x4⟩ := Spn.both hy
  simp only [Nat.zero_add, Nat.reduceAdd] at x2 x4
  clear hx hy
  go_upto_region 8 with fail
  go_region
  refine with_exitT (Q := Exit.inBlock _ _ _ _) (fun W => TInv w1 base bt bs { p with m := { p.m with syO := x.off, syS := x.size, stO := y.off, stS := y.size } } { t with m := { t.m with syO := x.off, syS := x.size, stO := y.off, stS := y.size } } xs W) ?_ (fun W4 hW => ?_)
  · have hc : Chg [bt] W1 (((((W1.setCell ⟨bt, 18, none⟩ (.int .u64 x.off)).setCell ⟨bt, 19, none⟩ (.int .u64 x.size)).setCell ⟨bt, 20, none⟩ (.int .u64 y.off)).setCell ⟨bt, 21, none⟩ (.int .u64 y.size)).drew) := (((((Chg.refl _ _).setCell _ _ (.inl (by simp))).setCell _ _ (.inl (by simp))).setCell _ _ (.inl (by simp))).setCell _ _ (.inl (by simp))).drew
    exact H1.out.upd hc (Lay.Box.drew (Tel.set_st (Tel.set_sy H1.out.box x) y)) rfl H1.out.secs (by rw [← H1.out.m]; rfl) rfl rfl rfl rfl rfl H1.out.l3
  · clear x1 x2 x3 x4 y1 y2 y3 y4 z1 z2 z3 z4
    have H4 := Lib.hid hW
    clear hW
    go_wp2
    go_ret
    exact ⟨rfl, H4.out.chg, fun _ => ⟨_, _, H4.out⟩⟩
def fourQ (p : TP) (a b c d : Spn) : TP := { p with m := { p.m with rbO := a.off, rbS := a.size, bdO := b.off, bdS := b.size, wkO := c.off, wkS := c.size, lzO := d.off, lzS := d.size } }
set_option maxHeartbeats 4000000 in
theorem spans_5 (l : List UInt8) (k : Int) (hk : k = 34 ∨ k = 2147483682) (a b c d f : Spn) (hs : ∀ v w, Env w → byteL.Rd w v l → Calls Tryd.prog 10 #[v] w (SpP w [a, b, c, d, f])) (v : Value) (w1 : World) (base bt bs : Nat) (p : TP) (t : Tel) (xs : List Seg) (w : World) (h : TInv w1 base bt bs p t xs w) (hg : Env w) (rd : byteL.Rd w v l) :
    Calls Tryd.prog 29 #[.pointer (some ⟨bt, 0, none⟩), .int .u32 k, v] w (TelSays w1 base bt bs (trE (fourQ p a b c d) f) (trQ (fourQ p a b c d) f)) := by
  have e1 : (k == 2) = false := by rw [beq_eq_false_iff_ne]; omega
  have e2 : (k == 2147483700) = false := by rw [beq_eq_false_iff_ne]; omega
  have e3 : (k == 2147483699) = false := by rw [beq_eq_false_iff_ne]; omega
  clear hk
  have hsp := (hs v w hg rd).mono (fun e w' h => sp_q (by simp) h)
  have H := Lib.hid (h)
  have Hg := Lib.hid hg
  have RD := Lib.hid rd
  have Hs := Lib.hid hs
  have HSP := Lib.hid hsp
  clear hg rd hs hsp
  clear h
  go_enter Tryd.func29, Tryd.ntmps29
  go_wp2_with fail
  refine (HSP.out).mono ?_
  rintro e W1 ⟨g, cap, rfl, hch, hge, hIn⟩
  have H1 := Lib.hid (H.out.pure hch)
  have HIN := Lib.hid hIn
  clear hIn
  clear hch
  have hx : spnL.In W1 g 0 a := HIN.out 0 (by simp)
  have hy : spnL.In W1 g 2 b := HIN.out 1 (by simp)
  have hz : spnL.In W1 g 4 c := HIN.out 2 (by simp)
  have hu : spnL.In W1 g 6 d := HIN.out 3 (by simp)
  have hf : spnL.In W1 g 8 f := HIN.out 4 (by simp)
  obtain ⟨y1, y2⟩ := Tel.c_rb H1.out.box
  obtain ⟨y3, y4⟩ := Tel.c_bd H1.out.box
  obtain ⟨y5, y6⟩ := Tel.c_wk H1.out.box
  obtain ⟨y7, y8⟩ := Tel.c_lz H1.out.box
  have z1 := H1.out.box.frozen 6
  have z2 := H1.out.box.frozen 7
  have z3 := H1.out.box.frozen 8
  have z4 := H1.out.box.frozen 9
  have z5 := H1.out.box.frozen 10
  have z6 := H1.out.box.frozen 11
  have z7 := H1.out.box.frozen 12
  have z8 := H1.out.box.frozen 13
  obtain ⟨x1, x2⟩ := Spn.both hx
  obtain ⟨x3, x4⟩ := Spn.both hy
  obtain ⟨x5, x6⟩ := Spn.both hz
  obtain ⟨x7, x8⟩ := Spn.both hu
  simp only [Nat.zero_add, Nat.reduceAdd] at x2 x4 x6 x8
  have Hf := Lib.hid hf
  clear hf
  clear hx hy hz hu
  go_upto_region 5 with fail
  go_region
  have hbt : bt < g := Nat.lt_of_lt_of_le H.out.o2 (Nat.le_trans H.out.o4 hge)
  refine with_exitT (Q := Exit.then _ _ _ _) (fun W => TInv w1 base bt bs (fourQ p a b c d) { t with m := { t.m with rbO := a.off, rbS := a.size, bdO := b.off, bdS := b.size, wkO := c.off, wkS := c.size, lzO := d.off, lzS := d.size } } xs W ∧ spnL.In W g 8 f) ?_ (fun W4 hW => ?_)
  · have hc : Chg [bt] W1 (((((((((W1.setCell ⟨bt, 6, none⟩ (.int .u64 a.off)).setCell ⟨bt, 7, none⟩ (.int .u64 a.size)).setCell ⟨bt, 8, none⟩ (.int .u64 b.off)).setCell ⟨bt, 9, none⟩ (.int .u64 b.size)).setCell ⟨bt, 10, none⟩ (.int .u64 c.off)).setCell ⟨bt, 11, none⟩ (.int .u64 c.size)).setCell ⟨bt, 12, none⟩ (.int .u64 d.off)).setCell ⟨bt, 13, none⟩ (.int .u64 d.size)).drew) := (((((((((Chg.refl _ _).setCell _ _ (.inl (by simp))).setCell _ _ (.inl (by simp))).setCell _ _ (.inl (by simp))).setCell _ _ (.inl (by simp))).setCell _ _ (.inl (by simp))).setCell _ _ (.inl (by simp))).setCell _ _ (.inl (by simp))).setCell _ _ (.inl (by simp))).drew
    exact ⟨H1.out.upd hc (Lay.Box.drew (Tel.set_lz (Tel.set_wk (Tel.set_bd (Tel.set_rb H1.out.box a) b) c) d)) rfl H1.out.secs (by unfold fourQ; rw [← H1.out.m]; rfl) rfl rfl rfl rfl rfl H1.out.l3, Hf.out.frameS hc (by simp; omega)⟩
  · clear x1 x2 x3 x4 x5 x6 x7 x8 y1 y2 y3 y4 y5 y6 y7 y8 z1 z2 z3 z4 z5 z6 z7 z8
    have H4 := Lib.hid (hW.1)
    have F4 := Lib.hid (hW.2)
    clear hW
    go_wp2_with ((with_reducible refine Lay.ldL Tryd.tSpn f (F4.out) ?_ ?_); exact rfl; refine Hid.out ?_)
    refine Lib.hid ?_
    go_wp2_with fail
    refine (trie_any f w1 base bt bs _ _ xs W4 H4.out).mono ?_
    rintro e W5 ⟨rfl, hc, ht⟩
    have Hc := Lib.hid hc
    have Ht := Lib.hid ht
    clear hc ht
    go_wp2
    go_ret
    exact ⟨rfl, Hc.out, Ht.out⟩
end Go.Proofs.YtgjlgamlmmjdpaaDoor
/- Records: commands (printed by mkrecs4.sh). -/
namespace Go.Proofs.YtgjlgamlmmjdpaaDoor
open Go.RowKit
set_option maxRecDepth 100000

/-- A record Cmr. -/
structure Cmr where
  cmd : Int
  bytes : SlV
def Cmr.cells (s : Cmr) : List Value := [.int .u32 s.cmd, .slice s.bytes.a s.bytes.n s.bytes.cap]
abbrev Cmr.v (s : Cmr) : Value := .agg #[.int .u32 s.cmd, .slice s.bytes.a s.bytes.n s.bytes.cap]
/-- Its numbers are of their kinds. -/
def Cmr.wf (s : Cmr) : Prop := (Lit.int .u32 s.cmd).wf = true
def Cmr.zero : Cmr := ⟨0, ⟨none, 0, 0⟩⟩
def cmrL : Lay Cmr := ⟨2, Cmr.cells, Cmr.zero, fun _ => rfl, by decide, fun x u hu => by
  simp only [Cmr.cells, List.mem_cons, List.not_mem_nil, or_false] at hu
  rcases hu with rfl | rfl <;> rfl⟩
theorem Cmr.at {w : World} {b o : Nat} {s : Cmr} (h : cmrL.In w b o s) : w.cell? ⟨b, o, none⟩ = some (.int .u32 s.cmd) ∧ w.cell? ⟨b, o + 1, none⟩ = some (.slice s.bytes.a s.bytes.n s.bytes.cap) :=
  ⟨h 0 (by decide), h 1 (by decide)⟩
theorem Cmr.at0 {w : World} {b : Nat} {s : Cmr} (h : cmrL.In w b 0 s) : w.cell? ⟨b, 0, none⟩ = some (.int .u32 s.cmd) ∧ w.cell? ⟨b, 1, none⟩ = some (.slice s.bytes.a s.bytes.n s.bytes.cap) := by
  obtain ⟨h0, h1⟩ := Cmr.at h
  simp only [Nat.zero_add] at h1
  exact ⟨h0, h1⟩
theorem Cmr.boxed (w : World) (s : Cmr) (T : TypeId) : cmrL.In (w.alloc (.cells #[.int .u32 s.cmd, .slice s.bytes.a s.bytes.n s.bytes.cap] T)) w.heap.size 0 s := fun c _ => by
  rw [cell_of_heap (heap_alloc_eq w _), Nat.zero_add]
  exact List.getElem?_toArray ..
/-- A record in a block of its own: made, written, a field written. -/
theorem Cmr.box (w : World) (s : Cmr) (T : TypeId) : cmrL.Box (w.alloc (.cells #[.int .u32 s.cmd, .slice s.bytes.a s.bytes.n s.bytes.cap] T)) w.heap.size s := Lay.Box.of_alloc (L := cmrL) w s T
theorem Cmr.boxAt (w : World) (s : Cmr) (T : TypeId) {b : Nat} (hb : b = w.heap.size) : cmrL.Box (w.alloc (.cells #[.int .u32 s.cmd, .slice s.bytes.a s.bytes.n s.bytes.cap] T)) b s := by rw [hb]; exact Cmr.box w s T
theorem Cmr.put0 {w : World} {g : Nat} {y : Cmr} (h : cmrL.Box w g y) (s : Cmr) : cmrL.Box ((w.setCell ⟨g, 0, none⟩ (.int .u32 s.cmd)).setCell ⟨g, 1, none⟩ (.slice s.bytes.a s.bytes.n s.bytes.cap)) g s := Lay.Box.put h s
theorem Cmr.chg0 (w : World) (g : Nat) (s : Cmr) : Chg [g] w ((w.setCell ⟨g, 0, none⟩ (.int .u32 s.cmd)).setCell ⟨g, 1, none⟩ (.slice s.bytes.a s.bytes.n s.bytes.cap)) := Lay.setW_chg g s.cells w 0
theorem Cmr.set_cmd {w : World} {g : Nat} {s : Cmr} (h : cmrL.Box w g s) (x : Int) : cmrL.Box (w.setCell ⟨g, 0, none⟩ (.int .u32 x)) g { s with cmd := x } := Lay.Box.set h 0 _ _ rfl
theorem Cmr.set_bytes {w : World} {g : Nat} {s : Cmr} (h : cmrL.Box w g s) (x : SlV) : cmrL.Box (w.setCell ⟨g, 1, none⟩ (.slice x.a x.n x.cap)) g { s with bytes := x } := Lay.Box.set h 1 _ _ rfl
theorem Cmr.c_cmd {w : World} {b : Nat} {s : Cmr} (h : cmrL.Box w b s) : w.cell? ⟨b, 0, none⟩ = some (.int .u32 s.cmd) := by have := h.in 0 (by decide); rw [Nat.zero_add] at this; exact this
theorem Cmr.c_bytes {w : World} {b : Nat} {s : Cmr} (h : cmrL.Box w b s) : w.cell? ⟨b, 1, none⟩ = some (.slice s.bytes.a s.bytes.n s.bytes.cap) := by have := h.in 1 (by decide); rw [Nat.zero_add] at this; exact this
theorem Cmr.at0B {w : World} {b : Nat} {s : Cmr} (h : cmrL.Box w b s) : w.cell? ⟨b, 0, none⟩ = some (.int .u32 s.cmd) ∧ w.cell? ⟨b, 1, none⟩ = some (.slice s.bytes.a s.bytes.n s.bytes.cap) := Cmr.at0 h.in
end Go.Proofs.YtgjlgamlmmjdpaaDoor
