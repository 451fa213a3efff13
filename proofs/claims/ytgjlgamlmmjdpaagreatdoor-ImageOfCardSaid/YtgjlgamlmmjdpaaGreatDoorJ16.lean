/- Lemmas, laid together: part 16 of 43. Conditions: none but each lemma's own. -/
import Derived.Test.YtgjlgamlmmjdpaaGreatDoorJ15
import Derived.BigRegion
import Derived.Test.YtgjlgamlmmjdpaaGreatDoorJ2
/- load: the teller's spans. -/
namespace Go.Proofs.YtgjlgamlmmjdpaaGreatDoor
open Go.RowKit
set_option maxRecDepth 100000

/-- What a call of Spans hands back, its row taken apart. -/
def SpQ (w : World) (ls : List Spn) (e : Ending) (w' : World) : Prop := ∃ g cap, e = .returned (.tuple #[.slice (some ⟨g, 0, none⟩) ls.length cap, .int .i64 0]) ∧ Chg [] w w' ∧ w.heap.size ≤ g ∧ ∀ j, j < ls.length → spnL.In w' g (j * 2) (ls.getD j .zero)
theorem sp_q {w w' : World} {ls : List Spn} {e : Ending} (hne : ls.length ≠ 0) (h : SpP w ls e w') : SpQ w ls e w' := by
  obtain ⟨⟨a, n, cap⟩, rfl, hb, hc⟩ := h
  obtain ⟨g, cap', hsl, hge, _, _, _, _, _, hIn⟩ := hb.at hne
  have hsl' : Value.slice a n cap = .slice (some ⟨g, 0, none⟩) ls.length cap' := hsl
  exact ⟨g, cap', by rw [← hsl'], hc, hge, hIn⟩
theorem Spn.both {w : World} {g o : Nat} {x : Spn} (h : spnL.In w g o x) : w.cell? ⟨g, o, none⟩ = some (.int .u64 x.off) ∧ w.cell? ⟨g, o + 1, none⟩ = some (.int .u64 x.size) := Spn.at h
set_option maxHeartbeats 4000000 in
theorem spans_tr (l : List UInt8) (x : Spn) (hs : ∀ v w, Env w → byteL.Rd w v l → Calls Tryz.prog 69 #[v] w (SpP w [x])) (v : Value) (w1 : World) (base bt bs : Nat) (p : TP) (t : Tel) (xs : List Seg) (w : World) (h : TInv w1 base bt bs p t xs w) (hg : Env w) (rd : byteL.Rd w v l) :
    Calls Tryz.prog 45 #[.pointer (some ⟨bt, 0, none⟩), .int .u32 2147483699, v] w (TelSays w1 base bt bs (trE p x) (trQ p x)) := by
  have hsp := (hs v w hg rd).mono (fun e w' h => sp_q (by simp) h)
  have H := Lib.hid (h)
  have Hg := Lib.hid hg
  have RD := Lib.hid rd
  have Hs := Lib.hid hs
  have HSP := Lib.hid hsp
  clear hg rd hs hsp
  clear h
  go_enter Tryz.func45, Tryz.ntmps45
  go_wp2_with fail
  refine (HSP.out).mono ?_
  rintro e W1 ⟨g, cap, rfl, hch, _, hIn⟩
  have H1 := Lib.hid (H.out.pure hch)
  have HIN := Lib.hid hIn
  clear hIn
  clear hch
  have hx : spnL.In W1 g 0 x := HIN.out 0 (by simp)
  have Hx := Lib.hid hx
  clear hx
  go_wp2_with ((with_reducible refine Lay.ldL Tryz.tSpn x (Hx.out) ?_ ?_); exact rfl; refine Hid.out ?_)
  refine Lib.hid ?_
  go_wp2_with fail
  refine (trie_any x w1 base bt bs p t xs W1 H1.out).mono ?_
  rintro e W2 ⟨rfl, hc, ht⟩
  have Hc := Lib.hid hc
  have Ht := Lib.hid ht
  clear hc ht
  go_wp2
  go_ret
  exact ⟨rfl, Hc.out, Ht.out⟩
set_option maxHeartbeats 4000000 in
theorem spans_ch (l : List UInt8) (x : Spn) (hs : ∀ v w, Env w → byteL.Rd w v l → Calls Tryz.prog 69 #[v] w (SpP w [x])) (v : Value) (w1 : World) (base bt bs : Nat) (p : TP) (t : Tel) (xs : List Seg) (w : World) (h : TInv w1 base bt bs p t xs w) (hg : Env w) (rd : byteL.Rd w v l) :
    Calls Tryz.prog 45 #[.pointer (some ⟨bt, 0, none⟩), .int .u32 2147483700, v] w (TelSays w1 base bt bs 0 { p with m := { p.m with chO := x.off, chS := x.size } }) := by
  have hsp := (hs v w hg rd).mono (fun e w' h => sp_q (by simp) h)
  have H := Lib.hid (h)
  have Hg := Lib.hid hg
  have RD := Lib.hid rd
  have Hs := Lib.hid hs
  have HSP := Lib.hid hsp
  clear hg rd hs hsp
  clear h
  go_enter Tryz.func45, Tryz.ntmps45
  go_wp2_with fail
  refine (HSP.out).mono ?_
  rintro e W1 ⟨g, cap, rfl, hch, _, hIn⟩
  have H1 := Lib.hid (H.out.pure hch)
  have HIN := Lib.hid hIn
  clear hIn
  clear hch
  have hx : spnL.In W1 g 0 x := HIN.out 0 (by simp)
  have Hx := Lib.hid hx
  clear hx
  have y1 := Tel.c_ch H1.out.box
  obtain ⟨y1, y2⟩ := y1
  have z1 := H1.out.box.frozen 16
  have z2 := H1.out.box.frozen 17
  have x1 := Spn.both Hx.out
  obtain ⟨x1, x2⟩ := x1
  simp only [Nat.zero_add] at x2
  go_upto_region 13 with fail
  refine Lay.with_world (fun W => TInv w1 base bt bs { p with m := { p.m with chO := x.off, chS := x.size } } { t with m := { t.m with chO := x.off, chS := x.size } } xs W) ?_ (fun W4 hW => ?_)
  · have hc : Chg [bt] W1 ((W1.setCell ⟨bt, 16, none⟩ (.int .u64 x.off)).setCell ⟨bt, 17, none⟩ (.int .u64 x.size)) := ((Chg.refl _ _).setCell _ _ (.inl (by simp))).setCell _ _ (.inl (by simp))
    exact H1.out.upd hc (Tel.set_ch H1.out.box x) rfl H1.out.secs (by rw [← H1.out.m]; rfl) rfl rfl rfl rfl rfl H1.out.l3
  · clear x1 x2 y1 y2 z1 z2
    have H4 := Lib.hid hW
    clear hW
    go_wp2
    go_ret
    exact ⟨rfl, H4.out.chg, fun _ => ⟨_, _, H4.out⟩⟩
end Go.Proofs.YtgjlgamlmmjdpaaGreatDoor
/- load: the teller's spans of symbols, and of a dyld's information. -/
namespace Go.Proofs.YtgjlgamlmmjdpaaGreatDoor
open Go.RowKit
set_option maxRecDepth 100000

set_option maxHeartbeats 1000000 in
theorem spans_sy (l : List UInt8) (x y : Spn) (hs : ∀ v w, Env w → byteL.Rd w v l → Calls Tryz.prog 69 #[v] w (SpP w [x, y])) (v : Value) (w1 : World) (base bt bs : Nat) (p : TP) (t : Tel) (xs : List Seg) (w : World) (h : TInv w1 base bt bs p t xs w) (hg : Env w) (rd : byteL.Rd w v l) :
    Calls Tryz.prog 45 #[.pointer (some ⟨bt, 0, none⟩), .int .u32 2, v] w (TelSays w1 base bt bs 0 { p with m := { p.m with syO := x.off, syS := x.size, stO := y.off, stS := y.size } }) := by
  have hsp := (hs v w hg rd).mono (fun e w' h => sp_q (by simp) h)
  have H := Lib.hid (h)
  have Hg := Lib.hid hg
  have RD := Lib.hid rd
  have Hs := Lib.hid hs
  have HSP := Lib.hid hsp
  clear hg rd hs hsp
  clear h
  go_enter Tryz.func45, Tryz.ntmps45
  go_wp2_with fail
  refine (HSP.out).mono ?_
  rintro e W1 ⟨g, cap, rfl, hch, hge, hIn⟩
  have H1 := Lib.hid (H.out.pure hch)
  have HIN := Lib.hid hIn
  clear hIn
  clear hch
  have hx : spnL.In W1 g 0 x := HIN.out 0 (by simp)
  have hy : spnL.In W1 g 2 y := HIN.out 1 (by simp)
  obtain ⟨y1, y2⟩ := Tel.c_sy H1.out.box
  obtain ⟨y3, y4⟩ := Tel.c_st H1.out.box
  have z1 := H1.out.box.frozen 18
  have z2 := H1.out.box.frozen 19
  have z3 := H1.out.box.frozen 20
  have z4 := H1.out.box.frozen 21
  obtain ⟨x1, x2⟩ := Spn.both hx
  obtain ⟨x3, x4⟩ := Spn.both hy
  simp only [Nat.zero_add, Nat.reduceAdd] at x2 x4
  clear hx hy
  go_upto_region 8 with fail
  go_region
  refine with_exitT (Q := Exit.inBlock _ _ _ _) (fun W => TInv w1 base bt bs { p with m := { p.m with syO := x.off, syS := x.size, stO := y.off, stS := y.size } } { t with m := { t.m with syO := x.off, syS := x.size, stO := y.off, stS := y.size } } xs W) ?_ (fun W4 hW => ?_)
  · have hc : Chg [bt] W1 (((((W1.setCell ⟨bt, 18, none⟩ (.int .u64 x.off)).setCell ⟨bt, 19, none⟩ (.int .u64 x.size)).setCell ⟨bt, 20, none⟩ (.int .u64 y.off)).setCell ⟨bt, 21, none⟩ (.int .u64 y.size)).drew) := (((((Chg.refl _ _).setCell _ _ (.inl (by simp))).setCell _ _ (.inl (by simp))).setCell _ _ (.inl (by simp))).setCell _ _ (.inl (by simp))).drew
    exact H1.out.upd hc (Lay.Box.drew (Tel.set_st (Tel.set_sy H1.out.box x) y)) rfl H1.out.secs (by rw [← H1.out.m]; rfl) rfl rfl rfl rfl rfl H1.out.l3
  · clear x1 x2 x3 x4 y1 y2 y3 y4 z1 z2 z3 z4
    have H4 := Lib.hid hW
    clear hW
    go_wp2
    go_ret
    exact ⟨rfl, H4.out.chg, fun _ => ⟨_, _, H4.out⟩⟩
def fourQ (p : TP) (a b c d : Spn) : TP := { p with m := { p.m with rbO := a.off, rbS := a.size, bdO := b.off, bdS := b.size, wkO := c.off, wkS := c.size, lzO := d.off, lzS := d.size } }
set_option maxHeartbeats 4000000 in
theorem spans_5 (l : List UInt8) (k : Int) (hk : k = 34 ∨ k = 2147483682) (a b c d f : Spn) (hs : ∀ v w, Env w → byteL.Rd w v l → Calls Tryz.prog 69 #[v] w (SpP w [a, b, c, d, f])) (v : Value) (w1 : World) (base bt bs : Nat) (p : TP) (t : Tel) (xs : List Seg) (w : World) (h : TInv w1 base bt bs p t xs w) (hg : Env w) (rd : byteL.Rd w v l) :
    Calls Tryz.prog 45 #[.pointer (some ⟨bt, 0, none⟩), .int .u32 k, v] w (TelSays w1 base bt bs (trE (fourQ p a b c d) f) (trQ (fourQ p a b c d) f)) := by
  have e1 : (k == 2) = false := by rw [beq_eq_false_iff_ne]; omega
  have e2 : (k == 2147483700) = false := by rw [beq_eq_false_iff_ne]; omega
  have e3 : (k == 2147483699) = false := by rw [beq_eq_false_iff_ne]; omega
  clear hk
  have hsp := (hs v w hg rd).mono (fun e w' h => sp_q (by simp) h)
  have H := Lib.hid (h)
  have Hg := Lib.hid hg
  have RD := Lib.hid rd
  have Hs := Lib.hid hs
  have HSP := Lib.hid hsp
  clear hg rd hs hsp
  clear h
  go_enter Tryz.func45, Tryz.ntmps45
  go_wp2_with fail
  refine (HSP.out).mono ?_
  rintro e W1 ⟨g, cap, rfl, hch, hge, hIn⟩
  have H1 := Lib.hid (H.out.pure hch)
  have HIN := Lib.hid hIn
  clear hIn
  clear hch
  have hx : spnL.In W1 g 0 a := HIN.out 0 (by simp)
  have hy : spnL.In W1 g 2 b := HIN.out 1 (by simp)
  have hz : spnL.In W1 g 4 c := HIN.out 2 (by simp)
  have hu : spnL.In W1 g 6 d := HIN.out 3 (by simp)
  have hf : spnL.In W1 g 8 f := HIN.out 4 (by simp)
  obtain ⟨y1, y2⟩ := Tel.c_rb H1.out.box
  obtain ⟨y3, y4⟩ := Tel.c_bd H1.out.box
  obtain ⟨y5, y6⟩ := Tel.c_wk H1.out.box
  obtain ⟨y7, y8⟩ := Tel.c_lz H1.out.box
  have z1 := H1.out.box.frozen 6
  have z2 := H1.out.box.frozen 7
  have z3 := H1.out.box.frozen 8
  have z4 := H1.out.box.frozen 9
  have z5 := H1.out.box.frozen 10
  have z6 := H1.out.box.frozen 11
  have z7 := H1.out.box.frozen 12
  have z8 := H1.out.box.frozen 13
  obtain ⟨x1, x2⟩ := Spn.both hx
  obtain ⟨x3, x4⟩ := Spn.both hy
  obtain ⟨x5, x6⟩ := Spn.both hz
  obtain ⟨x7, x8⟩ := Spn.both hu
  simp only [Nat.zero_add, Nat.reduceAdd] at x2 x4 x6 x8
  have Hf := Lib.hid hf
  clear hf
  clear hx hy hz hu
  go_upto_region 5 with fail
  go_region
  have hbt : bt < g := Nat.lt_of_lt_of_le H.out.o2 (Nat.le_trans H.out.o4 hge)
  refine with_exitT (Q := Exit.then _ _ _ _) (fun W => TInv w1 base bt bs (fourQ p a b c d) { t with m := { t.m with rbO := a.off, rbS := a.size, bdO := b.off, bdS := b.size, wkO := c.off, wkS := c.size, lzO := d.off, lzS := d.size } } xs W ∧ spnL.In W g 8 f) ?_ (fun W4 hW => ?_)
  · have hc : Chg [bt] W1 (((((((((W1.setCell ⟨bt, 6, none⟩ (.int .u64 a.off)).setCell ⟨bt, 7, none⟩ (.int .u64 a.size)).setCell ⟨bt, 8, none⟩ (.int .u64 b.off)).setCell ⟨bt, 9, none⟩ (.int .u64 b.size)).setCell ⟨bt, 10, none⟩ (.int .u64 c.off)).setCell ⟨bt, 11, none⟩ (.int .u64 c.size)).setCell ⟨bt, 12, none⟩ (.int .u64 d.off)).setCell ⟨bt, 13, none⟩ (.int .u64 d.size)).drew) := (((((((((Chg.refl _ _).setCell _ _ (.inl (by simp))).setCell _ _ (.inl (by simp))).setCell _ _ (.inl (by simp))).setCell _ _ (.inl (by simp))).setCell _ _ (.inl (by simp))).setCell _ _ (.inl (by simp))).setCell _ _ (.inl (by simp))).setCell _ _ (.inl (by simp))).drew
    exact ⟨H1.out.upd hc (Lay.Box.drew (Tel.set_lz (Tel.set_wk (Tel.set_bd (Tel.set_rb H1.out.box a) b) c) d)) rfl H1.out.secs (by unfold fourQ; rw [← H1.out.m]; rfl) rfl rfl rfl rfl rfl H1.out.l3, Hf.out.frameS hc (by simp; omega)⟩
  · clear x1 x2 x3 x4 x5 x6 x7 x8 y1 y2 y3 y4 y5 y6 y7 y8 z1 z2 z3 z4 z5 z6 z7 z8
    have H4 := Lib.hid (hW.1)
    have F4 := Lib.hid (hW.2)
    clear hW
    go_wp2_with ((with_reducible refine Lay.ldL Tryz.tSpn f (F4.out) ?_ ?_); exact rfl; refine Hid.out ?_)
    refine Lib.hid ?_
    go_wp2_with fail
    refine (trie_any f w1 base bt bs _ _ xs W4 H4.out).mono ?_
    rintro e W5 ⟨rfl, hc, ht⟩
    have Hc := Lib.hid hc
    have Ht := Lib.hid ht
    clear hc ht
    go_wp2
    go_ret
    exact ⟨rfl, Hc.out, Ht.out⟩
end Go.Proofs.YtgjlgamlmmjdpaaGreatDoor
/- Records: commands (printed by mkrecs4.sh). -/
namespace Go.Proofs.YtgjlgamlmmjdpaaGreatDoor
open Go.RowKit
set_option maxRecDepth 100000

/-- A record Cmr. -/
structure Cmr where
  cmd : Int
  bytes : SlV
def Cmr.cells (s : Cmr) : List Value := [.int .u32 s.cmd, .slice s.bytes.a s.bytes.n s.bytes.cap]
abbrev Cmr.v (s : Cmr) : Value := .agg #[.int .u32 s.cmd, .slice s.bytes.a s.bytes.n s.bytes.cap]
/-- Its numbers are of their kinds. -/
def Cmr.wf (s : Cmr) : Prop := (Lit.int .u32 s.cmd).wf = true
def Cmr.zero : Cmr := ⟨0, ⟨none, 0, 0⟩⟩
def cmrL : Lay Cmr := ⟨2, Cmr.cells, Cmr.zero, fun _ => rfl, by decide, fun x u hu => by
  simp only [Cmr.cells, List.mem_cons, List.not_mem_nil, or_false] at hu
  rcases hu with rfl | rfl <;> rfl⟩
theorem Cmr.at {w : World} {b o : Nat} {s : Cmr} (h : cmrL.In w b o s) : w.cell? ⟨b, o, none⟩ = some (.int .u32 s.cmd) ∧ w.cell? ⟨b, o + 1, none⟩ = some (.slice s.bytes.a s.bytes.n s.bytes.cap) :=
  ⟨h 0 (by decide), h 1 (by decide)⟩
theorem Cmr.at0 {w : World} {b : Nat} {s : Cmr} (h : cmrL.In w b 0 s) : w.cell? ⟨b, 0, none⟩ = some (.int .u32 s.cmd) ∧ w.cell? ⟨b, 1, none⟩ = some (.slice s.bytes.a s.bytes.n s.bytes.cap) := by
  obtain ⟨h0, h1⟩ := Cmr.at h
  simp only [Nat.zero_add] at h1
  exact ⟨h0, h1⟩
theorem Cmr.boxed (w : World) (s : Cmr) (T : TypeId) : cmrL.In (w.alloc (.cells #[.int .u32 s.cmd, .slice s.bytes.a s.bytes.n s.bytes.cap] T)) w.heap.size 0 s := fun c _ => by
  rw [cell_of_heap (heap_alloc_eq w _), Nat.zero_add]
  exact List.getElem?_toArray ..
/-- A record in a block of its own: made, written, a field written. -/
theorem Cmr.box (w : World) (s : Cmr) (T : TypeId) : cmrL.Box (w.alloc (.cells #[.int .u32 s.cmd, .slice s.bytes.a s.bytes.n s.bytes.cap] T)) w.heap.size s := Lay.Box.of_alloc (L := cmrL) w s T
theorem Cmr.boxAt (w : World) (s : Cmr) (T : TypeId) {b : Nat} (hb : b = w.heap.size) : cmrL.Box (w.alloc (.cells #[.int .u32 s.cmd, .slice s.bytes.a s.bytes.n s.bytes.cap] T)) b s := by rw [hb]; exact Cmr.box w s T
theorem Cmr.put0 {w : World} {g : Nat} {y : Cmr} (h : cmrL.Box w g y) (s : Cmr) : cmrL.Box ((w.setCell ⟨g, 0, none⟩ (.int .u32 s.cmd)).setCell ⟨g, 1, none⟩ (.slice s.bytes.a s.bytes.n s.bytes.cap)) g s := Lay.Box.put h s
theorem Cmr.chg0 (w : World) (g : Nat) (s : Cmr) : Chg [g] w ((w.setCell ⟨g, 0, none⟩ (.int .u32 s.cmd)).setCell ⟨g, 1, none⟩ (.slice s.bytes.a s.bytes.n s.bytes.cap)) := Lay.setW_chg g s.cells w 0
theorem Cmr.set_cmd {w : World} {g : Nat} {s : Cmr} (h : cmrL.Box w g s) (x : Int) : cmrL.Box (w.setCell ⟨g, 0, none⟩ (.int .u32 x)) g { s with cmd := x } := Lay.Box.set h 0 _ _ rfl
theorem Cmr.set_bytes {w : World} {g : Nat} {s : Cmr} (h : cmrL.Box w g s) (x : SlV) : cmrL.Box (w.setCell ⟨g, 1, none⟩ (.slice x.a x.n x.cap)) g { s with bytes := x } := Lay.Box.set h 1 _ _ rfl
theorem Cmr.c_cmd {w : World} {b : Nat} {s : Cmr} (h : cmrL.Box w b s) : w.cell? ⟨b, 0, none⟩ = some (.int .u32 s.cmd) := by have := h.in 0 (by decide); rw [Nat.zero_add] at this; exact this
theorem Cmr.c_bytes {w : World} {b : Nat} {s : Cmr} (h : cmrL.Box w b s) : w.cell? ⟨b, 1, none⟩ = some (.slice s.bytes.a s.bytes.n s.bytes.cap) := by have := h.in 1 (by decide); rw [Nat.zero_add] at this; exact this
theorem Cmr.at0B {w : World} {b : Nat} {s : Cmr} (h : cmrL.Box w b s) : w.cell? ⟨b, 0, none⟩ = some (.int .u32 s.cmd) ∧ w.cell? ⟨b, 1, none⟩ = some (.slice s.bytes.a s.bytes.n s.bytes.cap) := Cmr.at0 h.in
end Go.Proofs.YtgjlgamlmmjdpaaGreatDoor
/- load: kinds, Known; the teller's answer to a command, as plain data. -/
namespace Go.Proofs.YtgjlgamlmmjdpaaGreatDoor
open Go.RowKit
set_option maxRecDepth 100000

/-- How a command says that an image depends (0: it does not). -/
def depK (c : Int) : Int := if c = 12 then 1 else if c = 2147483672 then 2 else if c = 2147483679 then 3 else if c = 2147483683 then 4 else 0
def kindsM (c : Int) : Option Value := if depK c = 0 then none else some (.int .i64 (depK c))
theorem Tryz.tKnd : Map.Ty (Map.intK .u32) Tryz.prog 93 (.int .i64 0) := ⟨25, 55, by kernel_rfl, by kernel_rfl, fun w => by kernel_rfl⟩
theorem kinds_any (w : World) : Calls Tryz.prog 38 #[] w fun e w' => ∃ b, e = .returned (.map (some b)) ∧ Map.Is (Map.intK .u32) w' b kindsM ∧ Chg [] w w' := by
  go_enter Tryz.func38, Tryz.ntmps38
  go_wp2_with ((with_reducible refine Map.mkL (Map.intK .u32) 93 ?_); intro W2 bq ebq cbq mbq; replace ebq := Lib.hid ebq; replace cbq := Lib.hid cbq; replace mbq := Lib.hid mbq; refine Hid.out ?_)
  refine Lib.hid ?_
  go_wp2_with ((with_reducible refine Map.insL Tryz.tKnd (mbq.out) 12 (.int .i64 1) ?_ ?_ ?_ ?_); exact rfl; exact rfl; exact rfl; intro W3 cW3 mW3; replace cW3 := Lib.hid cW3; replace mW3 := Lib.hid mW3; refine Hid.out ?_)
  refine Lib.hid ?_
  go_wp2_with ((with_reducible refine Map.insL Tryz.tKnd (mW3.out) 2147483672 (.int .i64 2) ?_ ?_ ?_ ?_); exact rfl; exact rfl; exact rfl; intro W4 cW4 mW4; replace cW4 := Lib.hid cW4; replace mW4 := Lib.hid mW4; refine Hid.out ?_)
  refine Lib.hid ?_
  go_wp2_with ((with_reducible refine Map.insL Tryz.tKnd (mW4.out) 2147483679 (.int .i64 3) ?_ ?_ ?_ ?_); exact rfl; exact rfl; exact rfl; intro W5 cW5 mW5; replace cW5 := Lib.hid cW5; replace mW5 := Lib.hid mW5; refine Hid.out ?_)
  refine Lib.hid ?_
  go_wp2_with ((with_reducible refine Map.insL Tryz.tKnd (mW5.out) 2147483683 (.int .i64 4) ?_ ?_ ?_ ?_); exact rfl; exact rfl; exact rfl; intro W6 cW6 mW6; replace cW6 := Lib.hid cW6; replace mW6 := Lib.hid mW6; refine Hid.out ?_)
  refine Lib.hid ?_
  go_wp2
  go_ret
  have hsz : w.heap.size ≤ bq := by rw [ebq.out]; exact Nat.le_refl _
  refine ⟨bq, rfl, mW6.out.congr (fun k => ?_), ((((cbq.out.new cW3.out hsz).new cW4.out hsz).new cW5.out hsz).new cW6.out hsz)⟩
  simp only [Map.put, kindsM, depK]
  by_cases h1 : k = 2147483683
  · simp [h1]
  by_cases h2 : k = 2147483679
  · simp [h2]
  by_cases h3 : k = 2147483672
  · simp [h3]
  by_cases h4 : k = 12
  · simp [h4]
  simp [h1, h2, h3, h4]
theorem Known_yes (c : Int) (h : ¬ leastF c = 0) (w : World) : Calls Tryz.prog 39 #[.int .u32 c] w fun e w' => e = .returned (.bool true) ∧ Chg [] w w' := by
  have := Known_any c w
  rw [decide_eq_false h] at this
  exact this
theorem Known_no (c : Int) (h : leastF c = 0) (w : World) : Calls Tryz.prog 39 #[.int .u32 c] w fun e w' => e = .returned (.bool false) ∧ Chg [] w w' := by
  have := Known_any c w
  rw [decide_eq_true h] at this
  exact this
def keyC (c : Int) : Int := if c = 2147483682 then 34 else c
/-- Why a command is not taken in (0: it is). -/
def tE (p : TP) (l : List UInt8) : Int :=
  if ¬ opE l = 0 then 3
  else if leastF (n4 l 0) = 0 then (if 2147483648 ≤ n4 l 0 then 7 else 0)
  else if n4 l 0 = 25 then sgtE p l
  else if ¬ depK (n4 l 0) = 0 then depE p l
  else if n4 l 0 = 13 then (if nameE l = 0 then (if p.seen 13 = true then 21 else 0) else nameE l)
  else if n4 l 0 = 2147483699 then trE p (spAt l 0)
  else if p.seen (keyC (n4 l 0)) = true then 21
  else if n4 l 0 = 34 ∨ n4 l 0 = 2147483682 then trE p (spAt l 4)
  else 0
/-- What was told, behind a command that is taken in. -/
def tS (p : TP) (l : List UInt8) : TP :=
  if leastF (n4 l 0) = 0 then p
  else if n4 l 0 = 25 then { p with segs := p.segs ++ [segP l], n := p.n + n4 l 64 }
  else if ¬ depK (n4 l 0) = 0 then { p with deps := p.deps ++ [⟨nameV l, depK (n4 l 0)⟩] }
  else if n4 l 0 = 13 then { seeN p 13 with m := { p.m with name := nameV l } }
  else if n4 l 0 = 2147483699 then trQ p (spAt l 0)
  else if n4 l 0 = 2147483688 then { seeN p 2147483688 with m := { p.m with entry := n8 l 8, has := true } }
  else if n4 l 0 = 2 then { seeN p 2 with m := { p.m with syO := n4 l 8, syS := (n4 l 12 : Int) * 16, stO := n4 l 16, stS := n4 l 20 } }
  else if n4 l 0 = 2147483700 then { seeN p 2147483700 with m := { p.m with chO := n4 l 8, chS := n4 l 12 } }
  else trQ (fourQ (seeN p 34) (spAt l 0) (spAt l 1) (spAt l 2) (spAt l 3)) (spAt l 4)
/-- The known commands. -/
theorem known_cases {c : Int} (h : ¬ leastF c = 0) : c = 25 ∨ c = 12 ∨ c = 2147483672 ∨ c = 2147483679 ∨ c = 2147483683 ∨ c = 13 ∨ c = 2147483699 ∨ c = 2147483688 ∨ c = 2 ∨ c = 2147483700 ∨ c = 34 ∨ c = 2147483682 := by
  unfold leastF at h
  by_cases h1 : c = 25
  · exact .inl h1
  rw [if_neg h1] at h
  by_cases h2 : c = 34 ∨ c = 2147483682
  · omega
  rw [if_neg h2] at h
  by_cases h3 : c = 2 ∨ c = 12 ∨ c = 13 ∨ c = 2147483672 ∨ c = 2147483679 ∨ c = 2147483683 ∨ c = 2147483688
  · omega
  rw [if_neg h3] at h
  by_cases h4 : c = 2147483699 ∨ c = 2147483700
  · omega
  rw [if_neg h4] at h
  exact absurd rfl h
/-- The highest bit of a command. -/
theorem top_bit (c : Nat) (hc : c < 4294967296) : bits .and .u32 (c : Int) 2147483648 = if 2147483648 ≤ c then 2147483648 else 0 := by
  show IntKind.u32.wrap ((BitVec.ofInt 32 (c : Int) &&& BitVec.ofInt 32 2147483648).toNat : Int) = _
  have e1 : (BitVec.ofInt 32 (c : Int)).toNat = c := by
    rw [BitVec.toNat_ofInt]
    simp
    omega
  have e2 : (BitVec.ofInt 32 2147483648).toNat = 2 ^ 31 := by decide
  have e3 : c.testBit 31 = decide (2147483648 ≤ c) := by
    rw [Nat.testBit_eq_decide_div_mod_eq]
    by_cases h : 2147483648 ≤ c
    · rw [decide_eq_true h, decide_eq_true_eq]; omega
    · rw [decide_eq_false h, decide_eq_false_iff_not]; omega
  have e4 : c &&& 2 ^ 31 = if 2147483648 ≤ c then 2 ^ 31 else 0 := by
    apply Nat.eq_of_testBit_eq
    intro i
    rw [Nat.testBit_and, Nat.testBit_two_pow]
    by_cases hi : 31 = i
    · subst hi
      rw [e3, decide_eq_true rfl, Bool.and_true]
      by_cases h : 2147483648 ≤ c
      · rw [if_pos h, decide_eq_true h, Nat.testBit_two_pow]; rfl
      · rw [if_neg h, decide_eq_false h, Nat.zero_testBit]
    · rw [decide_eq_false hi, Bool.and_false]
      by_cases h : 2147483648 ≤ c
      · rw [if_pos h, Nat.testBit_two_pow, decide_eq_false hi]
      · rw [if_neg h, Nat.zero_testBit]
  rw [BitVec.toNat_and, e1, e2, e4]
  by_cases h : 2147483648 ≤ c
  · rw [if_pos h, if_pos h]; decide
  · rw [if_neg h, if_neg h]; decide
theorem req_bit (c : Nat) (hc : c < 4294967296) : (bits .and .u32 (c : Int) 2147483648 != 0) = decide (2147483648 ≤ c) := by
  rw [top_bit c hc]
  by_cases h : 2147483648 ≤ c
  · rw [if_pos h, decide_eq_true h]; rfl
  · rw [if_neg h, decide_eq_false h]; rfl
end Go.Proofs.YtgjlgamlmmjdpaaGreatDoor
/- load: tell, the commands that are not known; segments and dependencies. -/
namespace Go.Proofs.YtgjlgamlmmjdpaaGreatDoor
open Go.RowKit
set_option maxRecDepth 100000

set_option maxHeartbeats 4000000 in
theorem tell_bad (x : Cmr) (l : List UInt8) (ho : ¬ opE l = 0) (hl : l.length ≤ 140737488355328) (w1 : World) (base bt bs : Nat) (p q : TP) (t : Tel) (xs : List Seg) (w : World) (h : TInv w1 base bt bs p t xs w) (hg : Env w) (rd : byteL.Rd w (.slice x.bytes.a x.bytes.n x.bytes.cap) l) :
    Calls Tryz.prog 23 #[.pointer (some ⟨bt, 0, none⟩), cmrL.val x] w (TelSays w1 base bt bs 3 q) := by
  have HOP := Lib.hid (fun v w hg rd => open_bad l ho hl v w hg rd)
  clear ho
  have H := Lib.hid (h)
  have Hg := Lib.hid hg
  have RD := Lib.hid rd
  have Hl := Lib.hid hl
  clear hg rd hl
  clear h
  go_enter Tryz.func23, Tryz.ntmps23
  go_wp2_with ((with_reducible refine Lay.bxL (L := cmrL) 67 x ?_ ?_); exact rfl; intro W0 bx ebx cbx xbx; replace ebx := Lib.hid ebx; replace cbx := Lib.hid cbx; replace xbx := Lib.hid xbx; refine Hid.out ?_)
  refine Lib.hid ?_
  have y1 := Cmr.c_bytes xbx.out
  have H0 := Lib.hid (H.out.pure cbx.out)
  go_wp2_with fail
  refine (HOP.out _ W0 (Hg.out.frame cbx.out (by simp)) (RD.out.frame cbx.out)).mono ?_
  rintro e W1 ⟨k, hk, rfl, hch⟩
  have H1 := Lib.hid (H0.out.pure hch)
  clear hch y1
  go_wp2_with fail
  refine (kinds_any W1).mono ?_
  rintro e W2 ⟨b, rfl, hm, hch⟩
  have H2 := Lib.hid (H1.out.pure hch)
  have Hm := Lib.hid hm
  have Hk := Lib.hid hk
  clear hm hk
  clear hch
  by_cases hd : depK (k : Int) = 0
  · have hn : kindsM (k : Int) = none := by unfold kindsM; rw [if_pos hd]
    have Hd := Lib.hid hd
    have Hn := Lib.hid hn
    clear hd hn
    go_wp2_with ((with_reducible refine get2N Tryz.tKnd Hm.out (k : Int) Hn.out ?_ ?_ ?_); exact rfl; exact rfl; refine Hid.out ?_)
    refine Lib.hid ?_
    go_wp2
    go_ret
    exact ⟨rfl, H2.out.chg, fun h => absurd h (by decide)⟩
  · have hn : kindsM (k : Int) = some (.int .i64 (depK (k : Int))) := by unfold kindsM; rw [if_neg hd]
    have Hd := Lib.hid hd
    have Hn := Lib.hid hn
    clear hd hn
    go_wp2_with ((with_reducible refine get2S Tryz.tKnd Hm.out (k : Int) _ Hn.out ?_ ?_ ?_); exact rfl; exact rfl; refine Hid.out ?_)
    refine Lib.hid ?_
    go_wp2
    go_ret
    exact ⟨rfl, H2.out.chg, fun h => absurd h (by decide)⟩
set_option maxHeartbeats 4000000 in
theorem tell_unk (x : Cmr) (l : List UInt8) (ho : opE l = 0) (hk : leastF (n4 l 0) = 0) (hl : l.length ≤ 140737488355328) (w1 : World) (base bt bs : Nat) (p : TP) (t : Tel) (xs : List Seg) (w : World) (h : TInv w1 base bt bs p t xs w) (hg : Env w) (rd : byteL.Rd w (.slice x.bytes.a x.bytes.n x.bytes.cap) l) :
    Calls Tryz.prog 23 #[.pointer (some ⟨bt, 0, none⟩), cmrL.val x] w (TelSays w1 base bt bs (if 2147483648 ≤ n4 l 0 then 7 else 0) p) := by
  have HOP := Lib.hid (fun v w hg rd => open_ok l ho hl v w hg rd)
  have hz4 := n4_lt l 0
  have hrb := req_bit (n4 l 0) hz4
  obtain ⟨z, hz⟩ : ∃ z, z = n4 l 0 := ⟨_, rfl⟩
  rw [← hz] at HOP hk hz4 hrb ⊢
  have HKN := Lib.hid (fun w => Known_no z hk w)
  have hdk : depK (z : Int) = 0 := by
    unfold depK
    rw [if_neg, if_neg, if_neg, if_neg]
    all_goals (intro e; rw [e] at hk; exact absurd hk (by decide))
  have HND : Hid (kindsM (z : Int) = none) := Lib.hid (by unfold kindsM; rw [if_pos hdk])
  clear hdk
  by_cases h31 : 2147483648 ≤ z
  · rw [if_pos h31]
    rw [decide_eq_true h31] at hrb
    have Ho := Lib.hid ho
    have Hk := Lib.hid hk
    have Hz4 := Lib.hid hz4
    have Hz := Lib.hid hz
    have H31 := Lib.hid h31
    clear ho hk hz4 hz h31
    have H := Lib.hid (h)
    have Hg := Lib.hid hg
    have RD := Lib.hid rd
    have Hl := Lib.hid hl
    clear hg rd hl
    clear h
    go_enter Tryz.func23, Tryz.ntmps23
    go_wp2_with ((with_reducible refine Lay.bxL (L := cmrL) 67 x ?_ ?_); exact rfl; intro W0 bx ebx cbx xbx; replace ebx := Lib.hid ebx; replace cbx := Lib.hid cbx; replace xbx := Lib.hid xbx; refine Hid.out ?_)
    refine Lib.hid ?_
    have y1 := Cmr.c_bytes xbx.out
    have H0 := Lib.hid (H.out.pure cbx.out)
    go_wp2_with fail
    refine (HOP.out _ W0 (Hg.out.frame cbx.out (by simp)) (RD.out.frame cbx.out)).mono ?_
    rintro e W1 ⟨c, rfl, hlo, hcu, hch⟩
    have H1 := Lib.hid (H0.out.pure hch)
    have R1 := Lib.hid ((RD.out.frame cbx.out).frame hch)
    have G1 := Lib.hid ((Hg.out.frame cbx.out (by simp)).frame hch (by simp))
    replace y1 := hch.cell y1 (by simp)
    clear hlo hcu hch
    go_wp2_with fail
    refine (kinds_any W1).mono ?_
    rintro e W2 ⟨b, rfl, hm, hch⟩
    have H2 := Lib.hid (H1.out.pure hch)
    have R2 := Lib.hid (R1.out.frame hch)
    have G2 := Lib.hid (G1.out.frame hch (by simp))
    replace y1 := hch.cell y1 (by simp)
    have Hm := Lib.hid hm
    clear hm
    clear hch
    go_wp2_with ((with_reducible refine get2N Tryz.tKnd Hm.out (z : Int) HND.out ?_ ?_ ?_); exact rfl; exact rfl; refine Hid.out ?_)
    refine Lib.hid ?_
    go_wp2_with fail
    refine (HKN.out W2).mono ?_
    rintro e W3 ⟨rfl, hch⟩
    have H3 := Lib.hid (H2.out.pure hch)
    have R3 := Lib.hid (R2.out.frame hch)
    have G3 := Lib.hid (G2.out.frame hch (by simp))
    replace y1 := hch.cell y1 (by simp)
    clear hch
    go_wp2
    go_ret
    exact ⟨rfl, H3.out.chg, fun h => absurd h (by decide)⟩
  · rw [if_neg h31]
    rw [decide_eq_false h31] at hrb
    have Ho := Lib.hid ho
    have Hk := Lib.hid hk
    have Hz4 := Lib.hid hz4
    have Hz := Lib.hid hz
    have H31 := Lib.hid h31
    clear ho hk hz4 hz h31
    have H := Lib.hid (h)
    have Hg := Lib.hid hg
    have RD := Lib.hid rd
    have Hl := Lib.hid hl
    clear hg rd hl
    clear h
    go_enter Tryz.func23, Tryz.ntmps23
    go_wp2_with ((with_reducible refine Lay.bxL (L := cmrL) 67 x ?_ ?_); exact rfl; intro W0 bx ebx cbx xbx; replace ebx := Lib.hid ebx; replace cbx := Lib.hid cbx; replace xbx := Lib.hid xbx; refine Hid.out ?_)
    refine Lib.hid ?_
    have y1 := Cmr.c_bytes xbx.out
    have H0 := Lib.hid (H.out.pure cbx.out)
    go_wp2_with fail
    refine (HOP.out _ W0 (Hg.out.frame cbx.out (by simp)) (RD.out.frame cbx.out)).mono ?_
    rintro e W1 ⟨c, rfl, hlo, hcu, hch⟩
    have H1 := Lib.hid (H0.out.pure hch)
    have R1 := Lib.hid ((RD.out.frame cbx.out).frame hch)
    have G1 := Lib.hid ((Hg.out.frame cbx.out (by simp)).frame hch (by simp))
    replace y1 := hch.cell y1 (by simp)
    clear hlo hcu hch
    go_wp2_with fail
    refine (kinds_any W1).mono ?_
    rintro e W2 ⟨b, rfl, hm, hch⟩
    have H2 := Lib.hid (H1.out.pure hch)
    have R2 := Lib.hid (R1.out.frame hch)
    have G2 := Lib.hid (G1.out.frame hch (by simp))
    replace y1 := hch.cell y1 (by simp)
    have Hm := Lib.hid hm
    clear hm
    clear hch
    go_wp2_with ((with_reducible refine get2N Tryz.tKnd Hm.out (z : Int) HND.out ?_ ?_ ?_); exact rfl; exact rfl; refine Hid.out ?_)
    refine Lib.hid ?_
    go_wp2_with fail
    refine (HKN.out W2).mono ?_
    rintro e W3 ⟨rfl, hch⟩
    have H3 := Lib.hid (H2.out.pure hch)
    have R3 := Lib.hid (R2.out.frame hch)
    have G3 := Lib.hid (G2.out.frame hch (by simp))
    replace y1 := hch.cell y1 (by simp)
    clear hch
    go_wp2_with fail
    refine (HKN.out W3).mono ?_
    rintro e W4 ⟨rfl, hch⟩
    have H4 := Lib.hid (H3.out.pure hch)
    have R4 := Lib.hid (R3.out.frame hch)
    have G4 := Lib.hid (G3.out.frame hch (by simp))
    replace y1 := hch.cell y1 (by simp)
    clear hch H1 R1 G1 H2 R2 G2 H3 R3 G3
    go_wp2_with fail
    go_wp2
    go_ret
    exact ⟨rfl, H4.out.chg, fun _ => ⟨_, _, H4.out⟩⟩
set_option maxHeartbeats 4000000 in
theorem tell_seg (x : Cmr) (l : List UInt8) (ho : opE l = 0) (hc : ((n4 l 0 : Nat) : Int) = 25) (hl : l.length ≤ 140737488355328) (w1 : World) (base bt bs : Nat) (p : TP) (t : Tel) (xs : List Seg) (w : World) (h : TInv w1 base bt bs p t xs w) (hg : Env w) (rd : byteL.Rd w (.slice x.bytes.a x.bytes.n x.bytes.cap) l) :
    Calls Tryz.prog 23 #[.pointer (some ⟨bt, 0, none⟩), cmrL.val x] w (TelSays w1 base bt bs (sgtE p l) { p with segs := p.segs ++ [segP l], n := p.n + n4 l 64 }) := by
  have hop := fun v w hg rd => open_ok l ho hl v w hg rd
  rw [hc] at hop
  have HOP := Lib.hid hop
  have Ho := Lib.hid ho
  have Hc := Lib.hid hc
  clear hop ho hc
  have HKN := Lib.hid (fun w => Known_yes 25 (by decide) w)
  have HND : Hid (kindsM 25 = none) := Lib.hid (by decide)
  have HSG := Lib.hid (fun w h hg rd => segment_any l hl (.slice x.bytes.a x.bytes.n x.bytes.cap) w1 base bt bs p t xs w h hg rd)
  have H := Lib.hid (h)
  have Hg := Lib.hid hg
  have RD := Lib.hid rd
  have Hl := Lib.hid hl
  clear hg rd hl
  clear h
  go_enter Tryz.func23, Tryz.ntmps23
  go_wp2_with ((with_reducible refine Lay.bxL (L := cmrL) 67 x ?_ ?_); exact rfl; intro W0 bx ebx cbx xbx; replace ebx := Lib.hid ebx; replace cbx := Lib.hid cbx; replace xbx := Lib.hid xbx; refine Hid.out ?_)
  refine Lib.hid ?_
  have y1 := Cmr.c_bytes xbx.out
  have H0 := Lib.hid (H.out.pure cbx.out)
  go_wp2_with fail
  refine (HOP.out _ W0 (Hg.out.frame cbx.out (by simp)) (RD.out.frame cbx.out)).mono ?_
  rintro e W1 ⟨c, rfl, hlo, hcu, hch⟩
  have H1 := Lib.hid (H0.out.pure hch)
  have R1 := Lib.hid ((RD.out.frame cbx.out).frame hch)
  have G1 := Lib.hid ((Hg.out.frame cbx.out (by simp)).frame hch (by simp))
  replace y1 := hch.cell y1 (by simp)
  clear hlo hcu hch
  go_wp2_with fail
  refine (kinds_any W1).mono ?_
  rintro e W2 ⟨b, rfl, hm, hch⟩
  have H2 := Lib.hid (H1.out.pure hch)
  have R2 := Lib.hid (R1.out.frame hch)
  have G2 := Lib.hid (G1.out.frame hch (by simp))
  replace y1 := hch.cell y1 (by simp)
  have Hm := Lib.hid hm
  clear hm
  clear hch
  go_wp2_with ((with_reducible refine get2N Tryz.tKnd Hm.out (25 : Int) HND.out ?_ ?_ ?_); exact rfl; exact rfl; refine Hid.out ?_)
  refine Lib.hid ?_
  go_wp2_with fail
  refine (HKN.out W2).mono ?_
  rintro e W3 ⟨rfl, hch⟩
  have H3 := Lib.hid (H2.out.pure hch)
  have R3 := Lib.hid (R2.out.frame hch)
  have G3 := Lib.hid (G2.out.frame hch (by simp))
  replace y1 := hch.cell y1 (by simp)
  clear hch
  go_wp2_with fail
  refine (HKN.out W3).mono ?_
  rintro e W4 ⟨rfl, hch⟩
  have H4 := Lib.hid (H3.out.pure hch)
  have R4 := Lib.hid (R3.out.frame hch)
  have G4 := Lib.hid (G3.out.frame hch (by simp))
  replace y1 := hch.cell y1 (by simp)
  clear hch H1 R1 G1 H2 R2 G2 H3 R3 G3
  go_wp2_with fail
  refine (HSG.out W4 H4.out G4.out R4.out).mono ?_
  rintro e W5 ⟨rfl, hc, ht⟩
  have Hc := Lib.hid hc
  have Ht := Lib.hid ht
  clear hc ht
  go_wp2
  go_ret
  exact ⟨rfl, Hc.out, Ht.out⟩
set_option maxHeartbeats 4000000 in
theorem tell_dep (x : Cmr) (l : List UInt8) (k K : Int) (hk : ¬ leastF k = 0) (hkk : kindsM k = some (.int .i64 K)) (h25 : ¬ k = 25) (ho : opE l = 0) (hc : ((n4 l 0 : Nat) : Int) = k) (hl : l.length ≤ 140737488355328) (w1 : World) (base bt bs : Nat) (p : TP) (t : Tel) (xs : List Seg) (w : World) (h : TInv w1 base bt bs p t xs w) (hg : Env w) (rd : byteL.Rd w (.slice x.bytes.a x.bytes.n x.bytes.cap) l) :
    Calls Tryz.prog 23 #[.pointer (some ⟨bt, 0, none⟩), cmrL.val x] w (TelSays w1 base bt bs (depE p l) { p with deps := p.deps ++ [⟨nameV l, K⟩] }) := by
  have hop := fun v w hg rd => open_ok l ho hl v w hg rd
  rw [hc] at hop
  have e1 : (k == 25) = false := by rw [beq_eq_false_iff_ne]; exact h25
  have HKN := Lib.hid (fun w => Known_yes k hk w)
  have HDP := Lib.hid (fun w h hg rd => depend_any l K hl (.slice x.bytes.a x.bytes.n x.bytes.cap) w1 base bt bs p t xs w h hg rd)
  have HOP := Lib.hid hop
  have Ho := Lib.hid ho
  have Hc := Lib.hid hc
  have Hk := Lib.hid hk
  have HND := Lib.hid hkk
  have H25 := Lib.hid h25
  clear hop ho hc hk hkk h25
  have H := Lib.hid (h)
  have Hg := Lib.hid hg
  have RD := Lib.hid rd
  have Hl := Lib.hid hl
  clear hg rd hl
  clear h
  go_enter Tryz.func23, Tryz.ntmps23
  go_wp2_with ((with_reducible refine Lay.bxL (L := cmrL) 67 x ?_ ?_); exact rfl; intro W0 bx ebx cbx xbx; replace ebx := Lib.hid ebx; replace cbx := Lib.hid cbx; replace xbx := Lib.hid xbx; refine Hid.out ?_)
  refine Lib.hid ?_
  have y1 := Cmr.c_bytes xbx.out
  have H0 := Lib.hid (H.out.pure cbx.out)
  go_wp2_with fail
  refine (HOP.out _ W0 (Hg.out.frame cbx.out (by simp)) (RD.out.frame cbx.out)).mono ?_
  rintro e W1 ⟨c, rfl, hlo, hcu, hch⟩
  have H1 := Lib.hid (H0.out.pure hch)
  have R1 := Lib.hid ((RD.out.frame cbx.out).frame hch)
  have G1 := Lib.hid ((Hg.out.frame cbx.out (by simp)).frame hch (by simp))
  replace y1 := hch.cell y1 (by simp)
  clear hlo hcu hch
  go_wp2_with fail
  refine (kinds_any W1).mono ?_
  rintro e W2 ⟨b, rfl, hm, hch⟩
  have H2 := Lib.hid (H1.out.pure hch)
  have R2 := Lib.hid (R1.out.frame hch)
  have G2 := Lib.hid (G1.out.frame hch (by simp))
  replace y1 := hch.cell y1 (by simp)
  have Hm := Lib.hid hm
  clear hm
  clear hch
  go_wp2_with ((with_reducible refine get2S Tryz.tKnd Hm.out k _ HND.out ?_ ?_ ?_); exact rfl; exact rfl; refine Hid.out ?_)
  refine Lib.hid ?_
  go_wp2_with fail
  refine (HKN.out W2).mono ?_
  rintro e W3 ⟨rfl, hch⟩
  have H3 := Lib.hid (H2.out.pure hch)
  have R3 := Lib.hid (R2.out.frame hch)
  have G3 := Lib.hid (G2.out.frame hch (by simp))
  replace y1 := hch.cell y1 (by simp)
  clear hch
  go_wp2_with fail
  refine (HKN.out W3).mono ?_
  rintro e W4 ⟨rfl, hch⟩
  have H4 := Lib.hid (H3.out.pure hch)
  have R4 := Lib.hid (R3.out.frame hch)
  have G4 := Lib.hid (G3.out.frame hch (by simp))
  replace y1 := hch.cell y1 (by simp)
  clear hch H1 R1 G1 H2 R2 G2 H3 R3 G3
  go_wp2_with fail
  refine (HDP.out W4 H4.out G4.out R4.out).mono ?_
  rintro e W5 ⟨rfl, hc, ht⟩
  have Hc := Lib.hid hc
  have Ht := Lib.hid ht
  clear hc ht
  go_wp2
  go_ret
  exact ⟨rfl, Hc.out, Ht.out⟩
end Go.Proofs.YtgjlgamlmmjdpaaGreatDoor
