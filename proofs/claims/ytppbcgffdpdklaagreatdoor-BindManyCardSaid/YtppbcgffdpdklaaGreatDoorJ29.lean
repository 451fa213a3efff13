/- Lemmas, laid together: part 29 of 39. Conditions: none but each lemma's own. -/
import Derived.Test.YtppbcgffdpdklaaGreatDoorJ28
/- bind: many; the state of a reading. -/
namespace Go.Proofs.YtppbcgffdpdklaaGreatDoor
open Go.RowKit
set_option maxRecDepth 100000

set_option maxHeartbeats 2000000 in
theorem manyB_ret (b bc n : Nat) (r : Brd) (s s1 s2 : CS) (hc : r.c = some ⟨bc, 0, none⟩) (hlt : bc < b) (h1 : lebV ulebR s = n ∧ lebS ulebR s = s1) (h2 : lebV ulebR s1 = ((0 : Nat) : Int) ∧ lebS ulebR s1 = s2) (f1 : s1.failed = false) (f2 : s2.failed = false) (w : World) (hg : Env w) (hlo : 1 < bc) (hcur : CurB w bc s) (hb : brdL.Box w b r) (R : World → Prop)
    (hm : ∀ W, Chg [bc] w W → CurB W bc s2 → brdL.Box W b r → Calls Tryz.prog 50 #[.pointer (some ⟨b, 0, none⟩), .int .u64 n, .int .u64 0] W fun e w' => e = .returned (.tuple #[]) ∧ R w') :
    Calls Tryz.prog 32 #[.pointer (some ⟨b, 0, none⟩)] w fun e w' => e = .returned (.tuple #[]) ∧ R w' := by
  have HN1 := Lib.hid (fun w hg hcur hb => number_ok b bc n r s hc hlt (by rw [h1.2]; exact f1) h1.1 w hg hcur hb)
  rw [h1.2] at HN1
  have HN2 := Lib.hid (fun w hg hcur hb => number_ok b bc 0 r s1 hc hlt (by rw [h2.2]; exact f2) h2.1 w hg hcur hb)
  rw [h2.2] at HN2
  replace HN2 : Hid (∀ (w : World), Env w → CurB w bc s1 → brdL.Box w b r → Calls Tryz.prog 44 #[.pointer (some ⟨b, 0, none⟩)] w fun e w' => e = .returned (.int .u64 0) ∧ CurB w' bc s2 ∧ Chg [bc] w w') := HN2
  have hbc : b ∉ [bc] := by simp; omega
  have heb : Hid (1 ∉ [bc]) := Lib.hid (by simp; omega)
  have Hg := Lib.hid hg
  have Hcur := Lib.hid hcur
  have Hb := Lib.hid hb
  have Hm := Lib.hid hm
  have H1 := Lib.hid h1
  have H2 := Lib.hid h2
  have F1 := Lib.hid f1
  have F2 := Lib.hid f2
  clear hg hcur hb hm h1 h2 f1 f2
  go_enter Tryz.func32, Tryz.ntmps32
  go_wp2_with fail
  refine (HN1.out _ Hg.out Hcur.out Hb.out).mono ?_
  rintro e W1 ⟨rfl, hc1, k1⟩
  have B1 := Lib.hid (Hb.out.frameS k1 hbc)
  have G1 := Lib.hid (Hg.out.frame k1 heb.out)
  have CU1 := Lib.hid hc1
  have C1 := Lib.hid k1
  clear hc1 k1
  go_wp2_with fail
  refine (HN2.out _ G1.out CU1.out B1.out).mono ?_
  rintro e W2 ⟨rfl, hc2, k2⟩
  have B2 := Lib.hid (B1.out.frameS k2 hbc)
  have C2 : Hid (Chg [bc] w W2) := Lib.hid (C1.out.trans k2 (fun i hi _ => hi))
  have CU2 := Lib.hid hc2
  clear hc2
  clear k2
  go_wp2_with fail
  refine (Hm.out _ C2.out CU2.out B2.out).mono ?_
  rintro e W3 ⟨rfl, hr3⟩
  have R3 := Lib.hid hr3
  clear hr3
  go_wp2
  go_end0
  exact ⟨rfl, R3.out⟩
set_option maxHeartbeats 2000000 in
theorem manyB_stop (q : Int) (b bc n : Nat) (r : Brd) (s s1 s2 : CS) (hc : r.c = some ⟨bc, 0, none⟩) (hlt : bc < b) (h1 : lebV ulebR s = n ∧ lebS ulebR s = s1) (h2 : lebV ulebR s1 = ((0 : Nat) : Int) ∧ lebS ulebR s1 = s2) (f1 : s1.failed = false) (f2 : s2.failed = false) (w : World) (hg : Env w) (hlo : 1 < bc) (hcur : CurB w bc s) (hb : brdL.Box w b r) (R : World → Prop)
    (hm : ∀ W, Chg [bc] w W → CurB W bc s2 → brdL.Box W b r → Calls Tryz.prog 50 #[.pointer (some ⟨b, 0, none⟩), .int .u64 n, .int .u64 0] W fun e w' => e = stopB q ∧ R w') :
    Calls Tryz.prog 32 #[.pointer (some ⟨b, 0, none⟩)] w fun e w' => e = stopB q ∧ R w' := by
  have HN1 := Lib.hid (fun w hg hcur hb => number_ok b bc n r s hc hlt (by rw [h1.2]; exact f1) h1.1 w hg hcur hb)
  rw [h1.2] at HN1
  have HN2 := Lib.hid (fun w hg hcur hb => number_ok b bc 0 r s1 hc hlt (by rw [h2.2]; exact f2) h2.1 w hg hcur hb)
  rw [h2.2] at HN2
  replace HN2 : Hid (∀ (w : World), Env w → CurB w bc s1 → brdL.Box w b r → Calls Tryz.prog 44 #[.pointer (some ⟨b, 0, none⟩)] w fun e w' => e = .returned (.int .u64 0) ∧ CurB w' bc s2 ∧ Chg [bc] w w') := HN2
  have hbc : b ∉ [bc] := by simp; omega
  have heb : Hid (1 ∉ [bc]) := Lib.hid (by simp; omega)
  have Hg := Lib.hid hg
  have Hcur := Lib.hid hcur
  have Hb := Lib.hid hb
  have Hm := Lib.hid hm
  have H1 := Lib.hid h1
  have H2 := Lib.hid h2
  have F1 := Lib.hid f1
  have F2 := Lib.hid f2
  clear hg hcur hb hm h1 h2 f1 f2
  go_enter Tryz.func32, Tryz.ntmps32
  go_wp2_with fail
  refine (HN1.out _ Hg.out Hcur.out Hb.out).mono ?_
  rintro e W1 ⟨rfl, hc1, k1⟩
  have B1 := Lib.hid (Hb.out.frameS k1 hbc)
  have G1 := Lib.hid (Hg.out.frame k1 heb.out)
  have CU1 := Lib.hid hc1
  have C1 := Lib.hid k1
  clear hc1 k1
  go_wp2_with fail
  refine (HN2.out _ G1.out CU1.out B1.out).mono ?_
  rintro e W2 ⟨rfl, hc2, k2⟩
  have B2 := Lib.hid (B1.out.frameS k2 hbc)
  have C2 : Hid (Chg [bc] w W2) := Lib.hid (C1.out.trans k2 (fun i hi _ => hi))
  have CU2 := Lib.hid hc2
  clear hc2
  clear k2
  go_wp2_with fail
  refine (Hm.out _ C2.out CU2.out B2.out).mono ?_
  rintro e W3 ⟨rfl, hr3⟩
  have R3 := Lib.hid hr3
  clear hr3
  exact ⟨rfl, rfl, R3.out⟩
theorem one_stop (q : Int) (b : Nat) (R : World → Prop) (w : World) (hm : Calls Tryz.prog 50 #[.pointer (some ⟨b, 0, none⟩), .int .u64 1, .int .u64 0] w fun e w' => e = stopB q ∧ R w') :
    Calls Tryz.prog 29 #[.pointer (some ⟨b, 0, none⟩)] w fun e w' => e = stopB q ∧ R w' := by
  have Hm := Lib.hid hm
  clear hm
  go_enter Tryz.func29, Tryz.ntmps29
  go_wp2_with fail
  refine (Hm.out).mono ?_
  rintro e W1 ⟨rfl, h1⟩
  exact ⟨rfl, rfl, h1⟩
end Go.Proofs.YtppbcgffdpdklaaGreatDoor
/- bind.Decode's state, and what each opcode makes of it. -/
namespace Go.Proofs.YtppbcgffdpdklaaGreatDoor
open Go.RowKit
set_option maxRecDepth 100000

def bR (bc : Nat) (m : Img) (imm : Int) (f : Fx) (is_ en : Bool) (so : SlV) : Brd := ⟨some ⟨bc, 0, none⟩, m, 1, imm, f, is_, 1, so, en⟩
/-- What Decode is called with. -/
structure BIn (w : World) (m : Img) (ls : List Seg) : Prop where
  hls : SegsB ls
  rd : segL.Rd w m.segs.v ls
  o1 : ∀ k, m.segs.v.ownBlock = some k → k < w.heap.size
/-- The reader at a place of its stream: where it stands, and what it has. -/
structure BSt (w : World) (B : List UInt8) (m : Img) (imm : Int) (p : Nat) (f : Fx) (is_ en : Bool) (fs : List Fx) (bc b : Nat) (W : World) : Prop where
  lo : w.heap.size ≤ bc
  hi : bc < b
  env : Env W
  cur : CurB W bc ⟨B, p, false, false⟩
  chg : Chg [] w W
  box : ∃ so : SlV, brdL.Box W b (bR bc m imm f is_ en so) ∧ FB W (b + 1) so.v fs
theorem BSt.lt {w W : World} {B : List UInt8} {m : Img} {imm : Int} {p : Nat} {f : Fx} {is_ en : Bool} {fs : List Fx} {bc b : Nat} (h : BSt w B m imm p f is_ en fs bc b W) : b < W.heap.size := by
  obtain ⟨so, h1, _⟩ := h.box
  exact h1.lt
theorem BSt.pure {w W W' : World} {B : List UInt8} {m : Img} {imm : Int} {p : Nat} {f : Fx} {is_ en : Bool} {fs : List Fx} {bc b : Nat} (h : BSt w B m imm p f is_ en fs bc b W) (k : Chg [] W W') : BSt w B m imm p f is_ en fs bc b W' := by
  obtain ⟨so, h1, h2⟩ := h.box
  exact ⟨h.lo, h.hi, h.env.frame k (by simp), h.cur.frame k, h.chg.then k, so, h1.frame k, h2.pure k⟩
/-- Behind a write to the reader's own blocks. -/
theorem BSt.next {w W W' : World} {B : List UInt8} {m : Img} {imm : Int} {p : Nat} {f : Fx} {is_ en : Bool} {fs : List Fx} {bc b : Nat} (h : BSt w B m imm p f is_ en fs bc b W) (hw : Env w) {so : SlV} (hf : FB W (b + 1) so.v fs) (hb : brdL.Box W b (bR bc m imm f is_ en so))
    {S : List Nat} (k : Chg S W W') (hS : ∀ i ∈ S, i = b ∨ i = bc ∨ so.v.ownBlock = some i) {imm' : Int} {p' : Nat} {f' : Fx} {is' en' : Bool} {fs' : List Fx} {so' : SlV} (hc' : CurB W' bc ⟨B, p', false, false⟩) (hb' : brdL.Box W' b (bR bc m imm' f' is' en' so')) (hf' : FB W' (b + 1) so'.v fs') :
    BSt w B m imm' p' f' is' en' fs' bc b W' ∧ KeepF W W' := by
  have hlo := h.lo
  have hhi := h.hi
  have hS2 : ∀ i ∈ S, bc ≤ i := fun i hi => by
    rcases hS i hi with e | e | e
    · omega
    · omega
    · have := (hf.lt i e).1; omega
  refine ⟨⟨h.lo, h.hi, h.env.frame k (fun hm => by have := hS2 _ hm; have := hw.pos; omega), hc', h.chg.trans k (fun i hm hi => by have := hS2 _ hm; omega), so', hb', hf'⟩, fun q hq => hq.frameS k (fun hm => ?_)⟩
  rcases hS q hm with e | e | e
  · exact fns_ne_b hb hq e
  · exact fns_ne_c h.cur hq e
  · exact fns_ne_o hf e hq rfl
/-- The opcode's byte is taken, its number kept. -/
theorem BSt.took {w W W' : World} {B : List UInt8} {m : Img} {imm0 : Int} {p : Nat} {f : Fx} {is_ en : Bool} {fs : List Fx} {bc b : Nat} (h : BSt w B m imm0 p f is_ en fs bc b W) (hw : Env w) (k : Chg [bc] W W') {p' : Nat} (hc : CurB W' bc ⟨B, p', false, false⟩) (imm : Int) : BSt w B m imm p' f is_ en fs bc b (W'.setCell ⟨b, 26, none⟩ (.int .u8 imm)) := by
  obtain ⟨so, h1, h2⟩ := h.box
  have hhi := h.hi
  have kk : Chg [bc, b] W (W'.setCell ⟨b, 26, none⟩ (.int .u8 imm)) := (k.mono (fun i hi _ => by simp at hi; simp [hi])).setCell _ _ (.inl (by simp))
  have hb' := h1.frameS k (by simp; omega)
  exact (h.next hw h2 h1 kk (fun i hi => by simp at hi; rcases hi with e | e; exact .inr (.inl e); exact .inl e) (hc.far2 (S := [b]) ((Chg.refl _ _).setCell _ _ (.inl (by simp))) (by simp; omega)) (Brd.set_imm hb' imm) (h2.frame kk (fun i hi hm => by have := (h2.lt i hi).1; simp at hm; omega))).1
section
variable {w W : World} {B : List UInt8} {m : Img} {imm : Int} {p : Nat} {f : Fx} {is_ en : Bool} {fs : List Fx} {bc b : Nat}
theorem BSt.own (h : BSt w B m imm p f is_ en fs bc b W) {so : SlV} (hf : FB W (b + 1) so.v fs) {S : List Nat} {W' : World} (k : Chg S W W') (hS : ∀ i ∈ S, i = b ∨ i = bc) : FB W' (b + 1) so.v fs :=
  hf.frame k (fun i hi hm => by have := (hf.lt i hi).1; have := h.hi; rcases hS i hm with e | e <;> omega)
theorem BSt.special (h : BSt w B m 14 p f is_ en fs bc b W) (hw : Env w) :
    Calls Tryz.prog 23 #[.pointer (some ⟨b, 0, none⟩)] W fun e w' => e = .returned (.tuple #[]) ∧ BSt w B m 14 p { f with ord := -2 } is_ en fs bc b w' ∧ KeepF W w' := by
  obtain ⟨so, h1, h2⟩ := h.box
  have hhi := h.hi
  refine (special_ok b _ rfl rfl W h1).mono ?_
  rintro e w' ⟨rfl, hb, hc⟩
  exact ⟨rfl, h.next hw h2 h1 hc (fun i hi => .inl (by simpa using hi)) (h.cur.far2 hc (by simp; omega)) hb (h.own h2 hc (fun i hi => .inl (by simpa using hi)))⟩
theorem BSt.ordinal {n : Nat} (h : BSt w B m (n : Int) p f is_ en fs bc b W) (hw : Env w) (hn : n ≤ m.deps.n) (hn2 : n ≤ 1000) (hd2 : m.deps.n ≤ 1000) :
    Calls Tryz.prog 21 #[.pointer (some ⟨b, 0, none⟩)] W fun e w' => e = .returned (.tuple #[]) ∧ BSt w B m (n : Int) p { f with ord := (n : Int) } is_ en fs bc b w' ∧ KeepF W w' := by
  obtain ⟨so, h1, h2⟩ := h.box
  have hhi := h.hi
  refine (ordinal_ok b n _ rfl rfl hn hn2 hd2 W h1).mono ?_
  rintro e w' ⟨rfl, hb, hc⟩
  exact ⟨rfl, h.next hw h2 h1 hc (fun i hi => .inl (by simpa using hi)) (h.cur.far2 hc (by simp; omega)) hb (h.own h2 hc (fun i hi => .inl (by simpa using hi)))⟩
theorem BSt.endS (h : BSt w B m imm p f is_ en fs bc b W) (hw : Env w) :
    Calls Tryz.prog 20 #[.pointer (some ⟨b, 0, none⟩)] W fun e w' => e = .returned (.tuple #[]) ∧ BSt w B m imm p f is_ true fs bc b w' ∧ KeepF W w' := by
  obtain ⟨so, h1, h2⟩ := h.box
  have hhi := h.hi
  refine (end_ok b _ rfl W h1).mono ?_
  rintro e w' ⟨rfl, hb, hc⟩
  exact ⟨rfl, h.next hw h2 h1 hc (fun i hi => .inl (by simpa using hi)) (h.cur.far2 hc (by simp; omega)) hb (h.own h2 hc (fun i hi => .inl (by simpa using hi)))⟩
theorem BSt.symbol (h : BSt w B m 0 p f is_ en fs bc b W) (hw : Env w) {p' : Nat} (sy : ByteArray) (hsy : sy = ⟨#[97]⟩ ∨ sy = ⟨#[95, 97]⟩) (hs : textS ⟨B, p, false, false⟩ 1099511627776 = ⟨B, p', false, false⟩) (hv : (⟨(textL ⟨B, p, false, false⟩ 1099511627776).toArray⟩ : ByteArray) = sy) :
    Calls Tryz.prog 24 #[.pointer (some ⟨b, 0, none⟩)] W fun e w' => e = .returned (.tuple #[]) ∧ BSt w B m 0 p' { f with sym := sy, weak := false } is_ en fs bc b w' ∧ KeepF W w' := by
  obtain ⟨so, h1, h2⟩ := h.box
  have hhi := h.hi
  refine (symbol_ok b bc _ _ _ sy hsy rfl rfl rfl h.hi hs rfl hv W h.cur h1).mono ?_
  rintro e w' ⟨rfl, hb, hcu, hc⟩
  have hS : ∀ i ∈ [b, bc], i = b ∨ i = bc := fun i hi => by simpa using hi
  exact ⟨rfl, h.next hw h2 h1 hc (fun i hi => (hS i hi).imp id .inl) hcu hb (h.own h2 hc hS)⟩
theorem BSt.place {im n p' A : Nat} (h : BSt w B m (im : Int) p f is_ en fs bc b W) (hw : Env w) {ls : List Seg} (hd : BIn w m ls) (hi2 : im < 256)
    (hv : lebV ulebR ⟨B, p, false, false⟩ = n ∧ lebS ulebR ⟨B, p, false, false⟩ = ⟨B, p', false, false⟩) (hA : placeS ls im n = ((A : Int), 0)) :
    Calls Tryz.prog 27 #[.pointer (some ⟨b, 0, none⟩)] W fun e w' => e = .returned (.tuple #[]) ∧ BSt w B m (im : Int) p' { f with at_ := (A : Int) } true en fs bc b w' ∧ KeepF W w' := by
  obtain ⟨so, h1, h2⟩ := h.box
  have hhi := h.hi
  have hlo := h.lo
  refine (place_ok b bc im n _ _ rfl hi2 rfl h.hi (by rw [hv.2]) hv.1 W h.env h.cur h1 ls (hd.rd.frame h.chg) (fun k hk hm => by have := hd.o1 k hk; simp at hm; omega) A hA).mono ?_
  rintro e w' ⟨rfl, hb, hcu, hc⟩
  rw [hv.2] at hcu
  have hS : ∀ i ∈ [b, bc], i = b ∨ i = bc := fun i hi => by simpa using hi
  exact ⟨rfl, h.next hw h2 h1 hc (fun i hi => (hS i hi).imp id .inl) hcu hb (h.own h2 hc hS)⟩
/-- binds, where they may be. -/
theorem BSt.binds {A n : Nat} (h : BSt w B m imm p f true en fs bc b W) (hw : Env w) {ls : List Seg} (hd : BIn w m ls) (hfA : f.at_ = A) (hsy : ¬ f.sym.toList = []) (hA2 : A + 8 * n < 18446744073709551616) (hwr : ∀ j, j < n → writS ls ((A + 8 * j : Nat) : Int) 8 = true) (hfs : fs.length + n ≤ 20000)
    {so : SlV} (h1 : brdL.Box W b (bR bc m imm f true en so)) (h2 : FB W (b + 1) so.v fs) {W1 : World} (k1 : Chg [bc] W W1) {p' : Nat} (hcu : CurB W1 bc ⟨B, p', false, false⟩) :
    Calls Tryz.prog 50 #[.pointer (some ⟨b, 0, none⟩), .int .u64 n, .int .u64 0] W1 fun e w' => e = .returned (.tuple #[]) ∧ (BSt w B m imm p' { f with at_ := ((A + 8 * n : Nat) : Int) } true en (fs ++ bndW f A n) bc b w' ∧ KeepF W w') := by
  have hhi := h.hi
  have hlo := h.lo
  have hb1 := h1.frameS k1 (by simp; omega)
  have hf1 := h.own h2 k1 (fun i hi => .inr (by simpa using hi))
  have hc1 : Chg [] w W1 := h.chg.trans k1 (fun i hm hi => by simp at hm; omega)
  have hbl := hb1.lt
  refine (binds_ok b (b + 1) _ A n hfA hA2 f.sym hsy rfl rfl rfl ls hd.hls hwr fs hfs W1 hb1 (hd.rd.frame hc1) hf1 (Nat.lt_succ_self _) (by omega) (fun k hk => by have := hd.o1 k hk; omega)).mono ?_
  rintro e w' ⟨rfl, so', hb2, hf2, hc2, _⟩
  have hS2 : ∀ i ∈ b :: so.v.ownBlock.toList, bc < i := fun i hi => by
    rcases List.mem_cons.1 hi with e | e
    · omega
    · have := (h2.lt i (by simpa using e)).1; omega
  have kk : Chg (bc :: b :: so.v.ownBlock.toList) W w' := (k1.mono (fun i hi _ => by simp at hi; simp [hi])).trans hc2 (fun i hi _ => List.mem_cons_of_mem _ hi)
  refine ⟨rfl, h.next hw h2 h1 kk (fun i hi => ?_) (hcu.far2 hc2 hS2) hb2 hf2⟩
  rcases List.mem_cons.1 hi with e | e
  · exact .inr (.inl e)
  · rcases List.mem_cons.1 e with e | e
    · exact .inl e
    · exact .inr (.inr (by simpa using e))
theorem BSt.many {A n p1 p2 : Nat} (h : BSt w B m imm p f true en fs bc b W) (hw : Env w) {ls : List Seg} (hd : BIn w m ls) (hfA : f.at_ = A) (hsy : ¬ f.sym.toList = [])
    (hv1 : lebV ulebR ⟨B, p, false, false⟩ = n ∧ lebS ulebR ⟨B, p, false, false⟩ = ⟨B, p1, false, false⟩) (hv2 : lebV ulebR ⟨B, p1, false, false⟩ = ((0 : Nat) : Int) ∧ lebS ulebR ⟨B, p1, false, false⟩ = ⟨B, p2, false, false⟩)
    (hA2 : A + 8 * n < 18446744073709551616) (hwr : ∀ j, j < n → writS ls ((A + 8 * j : Nat) : Int) 8 = true) (hfs : fs.length + n ≤ 20000) :
    Calls Tryz.prog 32 #[.pointer (some ⟨b, 0, none⟩)] W fun e w' => e = .returned (.tuple #[]) ∧ (BSt w B m imm p2 { f with at_ := ((A + 8 * n : Nat) : Int) } true en (fs ++ bndW f A n) bc b w' ∧ KeepF W w') := by
  obtain ⟨so, h1, h2⟩ := h.box
  have hlo := h.lo
  have hpos := hw.pos
  exact manyB_ret b bc n _ _ _ _ rfl h.hi hv1 hv2 rfl rfl W h.env (by omega) h.cur h1 _ (fun W1 k1 hcu _ => h.binds hw hd hfA hsy hA2 hwr hfs h1 h2 k1 hcu)
theorem BSt.one {A : Nat} (h : BSt w B m imm p f true en fs bc b W) (hw : Env w) {ls : List Seg} (hd : BIn w m ls) (hfA : f.at_ = A) (hsy : ¬ f.sym.toList = [])
    (hA2 : A + 8 * 1 < 18446744073709551616) (hwr : ∀ j, j < 1 → writS ls ((A + 8 * j : Nat) : Int) 8 = true) (hfs : fs.length + 1 ≤ 20000) :
    Calls Tryz.prog 29 #[.pointer (some ⟨b, 0, none⟩)] W fun e w' => e = .returned (.tuple #[]) ∧ (BSt w B m imm p { f with at_ := ((A + 8 * 1 : Nat) : Int) } true en (fs ++ bndW f A 1) bc b w' ∧ KeepF W w') := by
  obtain ⟨so, h1, h2⟩ := h.box
  exact one_ok14 b _ W (h.binds (n := 1) hw hd hfA hsy hA2 hwr hfs h1 h2 ((Chg.refl [] W).add) h.cur)
theorem BSt.many_big {n p1 p2 : Nat} (h : BSt w B m imm p f true en fs bc b W) (hw : Env w) (hsy : f.sym = ⟨#[97]⟩)
    (hv1 : lebV ulebR ⟨B, p, false, false⟩ = n ∧ lebS ulebR ⟨B, p, false, false⟩ = ⟨B, p1, false, false⟩) (hv2 : lebV ulebR ⟨B, p1, false, false⟩ = ((0 : Nat) : Int) ∧ lebS ulebR ⟨B, p1, false, false⟩ = ⟨B, p2, false, false⟩)
    (hn : n < 18446744073709551616) (hfs : fs.length ≤ 20000) (hbig : 20000 < fs.length + n) :
    Calls Tryz.prog 32 #[.pointer (some ⟨b, 0, none⟩)] W fun e w' => e = stopB 11 ∧ Chg [] w w' := by
  obtain ⟨so, h1, h2⟩ := h.box
  have hlo := h.lo
  have hpos := hw.pos
  refine manyB_stop 11 b bc n _ _ _ _ rfl h.hi hv1 hv2 rfl rfl W h.env (by omega) h.cur h1 _ (fun W1 k1 hcu hb1 => ?_)
  refine (binds_big b (b + 1) _ n hn 0 _ (.inl hsy) rfl rfl rfl fs hfs hbig W1 hb1 (h.own h2 k1 (fun i hi => .inr (by simpa using hi)))).mono ?_
  rintro e w' ⟨rfl, rfl⟩
  exact ⟨rfl, h.chg.trans k1 (fun i hm hi => by simp at hm; omega)⟩
theorem BSt.one_not (h : BSt w B m imm p f true en fs bc b W) (hsy : f.sym = ⟨#[]⟩) :
    Calls Tryz.prog 29 #[.pointer (some ⟨b, 0, none⟩)] W fun e w' => e = stopB 14 ∧ Chg [] w w' := by
  obtain ⟨so, h1, h2⟩ := h.box
  refine one_stop 14 b _ W ((binds_not b _ 1 0 hsy rfl W h1).mono ?_)
  rintro e w' ⟨rfl, rfl⟩
  exact ⟨rfl, h.chg⟩
end
end Go.Proofs.YtppbcgffdpdklaaGreatDoor
