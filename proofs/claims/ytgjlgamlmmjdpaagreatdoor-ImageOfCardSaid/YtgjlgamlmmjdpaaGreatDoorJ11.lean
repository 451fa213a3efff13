/- Lemmas, laid together: part 11 of 43. Conditions: none but each lemma's own. -/
import Derived.Test.YtgjlgamlmmjdpaaGreatDoorJ10
/- load.Segment. -/
namespace Go.Proofs.YtgjlgamlmmjdpaaGreatDoor
open Go.RowKit
set_option maxRecDepth 100000

/-- Why a command is not opened (0: it is). -/
def opE (l : List UInt8) : Int := if l.length < 8 then 3 else if (l.length : Int) < leastF (n4 l 0) then 3 else 0
theorem open_bad (l : List UInt8) (h : ¬ opE l = 0) (hl : l.length ≤ 140737488355328) (v : Value) (w : World) (hg : Env w) (rd : byteL.Rd w v l) :
    Calls Tryz.prog 37 #[v] w fun e w' => ∃ k : Nat, k < 4294967296 ∧ e = .returned (.tuple #[.pointer none, .int .u32 k, .int .i64 3]) ∧ Chg [] w w' := by
  refine (open_any l hl v w hg rd).mono ?_
  rintro e W ⟨hc, hp⟩
  unfold opE at h
  by_cases h8 : l.length < 8
  · rw [if_pos h8] at hp
    exact ⟨0, by decide, hp, hc⟩
  · rw [if_neg h8] at hp h
    by_cases h9 : (l.length : Int) < leastF (n4 l 0)
    · rw [if_pos h9] at hp
      exact ⟨n4 l 0, n4_lt _ _, hp, hc⟩
    · rw [if_neg h9] at h
      exact absurd rfl h
theorem open_ok (l : List UInt8) (h : opE l = 0) (hl : l.length ≤ 140737488355328) (v : Value) (w : World) (hg : Env w) (rd : byteL.Rd w v l) :
    Calls Tryz.prog 37 #[v] w fun e w' => ∃ c, e = .returned (.tuple #[.pointer (some ⟨c, 0, none⟩), .int .u32 (n4 l 0), .int .i64 0]) ∧ w.heap.size ≤ c ∧ CurB w' c (cAt l 8) ∧ Chg [] w w' := by
  refine (open_any l hl v w hg rd).mono ?_
  rintro e W ⟨hc, hp⟩
  unfold opE at h
  by_cases h8 : l.length < 8
  · rw [if_pos h8] at h; exact absurd h (by decide)
  · rw [if_neg h8] at hp h
    by_cases h9 : (l.length : Int) < leastF (n4 l 0)
    · rw [if_pos h9] at h; exact absurd h (by decide)
    · rw [if_neg h9] at hp
      obtain ⟨c, h1, h2, h3⟩ := hp
      exact ⟨c, h1, h2, h3, hc⟩
theorem opE_len {l : List UInt8} (h : opE l = 0) : 8 ≤ l.length ∧ leastF (n4 l 0) ≤ l.length := by
  unfold opE at h
  by_cases h8 : l.length < 8
  · rw [if_pos h8] at h; exact absurd h (by decide)
  · rw [if_neg h8] at h
    by_cases h9 : (l.length : Int) < leastF (n4 l 0)
    · rw [if_pos h9] at h; exact absurd h (by decide)
    · omega
/-- The first k sections of a segment's command. -/
def secsN (l : List UInt8) (k : Nat) : List Sec := (List.range k).map fun i => secAt l (72 + 80 * i)
theorem secsN_len (l : List UInt8) (k : Nat) : (secsN l k).length = k := by simp [secsN]
theorem secsN_succ (l : List UInt8) (k : Nat) : secsN l (k + 1) = secsN l k ++ [secAt l (72 + 80 * k)] := by simp [secsN, List.range_succ]
/-- Is all fine with the first k sections, and with the protection? -/
def sgFine (l : List UInt8) (k : Nat) : Bool := decide (n4 l 60 ≤ 7) && (secsN l k).all fun x => decide (x.seg = tx l 8)
theorem sgFine_succ (l : List UInt8) (k : Nat) : sgFine l (k + 1) = (sgFine l k && decide ((secAt l (72 + 80 * k)).seg = tx l 8)) := by
  unfold sgFine
  rw [secsN_succ, List.all_append]
  simp [Bool.and_assoc]
/-- Why a segment's command is none (0: it is one). -/
def segE (l : List UInt8) : Int :=
  if ¬ opE l = 0 then 3 else if n4 l 0 ≠ 25 then 7 else if l.length < 72 + 80 * n4 l 64 then 3 else if sgFine l (n4 l 64) = false then 9 else if 64 < n4 l 64 then 11 else 0
/-- A segment's own fields. -/
def segX (l : List UInt8) (s : SlV) : Seg := ⟨tx l 8, n8 l 24, n8 l 32, n8 l 40, n8 l 48, n4 l 60, s⟩
theorem Tryz.tSg : Lay.Ty segL Tryz.prog 42 := Lay.Ty.mk' (by kernel_rfl) (by kernel_rfl)
theorem Tryz.infoSec : Lay.Info Tryz.prog 40 85 secL.n 64 := Lay.Info.mk' (z := .agg (secL.f secL.d).toArray) (by kernel_rfl) (by kernel_rfl) rfl
theorem sec_built (x : Sec) (w : World) : (Instr.buildSlice 40 1 #[(0, secL.val x)]).run Tryz.prog w = .ok (.slice (some ⟨w.heap.size, 0, none⟩) 1 1) (w.alloc (.cells (secL.f x).toArray 85)) := by
  show (Instr.buildSlice 40 1 #[(0, .agg #[.string x.name, .string x.seg, .int .u64 x.addr, .int .u64 x.size, .int .u64 x.off, .int .i64 x.kind])]).run Tryz.prog w = .ok (.slice (some ⟨w.heap.size, 0, none⟩) 1 1) (w.alloc (.cells #[.string x.name, .string x.seg, .int .u64 x.addr, .int .u64 x.size, .int .u64 x.off, .int .i64 x.kind] 85))
  go_simp
set_option maxHeartbeats 4000000 in
theorem Segment_bad (l : List UInt8) (h : ¬ opE l = 0) (hl : l.length ≤ 140737488355328) (v : Value) (w : World) (hg : Env w) (rd : byteL.Rd w v l) :
    Calls Tryz.prog 64 #[v] w fun e w' => e = .returned (.tuple #[segL.val segL.d, .int .i64 3]) ∧ Chg [] w w' := by
  have H := Lib.hid h
  have Hl := Lib.hid hl
  have Hg := Lib.hid hg
  have Rd := Lib.hid rd
  clear h hl hg rd
  go_enter Tryz.func64, Tryz.ntmps64
  go_wp2_with ((with_reducible refine Lay.alL Tryz.tSg ?_); intro Wa ba eba cba xba; replace eba := Lib.hid eba; replace cba := Lib.hid cba; replace xba := Lib.hid xba; refine Hid.out ?_)
  refine Lib.hid ?_
  go_wp2_with fail
  refine (open_bad l H.out Hl.out v _ (Hg.out.frame cba.out (by simp)) (Rd.out.frame cba.out)).mono ?_
  rintro e W1 ⟨k, hk, rfl, hch⟩
  have X1 := Lib.hid (xba.out.frame hch)
  have C1 := Lib.hid (cba.out.then hch)
  clear hch
  go_wp2_with ((with_reducible refine Lay.stL Tryz.tSg (segL.d) (X1.out) ?_ ?_ ?_); exact rfl; exact rfl; intro W2 cW2 xW2; replace cW2 := Lib.hid cW2; replace xW2 := Lib.hid xW2; refine Hid.out ?_)
  refine Lib.hid ?_
  go_wp2
  refine Lay.ret2 Tryz.tSg rfl xW2.out rfl rfl ?_
  exact ⟨rfl, C1.out.new cW2.out (by rw [eba.out]; exact Nat.le_refl _)⟩
end Go.Proofs.YtgjlgamlmmjdpaaGreatDoor
/- load.Segment, where the command is opened. -/
namespace Go.Proofs.YtgjlgamlmmjdpaaGreatDoor
open Go.RowKit
set_option maxRecDepth 100000

set_option maxHeartbeats 4000000 in
theorem Segment_cmd (l : List UInt8) (h : opE l = 0) (h2 : n4 l 0 ≠ 25) (hl : l.length ≤ 140737488355328) (v : Value) (w : World) (hg : Env w) (rd : byteL.Rd w v l) :
    Calls Tryz.prog 64 #[v] w fun e w' => e = .returned (.tuple #[segL.val segL.d, .int .i64 7]) ∧ Chg [] w w' := by
  have d2 : (((n4 l 0 : Nat) : Int) != 25) = true := by rw [bne_iff_ne]; omega
  have H := Lib.hid h
  have Hl := Lib.hid hl
  have Hg := Lib.hid hg
  have Rd := Lib.hid rd
  have H2 := Lib.hid h2
  clear h hl hg rd h2
  go_enter Tryz.func64, Tryz.ntmps64
  go_wp2_with ((with_reducible refine Lay.alL Tryz.tSg ?_); intro Wa ba eba cba xba; replace eba := Lib.hid eba; replace cba := Lib.hid cba; replace xba := Lib.hid xba; refine Hid.out ?_)
  refine Lib.hid ?_
  go_wp2_with fail
  refine (open_ok l H.out Hl.out v _ (Hg.out.frame cba.out (by simp)) (Rd.out.frame cba.out)).mono ?_
  rintro e W0 ⟨c, rfl, hlo, hcu, hch⟩
  have XA0 := Lib.hid (xba.out.frame hch)
  have C00 := Lib.hid (cba.out.then hch)
  have CU0 := Lib.hid hcu
  have Hlo := Lib.hid hlo
  clear hcu hlo
  clear hch
  go_wp2_with ((with_reducible refine Lay.stL Tryz.tSg (segL.d) (XA0.out) ?_ ?_ ?_); exact rfl; exact rfl; intro W2 cW2 xW2; replace cW2 := Lib.hid cW2; replace xW2 := Lib.hid xW2; refine Hid.out ?_)
  refine Lib.hid ?_
  go_wp2
  refine Lay.ret2 Tryz.tSg rfl xW2.out rfl rfl ?_
  exact ⟨rfl, C00.out.new cW2.out (by rw [eba.out]; exact Nat.le_refl _)⟩
set_option maxHeartbeats 4000000 in
theorem Segment_short (l : List UInt8) (h : opE l = 0) (h2 : n4 l 0 = 25) (h3 : l.length < 72 + 80 * n4 l 64) (hl : l.length ≤ 140737488355328) (v : Value) (w : World) (hg : Env w) (rd : byteL.Rd w v l) :
    Calls Tryz.prog 64 #[v] w fun e w' => e = .returned (.tuple #[segL.val segL.d, .int .i64 3]) ∧ Chg [] w w' := by
  have h72 : 72 ≤ l.length := by have := (opE_len h).2; rw [h2] at this; have h3 : leastF ((25 : Nat) : Int) = 72 := by decide
                                 omega
  have d2 : (((n4 l 0 : Nat) : Int) != 25) = false := by rw [h2]; decide
  have hm := n4_lt l 64
  have H := Lib.hid h
  have Hl := Lib.hid hl
  have Hg := Lib.hid hg
  have Rd := Lib.hid rd
  have H2 := Lib.hid h2
  have Hl4 := Lib.hid h72
  have H3 := Lib.hid h3
  clear h hl hg rd h2 h72 h3
  go_enter Tryz.func64, Tryz.ntmps64
  go_wp2_with ((with_reducible refine Lay.alL Tryz.tSg ?_); intro Wa ba eba cba xba; replace eba := Lib.hid eba; replace cba := Lib.hid cba; replace xba := Lib.hid xba; refine Hid.out ?_)
  refine Lib.hid ?_
  go_wp2_with fail
  refine (open_ok l H.out Hl.out v _ (Hg.out.frame cba.out (by simp)) (Rd.out.frame cba.out)).mono ?_
  rintro e W0 ⟨c, rfl, hlo, hcu, hch⟩
  have XA0 := Lib.hid (xba.out.frame hch)
  have C00 := Lib.hid (cba.out.then hch)
  have CU0 := Lib.hid hcu
  have Hlo := Lib.hid hlo
  clear hcu hlo
  clear hch
  obtain ⟨a, cap, rfl, hc1, hc2⟩ := Rd.out.shape
  have C0 : Hid (Chg [c] W0 W0) := Lib.hid (Chg.refl _ _)
  go_wp2_with fail
  refine (fld_at c l (8) (24) _ CU0.out (by have := Hl4.out; omega) (by omega)).mono ?_
  rintro e W1 ⟨rfl, hcu, hch⟩
  have C1 := Lib.hid (C0.out.same hch)
  have CU1 := Lib.hid hcu
  clear hcu
  clear hch
  go_wp2_with fail
  refine (num8_at c l (24) (32) _ CU1.out (by have := Hl4.out; omega) (by omega)).mono ?_
  rintro e W2 ⟨rfl, hcu, hch⟩
  have C2 := Lib.hid (C1.out.same hch)
  have CU2 := Lib.hid hcu
  clear hcu
  clear hch
  go_wp2_with fail
  refine (num8_at c l (32) (40) _ CU2.out (by have := Hl4.out; omega) (by omega)).mono ?_
  rintro e W3 ⟨rfl, hcu, hch⟩
  have C3 := Lib.hid (C2.out.same hch)
  have CU3 := Lib.hid hcu
  clear hcu
  clear hch
  go_wp2_with fail
  refine (num8_at c l (40) (48) _ CU3.out (by have := Hl4.out; omega) (by omega)).mono ?_
  rintro e W4 ⟨rfl, hcu, hch⟩
  have C4 := Lib.hid (C3.out.same hch)
  have CU4 := Lib.hid hcu
  clear hcu
  clear hch
  go_wp2_with fail
  refine (num8_at c l (48) (56) _ CU4.out (by have := Hl4.out; omega) (by omega)).mono ?_
  rintro e W5 ⟨rfl, hcu, hch⟩
  have C5 := Lib.hid (C4.out.same hch)
  have CU5 := Lib.hid hcu
  clear hcu
  clear hch
  go_wp2_with ((with_reducible refine Lay.alL Tryz.tSg ?_); intro Wb bs ebs cbs xbs; replace ebs := Lib.hid ebs; replace cbs := Lib.hid cbs; replace xbs := Lib.hid xbs; refine Hid.out ?_)
  refine Lib.hid ?_
  go_wp2_with ((with_reducible refine Lay.stL Tryz.tSg ({ segX l ⟨none, 0, 0⟩ with prot := 0 } : Seg) (xbs.out) ?_ ?_ ?_); exact rfl; exact rfl; intro V5 cV5 xV5; replace cV5 := Lib.hid cV5; replace xV5 := Lib.hid xV5; refine Hid.out ?_)
  refine Lib.hid ?_
  have hbs : c < bs ∧ W0.heap.size ≤ bs := by rw [ebs.out]; have h1 := CU5.out.lt; have h2 := C5.out.size; omega
  have CU6 := Lib.hid ((CU5.out.frame cbs.out).far cV5.out (by simp; exact hbs.1))
  have D6 := Lib.hid ((C5.out.then cbs.out).new cV5.out hbs.2)
  have C6 : Hid (Chg [c] V5 V5) := Lib.hid (Chg.refl _ _)
  go_wp2_with fail
  refine (num4_at c l (56) (60) _ CU6.out (by have := Hl4.out; omega) (by omega)).mono ?_
  rintro e W7 ⟨rfl, hcu, hch⟩
  have C7 := Lib.hid (C6.out.same hch)
  have CU7 := Lib.hid hcu
  clear hcu
  clear hch
  go_wp2_with fail
  refine (num4_at c l (60) (64) _ CU7.out (by have := Hl4.out; omega) (by omega)).mono ?_
  rintro e W8 ⟨rfl, hcu, hch⟩
  have C8 := Lib.hid (C7.out.same hch)
  have CU8 := Lib.hid hcu
  clear hcu
  clear hch
  go_wp2_with fail
  refine (num4_at c l (64) (68) _ CU8.out (by have := Hl4.out; omega) (by omega)).mono ?_
  rintro e W9 ⟨rfl, hcu, hch⟩
  have C9 := Lib.hid (C8.out.same hch)
  have CU9 := Lib.hid hcu
  clear hcu
  clear hch
  go_wp2_with fail
  refine (num4_at c l (68) (72) _ CU9.out (by have := Hl4.out; omega) (by omega)).mono ?_
  rintro e WA ⟨rfl, hcu, hch⟩
  have CA := Lib.hid (C9.out.same hch)
  have CUA := Lib.hid hcu
  clear hcu
  clear hch
  have hac : ba ≠ c := by have h1 := Hlo.out; have h2 := xba.out.lt; omega
  have XAA := Lib.hid (XA0.out.frameS (D6.out.same CA.out) (by simp; exact hac))
  have hl' := Hl.out
  have d3 : decide ((l.length : Int) < 72 + 80 * (n4 l 64 : Int)) = true := decide_eq_true (by have := H3.out; omega)
  go_wp2_with ((with_reducible refine Lay.stL Tryz.tSg (segL.d) (XAA.out) ?_ ?_ ?_); exact rfl; exact rfl; intro WE cWE xWE; replace cWE := Lib.hid cWE; replace xWE := Lib.hid xWE; refine Hid.out ?_)
  refine Lib.hid ?_
  go_wp2
  refine Lay.ret2 Tryz.tSg rfl xWE.out rfl rfl ?_
  exact ⟨rfl, (C00.out.new (D6.out.same CA.out) (by have := Hlo.out; have := cba.out.size; omega)).new cWE.out (by rw [eba.out]; exact Nat.le_refl _)⟩
end Go.Proofs.YtgjlgamlmmjdpaaGreatDoor
/- load.Segment, the whole. -/
namespace Go.Proofs.YtgjlgamlmmjdpaaGreatDoor
open Go.RowKit
set_option maxRecDepth 100000

/-- The state of a segment's loop. -/
structure SgR (w0 : World) (B ba c bs : Nat) (l : List UInt8) (x : Seg) (p : Nat) (ks : List Sec) (wr : World) : Prop where
  cur : CurB wr c (cAt l p)
  bx : segL.Box wr bs x
  bf : secL.Buf 85 wr B (.slice x.secs.a x.secs.n x.secs.cap) ks
  ra : segL.Box wr ba segL.d
  sz : B ≤ wr.heap.size
  chg : Chg [] w0 wr
theorem SgR.step {w0 : World} {B ba c bs : Nat} {l : List UInt8} {x : Seg} {p q : Nat} {ks : List Sec} {w w' : World} (h : SgR w0 B ba c bs l x p ks w) (hc : CurB w' c (cAt l q)) (k : Chg [c] w w') (h1 : ba < c) (h2 : c < bs) (h3 : bs < B) (h0 : w0.heap.size ≤ ba) : SgR w0 B ba c bs l x q ks w' :=
  ⟨hc, h.bx.frameS k (by simp; omega), h.bf.frame k (fun b hb hm => by have := (h.bf.lt b hb).1; simp at hm; omega), h.ra.frameS k (by simp; omega), Nat.le_trans h.sz k.size, h.chg.new k (by omega)⟩
theorem SgR.pure {w0 : World} {B ba c bs : Nat} {l : List UInt8} {x : Seg} {p : Nat} {ks : List Sec} {w w' : World} (h : SgR w0 B ba c bs l x p ks w) (k : Chg [] w w') : SgR w0 B ba c bs l x p ks w' :=
  ⟨h.cur.frame k, h.bx.frame k, h.bf.pure k, h.ra.frame k, Nat.le_trans h.sz k.size, h.chg.then k⟩
theorem SgR.far {w0 : World} {B ba c bs g : Nat} {l : List UInt8} {x : Seg} {p : Nat} {ks : List Sec} {w w' : World} (h : SgR w0 B ba c bs l x p ks w) (k : Chg [g] w w') (hg : w.heap.size ≤ g) (h1 : ba < c) (h2 : c < bs) (h3 : bs < B) (h0 : w0.heap.size ≤ ba) : SgR w0 B ba c bs l x p ks w' :=
  have hz := h.sz
  ⟨h.cur.far k (by simp; omega), h.bx.frameS k (by simp; omega), h.bf.frame k (fun b hb hm => by have := (h.bf.lt b hb).2; simp at hm; omega), h.ra.frameS k (by simp; omega), Nat.le_trans h.sz k.size, h.chg.new k (by omega)⟩
/-- The state where a row of sections has grown, ahead of its being laid. -/
structure SgG (w0 : World) (B ba c bs : Nat) (l : List UInt8) (x : Seg) (p : Nat) (wr : World) : Prop where
  cur : CurB wr c (cAt l p)
  bx : segL.Box wr bs x
  ra : segL.Box wr ba segL.d
  sz : B ≤ wr.heap.size
  chg : Chg [] w0 wr
theorem SgR.grew {w0 : World} {B ba c bs : Nat} {l : List UInt8} {x : Seg} {p : Nat} {ks : List Sec} {w w' : World} (h : SgR w0 B ba c bs l x p ks w) (g : w.grownBy w' (Value.slice x.secs.a x.secs.n x.secs.cap).ownBlock) (h1 : ba < c) (h2 : c < bs) (h3 : bs < B) (h0 : w0.heap.size ≤ ba) : SgG w0 B ba c bs l x p w' := by
  have k := Lay.chg_grown g
  have hb : ∀ i ∈ (Value.slice x.secs.a x.secs.n x.secs.cap).ownBlock.toList, B ≤ i := fun i hi => (h.bf.lt i (by simpa using hi)).1
  exact ⟨h.cur.far k (fun i hi => by have := hb i hi; omega), h.bx.frameS k (fun hm => by have := hb _ hm; omega), h.ra.frameS k (fun hm => by have := hb _ hm; omega), Nat.le_trans h.sz k.size, h.chg.trans k (fun i hi hw => by have := hb i hi; omega)⟩
theorem SgR.app {w0 : World} {B ba c bs : Nat} {l : List UInt8} {sv : SlV} {p : Nat} {ks : List Sec} {w : World} {a : Option Addr} {n cap : Nat} (h : SgG w0 B ba c bs l (segX l sv) p w) (hv : secL.Buf 85 w B (.slice a n cap) ks) (h1 : ba < c) (h2 : c < bs) (h3 : bs < B) (h0 : w0.heap.size ≤ ba) : SgR w0 B ba c bs l (segX l ⟨a, n, cap⟩) p ks (w.setCell ⟨bs, 6, none⟩ (.slice a n cap)) := by
  have k : Chg [bs] w (w.setCell ⟨bs, 6, none⟩ (.slice a n cap)) := (Chg.refl _ _).setCell _ _ (.inl (by simp))
  exact ⟨h.cur.far k (by simp; omega), Seg.set_secs h.bx ⟨a, n, cap⟩, hv.frame k (fun i hi hm => by have := (hv.lt i hi).1; simp at hm; omega), h.ra.frameS k (by simp; omega), Nat.le_trans h.sz k.size, h.chg.new k (by omega)⟩
theorem str_beq (a b : ByteArray) : (a.toList == b.toList) = decide (a = b) := by
  rw [Lib.toList_data, Lib.toList_data]
  by_cases h : a = b
  · subst h; simp
  · rw [decide_eq_false h, beq_eq_false_iff_ne]
    exact fun e => h (ByteArray.ext (Array.toList_inj.1 e))
set_option maxHeartbeats 8000000 in
theorem Segment_main (l : List UInt8) (h : opE l = 0) (h2 : n4 l 0 = 25) (h3 : ¬ l.length < 72 + 80 * n4 l 64) (hl : l.length ≤ 140737488355328) (v : Value) (w : World) (hg : Env w) (rd : byteL.Rd w v l) :
    Calls Tryz.prog 64 #[v] w fun e w' => ∃ (s : Seg) (E : Int), e = .returned (.tuple #[segL.val s, .int .i64 E]) ∧ E = segE l ∧ Chg [] w w' ∧ (E = 0 → s = segX l s.secs ∧ secL.Buf 85 w' w.heap.size (.slice s.secs.a s.secs.n s.secs.cap) (secsN l (n4 l 64))) := by
  have h72 : 72 ≤ l.length := by omega
  have d2 : (((n4 l 0 : Nat) : Int) != 25) = false := by rw [h2]; decide
  have hm := n4_lt l 64
  have hmp := n4_lt l 60
  have hse : segE l = if sgFine l (n4 l 64) = false then 9 else if 64 < n4 l 64 then 11 else 0 := by
    unfold segE
    rw [if_neg (by simp [h]), if_neg (by simp [h2]), if_neg h3]
  have H := Lib.hid h
  have Hl := Lib.hid hl
  have Hg := Lib.hid hg
  have Rd := Lib.hid rd
  have H2 := Lib.hid h2
  have Hl4 := Lib.hid h72
  have H3 := Lib.hid h3
  have Hse := Lib.hid hse
  clear h hl hg rd h2 h72 h3 hse
  go_enter Tryz.func64, Tryz.ntmps64
  go_wp2_with ((with_reducible refine Lay.alL Tryz.tSg ?_); intro Wa ba eba cba xba; replace eba := Lib.hid eba; replace cba := Lib.hid cba; replace xba := Lib.hid xba; refine Hid.out ?_)
  refine Lib.hid ?_
  go_wp2_with fail
  refine (open_ok l H.out Hl.out v _ (Hg.out.frame cba.out (by simp)) (Rd.out.frame cba.out)).mono ?_
  rintro e W0 ⟨c, rfl, hlo, hcu, hch⟩
  have XA0 := Lib.hid (xba.out.frame hch)
  have C00 := Lib.hid (cba.out.then hch)
  have CU0 := Lib.hid hcu
  have Hlo := Lib.hid hlo
  clear hcu hlo
  clear hch
  obtain ⟨a, cap, rfl, hc1, hc2⟩ := Rd.out.shape
  have C0 : Hid (Chg [c] W0 W0) := Lib.hid (Chg.refl _ _)
  go_wp2_with fail
  refine (fld_at c l (8) (24) _ CU0.out (by have := Hl4.out; omega) (by omega)).mono ?_
  rintro e W1 ⟨rfl, hcu, hch⟩
  have C1 := Lib.hid (C0.out.same hch)
  have CU1 := Lib.hid hcu
  clear hcu
  clear hch
  go_wp2_with fail
  refine (num8_at c l (24) (32) _ CU1.out (by have := Hl4.out; omega) (by omega)).mono ?_
  rintro e W2 ⟨rfl, hcu, hch⟩
  have C2 := Lib.hid (C1.out.same hch)
  have CU2 := Lib.hid hcu
  clear hcu
  clear hch
  go_wp2_with fail
  refine (num8_at c l (32) (40) _ CU2.out (by have := Hl4.out; omega) (by omega)).mono ?_
  rintro e W3 ⟨rfl, hcu, hch⟩
  have C3 := Lib.hid (C2.out.same hch)
  have CU3 := Lib.hid hcu
  clear hcu
  clear hch
  go_wp2_with fail
  refine (num8_at c l (40) (48) _ CU3.out (by have := Hl4.out; omega) (by omega)).mono ?_
  rintro e W4 ⟨rfl, hcu, hch⟩
  have C4 := Lib.hid (C3.out.same hch)
  have CU4 := Lib.hid hcu
  clear hcu
  clear hch
  go_wp2_with fail
  refine (num8_at c l (48) (56) _ CU4.out (by have := Hl4.out; omega) (by omega)).mono ?_
  rintro e W5 ⟨rfl, hcu, hch⟩
  have C5 := Lib.hid (C4.out.same hch)
  have CU5 := Lib.hid hcu
  clear hcu
  clear hch
  go_wp2_with ((with_reducible refine Lay.alL Tryz.tSg ?_); intro Wb bs ebs cbs xbs; replace ebs := Lib.hid ebs; replace cbs := Lib.hid cbs; replace xbs := Lib.hid xbs; refine Hid.out ?_)
  refine Lib.hid ?_
  go_wp2_with ((with_reducible refine Lay.stL Tryz.tSg ({ segX l ⟨none, 0, 0⟩ with prot := 0 } : Seg) (xbs.out) ?_ ?_ ?_); exact rfl; exact rfl; intro V5 cV5 xV5; replace cV5 := Lib.hid cV5; replace xV5 := Lib.hid xV5; refine Hid.out ?_)
  refine Lib.hid ?_
  have hbs : c < bs ∧ W0.heap.size ≤ bs := by rw [ebs.out]; have h1 := CU5.out.lt; have h2 := C5.out.size; omega
  have CU6 := Lib.hid ((CU5.out.frame cbs.out).far cV5.out (by simp; exact hbs.1))
  have D6 := Lib.hid ((C5.out.then cbs.out).new cV5.out hbs.2)
  have C6 : Hid (Chg [c] V5 V5) := Lib.hid (Chg.refl _ _)
  go_wp2_with fail
  refine (num4_at c l (56) (60) _ CU6.out (by have := Hl4.out; omega) (by omega)).mono ?_
  rintro e W7 ⟨rfl, hcu, hch⟩
  have C7 := Lib.hid (C6.out.same hch)
  have CU7 := Lib.hid hcu
  clear hcu
  clear hch
  go_wp2_with fail
  refine (num4_at c l (60) (64) _ CU7.out (by have := Hl4.out; omega) (by omega)).mono ?_
  rintro e W8 ⟨rfl, hcu, hch⟩
  have C8 := Lib.hid (C7.out.same hch)
  have CU8 := Lib.hid hcu
  clear hcu
  clear hch
  go_wp2_with fail
  refine (num4_at c l (64) (68) _ CU8.out (by have := Hl4.out; omega) (by omega)).mono ?_
  rintro e W9 ⟨rfl, hcu, hch⟩
  have C9 := Lib.hid (C8.out.same hch)
  have CU9 := Lib.hid hcu
  clear hcu
  clear hch
  go_wp2_with fail
  refine (num4_at c l (68) (72) _ CU9.out (by have := Hl4.out; omega) (by omega)).mono ?_
  rintro e WA ⟨rfl, hcu, hch⟩
  have CA := Lib.hid (C9.out.same hch)
  have CUA := Lib.hid hcu
  clear hcu
  clear hch
  have hl' := Hl.out
  have d3 : decide ((l.length : Int) < 72 + 80 * (n4 l 64 : Int)) = false := decide_eq_false (by have := H3.out; omega)
  have hord : w.heap.size ≤ ba ∧ ba < c ∧ c < bs ∧ bs < WA.heap.size := ⟨by rw [eba.out]; exact Nat.le_refl _, by have h1 := Hlo.out; have h2 := xba.out.lt; omega, hbs.1, Nat.lt_of_lt_of_le xV5.out.lt CA.out.size⟩
  obtain ⟨B, hB⟩ : ∃ B, B = WA.heap.size := ⟨_, rfl⟩
  rw [← hB] at hord
  obtain ⟨ho0, ho1, ho2, ho3⟩ := hord
  have XBA := Lib.hid (xV5.out.frameS CA.out (by simp; omega))
  have XAA := Lib.hid (XA0.out.frameS (D6.out.same CA.out) (by simp; omega))
  have CTA := Lib.hid (C00.out.new (D6.out.same CA.out) (by have := Hlo.out; have := cba.out.size; omega))
  have z5 := XBA.out.frozen 5
  have y5 := Seg.c_prot XBA.out
  have HB := Lib.hid hB
  clear hB
  have hmi : ((n4 l 64 : Nat) : Int) ≤ 9223372036854775807 := by omega
  have hmj : ((n4 l 60 : Nat) : Int) ≤ 9223372036854775807 := by omega
  go_wp2_with fail
  refine Lay.with_world (fun W => SgR w B ba c bs l (segX l ⟨none, 0, 0⟩) 72 [] W) ⟨CUA.out.far (S := [bs]) ((Chg.refl _ _).setCell _ _ (.inl (by simp))) (by simp; exact ho2), Seg.set_prot XBA.out _, Lay.Buf.nil _ _, XAA.out.setCell _ _ (by show ba ≠ bs; omega), by rw [HB.out]; exact ((Chg.refl [bs] WA).setCell _ _ (.inl (by simp))).size, CTA.out.setCell _ _ (.inr (by show _ ≤ bs; omega))⟩ (fun WL hW => ?_)
  clear z5 y5
  go_loopw [10, 61] (fun s10 s61 wr => ∃ (k : Nat) (sv : SlV), k ≤ n4 l 64 ∧ s61 = .int .i64 (k : Int) ∧ s10 = .bool (sgFine l k) ∧ SgR w B ba c bs l (segX l sv) (72 + 80 * k) (secsN l k) wr) (fun _ s61 _ => n4 l 64 - (intOf s61).toNat)
  case atStart =>
    refine ⟨0, ⟨none, 0, 0⟩, Nat.zero_le _, rfl, ?_, hW⟩
    simp [sgFine, secsN]
    omega
  case round =>
    obtain ⟨k, sv, hk, rfl, rfl, hr⟩ := hrel
    by_cases hlt : k < n4 l 64
    · have dlt : decide ((k : Int) < (n4 l 64 : Int)) = true := decide_eq_true (by omega)
      have hl3 := H3.out
      obtain ⟨ad, k', cd⟩ := sv
      have hxs : (segX l ⟨ad, k', cd⟩).secs = ⟨ad, k', cd⟩ := rfl
      obtain rfl : k' = k := by
        obtain ⟨_, _, he, _, _⟩ := hr.bf.rd.shape
        cases he
        exact secsN_len l _
      have R0 := Lib.hid (hr)
      clear hr
      go_wp2_with fail
      refine (section_any c l (72 + 80 * k') _ R0.out.cur (by omega)).mono ?_
      rintro e W1 ⟨rfl, hcu, hch⟩
      rw [show 72 + 80 * k' + 80 = 72 + 80 * (k' + 1) by omega] at hcu
      have R1 := Lib.hid (R0.out.step hcu hch ho1 ho2 ho3 ho0)
      clear hcu hch
      go_wp2_with ((with_reducible refine Lay.alL Tryz.tSec ?_); intro W2 bx ebx cbx xbx; replace ebx := Lib.hid ebx; replace cbx := Lib.hid cbx; replace xbx := Lib.hid xbx; refine Hid.out ?_)
      refine Lib.hid ?_
      go_wp2_with ((with_reducible refine Lay.stL Tryz.tSec (secAt l (72 + 80 * k')) (xbx.out) ?_ ?_ ?_); exact rfl; exact rfl; intro W3 cW3 xW3; replace cW3 := Lib.hid cW3; replace xW3 := Lib.hid xW3; refine Hid.out ?_)
      refine Lib.hid ?_
      have R5 := Lib.hid (R1.out.far (cbx.out.add.same cW3.out) (by rw [ebx.out]; exact Nat.le_refl _) ho1 ho2 ho3 ho0)
      have X5 := Lib.hid (xW3.out)
      have e1 := Sec.c_seg X5.out
      have e2 := Seg.c_name R5.out.bx
      have hsu := sgFine_succ l k'
      obtain ⟨f, hf⟩ : ∃ f, f = sgFine l k' := ⟨_, rfl⟩
      rw [← hf] at hsu
      rw [← hf]
      have Hf := Lib.hid hf
      have Hsu := Lib.hid hsu
      clear hf hsu
      cases f
      · have Hsf : Hid (Value.bool false = Value.bool (sgFine l (k' + 1))) := Lib.hid (by rw [Hsu.out, Bool.false_and])
        have y6 := Seg.c_secs R5.out.bx
        rw [hxs] at y6
        have z6 := R5.out.bx.frozen 6
        go_wp2_with ((with_reducible refine Lay.ldL Tryz.tSec (secAt l (72 + 80 * k')) (X5.out.in) ?_ ?_); exact rfl; refine Hid.out ?_)
        refine Lib.hid ?_
        go_wp2_with ((with_reducible refine bs1 ((secAt l (72 + 80 * k'))) (sec_built _) ?_ ?_ ?_); exact rfl; exact rfl; intro VA va cva rva; replace cva := Lib.hid cva; replace rva := Lib.hid rva; refine Hid.out ?_)
        refine Lib.hid ?_
        have RA := Lib.hid (R5.out.pure cva.out)
        go_wp2_with (at_builtin; refine Lay.app (L := secL) Tryz.infoSec rfl _ _ rfl B (.slice ad k' cd) (secsN l k') rfl (by have := RA.out.bf; rw [hxs] at this; exact this) _ rfl [secAt l (72 + 80 * k')] rva.out (by rw [secsN_len]; simp; omega) (by rw [secsN_len]; simp; omega) (by have := RA.out.sz; exact this) ?_; intro vb VB hov hgv hlc; replace hov := Lib.hid hov; replace hgv := Lib.hid hgv; clear hlc; refine Hid.out ?_)
        refine Lib.hid ?_
        have RB := Lib.hid (SgR.grew RA.out hgv.out ho1 ho2 ho3 ho0)
        have hov := hov.out
        rw [← secsN_succ] at hov
        obtain ⟨ab, cb, rfl, hb1, hb2⟩ := hov.rd.shape
        rw [secsN_len] at hov ⊢
        have UB := Lib.hid hov
        clear hov
        clear hgv hb1 hb2
        replace y6 := Seg.c_secs RB.out.bx
        rw [hxs] at y6
        replace z6 := RB.out.bx.frozen 6
        go_wp2
        go_roundw
        case rel => exact ⟨k' + 1, ⟨ab, k' + 1, cb⟩, hlt, by go_num, Hsf.out, SgR.app RB.out UB.out ho1 ho2 ho3 ho0⟩
        case measure => simp [intOf]; omega
      · have Hsf : Hid (Value.bool ((secAt l (72 + 80 * k')).seg.toList == (segX l ⟨ad, k', cd⟩).name.toList) = Value.bool (sgFine l (k' + 1))) := Lib.hid (by rw [Hsu.out, Bool.true_and, str_beq]; rfl)
        have y6 := Seg.c_secs R5.out.bx
        rw [hxs] at y6
        have z6 := R5.out.bx.frozen 6
        go_wp2_with ((with_reducible refine Lay.ldL Tryz.tSec (secAt l (72 + 80 * k')) (X5.out.in) ?_ ?_); exact rfl; refine Hid.out ?_)
        refine Lib.hid ?_
        go_wp2_with ((with_reducible refine bs1 ((secAt l (72 + 80 * k'))) (sec_built _) ?_ ?_ ?_); exact rfl; exact rfl; intro VA va cva rva; replace cva := Lib.hid cva; replace rva := Lib.hid rva; refine Hid.out ?_)
        refine Lib.hid ?_
        have RA := Lib.hid (R5.out.pure cva.out)
        go_wp2_with (at_builtin; refine Lay.app (L := secL) Tryz.infoSec rfl _ _ rfl B (.slice ad k' cd) (secsN l k') rfl (by have := RA.out.bf; rw [hxs] at this; exact this) _ rfl [secAt l (72 + 80 * k')] rva.out (by rw [secsN_len]; simp; omega) (by rw [secsN_len]; simp; omega) (by have := RA.out.sz; exact this) ?_; intro vb VB hov hgv hlc; replace hov := Lib.hid hov; replace hgv := Lib.hid hgv; clear hlc; refine Hid.out ?_)
        refine Lib.hid ?_
        have RB := Lib.hid (SgR.grew RA.out hgv.out ho1 ho2 ho3 ho0)
        have hov := hov.out
        rw [← secsN_succ] at hov
        obtain ⟨ab, cb, rfl, hb1, hb2⟩ := hov.rd.shape
        rw [secsN_len] at hov ⊢
        have UB := Lib.hid hov
        clear hov
        clear hgv hb1 hb2
        replace y6 := Seg.c_secs RB.out.bx
        rw [hxs] at y6
        replace z6 := RB.out.bx.frozen 6
        go_wp2
        go_roundw
        case rel => exact ⟨k' + 1, ⟨ab, k' + 1, cb⟩, hlt, by go_num, Hsf.out, SgR.app RB.out UB.out ho1 ho2 ho3 ho0⟩
        case measure => simp [intOf]; omega
    · obtain rfl : k = n4 l 64 := by omega
      have dlt : decide ((n4 l 64 : Int) < (n4 l 64 : Int)) = false := decide_eq_false (by omega)
      have R0 := Lib.hid (hr)
      clear hr
      obtain ⟨f, hf⟩ : ∃ f, f = sgFine l (n4 l 64) := ⟨_, rfl⟩
      have hse := Hse.out
      rw [← hf] at hse
      rw [← hf]
      have Hf := Lib.hid hf
      clear hf
      cases f
      · rw [if_pos rfl] at hse
        have HSE := Lib.hid hse
        clear hse
        go_wp2_with ((with_reducible refine Lay.stL Tryz.tSg (segL.d) (R0.out.ra) ?_ ?_ ?_); exact rfl; exact rfl; intro WE cWE xWE; replace cWE := Lib.hid cWE; replace xWE := Lib.hid xWE; refine Hid.out ?_)
        refine Lib.hid ?_
        go_wp2
        refine Lay.ret2 Tryz.tSg rfl xWE.out rfl rfl ?_
        exact ⟨_, _, rfl, HSE.out.symm, R0.out.chg.new cWE.out ho0, fun h => absurd h (by decide)⟩
      · rw [if_neg (by decide)] at hse
        by_cases h64 : 64 < n4 l 64
        · have d64 : decide ((64 : Int) < (n4 l 64 : Int)) = true := decide_eq_true (by omega)
          rw [if_pos h64] at hse
          have HSE := Lib.hid hse
          have H64 := Lib.hid h64
          clear hse h64
          go_wp2_with ((with_reducible refine Lay.stL Tryz.tSg (segL.d) (R0.out.ra) ?_ ?_ ?_); exact rfl; exact rfl; intro WE cWE xWE; replace cWE := Lib.hid cWE; replace xWE := Lib.hid xWE; refine Hid.out ?_)
          refine Lib.hid ?_
          go_wp2
          refine Lay.ret2 Tryz.tSg rfl xWE.out rfl rfl ?_
          exact ⟨_, _, rfl, HSE.out.symm, R0.out.chg.new cWE.out ho0, fun h => absurd h (by decide)⟩
        · have d64 : decide ((64 : Int) < (n4 l 64 : Int)) = false := decide_eq_false (by omega)
          rw [if_neg h64] at hse
          have HSE := Lib.hid hse
          have H64 := Lib.hid h64
          clear hse h64
          go_wp2_with ((with_reducible refine Lay.ldL Tryz.tSg (segX l sv) (R0.out.bx.in) ?_ ?_); exact rfl; refine Hid.out ?_)
          refine Lib.hid ?_
          go_wp2_with ((with_reducible refine Lay.stL Tryz.tSg (segX l sv) (R0.out.ra) ?_ ?_ ?_); exact rfl; exact rfl; intro WE cWE xWE; replace cWE := Lib.hid cWE; replace xWE := Lib.hid xWE; refine Hid.out ?_)
          refine Lib.hid ?_
          go_wp2
          refine Lay.ret2 Tryz.tSg rfl xWE.out rfl rfl ?_
          exact ⟨_, _, rfl, HSE.out.symm, R0.out.chg.new cWE.out ho0, fun _ => ⟨rfl, (R0.out.bf.frame cWE.out (fun i hi hm => by have := (R0.out.bf.lt i hi).1; simp at hm; omega)).mono (by omega)⟩⟩
end Go.Proofs.YtgjlgamlmmjdpaaGreatDoor
