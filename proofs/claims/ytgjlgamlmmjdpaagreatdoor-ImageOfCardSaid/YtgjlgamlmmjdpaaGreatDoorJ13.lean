/- Lemmas, laid together: part 13 of 43. Conditions: none but each lemma's own. -/
import Derived.Test.YtgjlgamlmmjdpaaGreatDoorJ11
import Derived.Test.YtgjlgamlmmjdpaaGreatDoorJ12
import Derived.Test.YtgjlgamlmmjdpaaGreatDoorJ2
import Derived.Test.YtgjlgamlmmjdpaaGreatDoorProg
import Derived.Lib.Strings
/- load.Spans. -/
namespace Go.Proofs.YtgjlgamlmmjdpaaGreatDoor
open Go.RowKit
set_option maxRecDepth 100000

/-- How many spans a command has (0: it has none). -/
def spN (c : Int) : Nat := if c = 34 ∨ c = 2147483682 then 5 else if c = 2 then 2 else if c = 2147483699 ∨ c = 2147483700 then 1 else 0
def spAt (l : List UInt8) (i : Nat) : Spn := ⟨n4 l (8 + 8 * i), n4 l (12 + 8 * i)⟩
def spsN (l : List UInt8) (k : Nat) : List Spn := (List.range k).map (spAt l)
theorem spsN_len (l : List UInt8) (k : Nat) : (spsN l k).length = k := by simp [spsN]
theorem spsN_succ (l : List UInt8) (k : Nat) : spsN l (k + 1) = spsN l k ++ [spAt l k] := by simp [spsN, List.range_succ]
/-- The spans of a command. -/
def spansL (l : List UInt8) : List Spn := if n4 l 0 = 2 then [⟨n4 l 8, (n4 l 12 : Int) * 16⟩, spAt l 1] else spsN l (spN (n4 l 0))
theorem Tryz.tSpn : Lay.Ty spnL Tryz.prog 30 := Lay.Ty.mk' (by kernel_rfl) (by kernel_rfl)
theorem Tryz.infoSpn : Lay.Info Tryz.prog 82 30 spnL.n 16 := Lay.Info.mk' (z := .agg (spnL.f spnL.d).toArray) (by kernel_rfl) (by kernel_rfl) rfl
theorem spn_built (x : Spn) (w : World) : (Instr.buildSlice 82 1 #[(0, spnL.val x)]).run Tryz.prog w = .ok (.slice (some ⟨w.heap.size, 0, none⟩) 1 1) (w.alloc (.cells (spnL.f x).toArray 30)) := by
  show (Instr.buildSlice 82 1 #[(0, .agg #[.int .u64 x.off, .int .u64 x.size])]).run Tryz.prog w = .ok (.slice (some ⟨w.heap.size, 0, none⟩) 1 1) (w.alloc (.cells #[.int .u64 x.off, .int .u64 x.size] 30))
  go_simp
/-- The state of the loop. -/
structure SpR (w0 : World) (c : Nat) (l : List UInt8) (p : Nat) (ks : List Spn) (sv : SlV) (wr : World) : Prop where
  cur : CurB wr c (cAt l p)
  bf : spnL.Buf 30 wr w0.heap.size (.slice sv.a sv.n sv.cap) ks
  sz : w0.heap.size ≤ wr.heap.size
  chg : Chg [c] w0 wr
theorem SpR.step {w0 : World} {c : Nat} {l : List UInt8} {p q : Nat} {ks : List Spn} {sv : SlV} {w w' : World} (h : SpR w0 c l p ks sv w) (hc : CurB w' c (cAt l q)) (k : Chg [c] w w') (hcw : c < w0.heap.size) : SpR w0 c l q ks sv w' :=
  ⟨hc, h.bf.frame k (fun b hb hm => by have := (h.bf.lt b hb).1; simp at hm; omega), Nat.le_trans h.sz k.size, h.chg.same k⟩
theorem SpR.pure {w0 : World} {c : Nat} {l : List UInt8} {p : Nat} {ks : List Spn} {sv : SlV} {w w' : World} (h : SpR w0 c l p ks sv w) (k : Chg [] w w') : SpR w0 c l p ks sv w' :=
  ⟨h.cur.frame k, h.bf.pure k, Nat.le_trans h.sz k.size, h.chg.then k⟩
theorem SpR.app {w0 : World} {c : Nat} {l : List UInt8} {p : Nat} {ks ks' : List Spn} {sv sv' : SlV} {w w' : World} (h : SpR w0 c l p ks sv w) (g : w.grownBy w' (Value.slice sv.a sv.n sv.cap).ownBlock) (hv : spnL.Buf 30 w' w0.heap.size (.slice sv'.a sv'.n sv'.cap) ks') (hcw : c < w0.heap.size) : SpR w0 c l p ks' sv' w' := by
  have k := Lay.chg_grown g
  have hb : ∀ i ∈ (Value.slice sv.a sv.n sv.cap).ownBlock.toList, w0.heap.size ≤ i := fun i hi => (h.bf.lt i (by simpa using hi)).1
  exact ⟨h.cur.far k (fun i hi => by have := hb i hi; omega), hv, Nat.le_trans h.sz k.size, h.chg.trans k (fun i hi hw => by have := hb i hi; omega)⟩
/-- What a call of Spans hands back. -/
def SpP (w : World) (ls : List Spn) (e : Ending) (w' : World) : Prop := ∃ sv : SlV, e = .returned (.tuple #[.slice sv.a sv.n sv.cap, .int .i64 0]) ∧ spnL.Buf 30 w' w.heap.size (.slice sv.a sv.n sv.cap) ls ∧ Chg [] w w'
set_option maxHeartbeats 8000000 in
theorem Spans_5 (l : List UInt8) (h : opE l = 0) (h2 : ((n4 l 0 : Nat) : Int) = 34 ∨ ((n4 l 0 : Nat) : Int) = 2147483682) (hl : l.length ≤ 140737488355328) (v : Value) (w : World) (hg : Env w) (rd : byteL.Rd w v l) :
    Calls Tryz.prog 69 #[v] w (SpP w (spsN l 5)) := by
  have h12 : 48 ≤ l.length := by
    have := (opE_len h).2
    rcases h2 with h2 | h2 <;> rw [h2] at this
    · have h3 : leastF 34 = 48 := by decide
      omega
    · have h3 : leastF 2147483682 = 48 := by decide
      omega
  have hop := fun v w hg rd => open_ok l h hl v w hg rd
  obtain ⟨z, hz⟩ : ∃ z, z = n4 l 0 := ⟨_, rfl⟩
  rw [← hz] at hop h2
  obtain ⟨a, cap, rfl, hc1, hc2⟩ := rd.shape
  have H := Lib.hid h
  have Hl := Lib.hid hl
  have Hg := Lib.hid hg
  have Rd := Lib.hid rd
  have Hz := Lib.hid hz
  have H12 := Lib.hid h12
  clear h hl hg rd hz h12
  rcases h2 with h13 | h13
  · rw [h13] at hop
    have HOP := Lib.hid (hop)
    clear hop
    go_enter Tryz.func69, Tryz.ntmps69
    go_wp2_with fail
    refine (HOP.out _ _ Hg.out Rd.out).mono ?_
    rintro e W0 ⟨c, rfl, hlo, hcu, hch⟩
    have CU0 := Lib.hid hcu
    have Hlo := Lib.hid hlo
    have C0 := Lib.hid hch
    clear hcu hlo hch
    have hcw := CU0.out.lt
    go_wp2_with fail
    go_loopw [8, 34] (fun s8 s34 wr => ∃ (k : Nat) (sv : SlV), k ≤ 5 ∧ s34 = .int .i64 (k : Int) ∧ s8 = .slice sv.a sv.n sv.cap ∧ SpR W0 c l (8 + 8 * k) (spsN l k) sv wr) (fun _ s34 _ => 5 - (intOf s34).toNat)
    case atStart => exact ⟨0, ⟨none, 0, 0⟩, Nat.zero_le _, rfl, rfl, CU0.out, Lay.Buf.nil _ _, Nat.le_refl _, Chg.refl _ _⟩
    case round =>
      obtain ⟨k, sv, hk, rfl, rfl, hr⟩ := hrel
      by_cases hlt : k < 5
      · have dlt : decide ((k : Int) < 5) = true := decide_eq_true (by omega)
        obtain ⟨ad, k', cd⟩ := sv
        obtain rfl : k' = k := by
          obtain ⟨_, _, he, _, _⟩ := hr.bf.rd.shape
          cases he
          exact spsN_len l _
        have R0 := Lib.hid (hr)
        clear hr
        go_wp2_with fail
        refine (num4_at c l (8 + 8 * k') (12 + 8 * k') _ R0.out.cur (by have := H12.out; omega) (by omega)).mono ?_
        rintro e W1 ⟨rfl, hcu, hch⟩
        have R1 := Lib.hid (R0.out.step hcu hch hcw)
        clear hcu hch
        go_wp2_with fail
        refine (num4_at c l (12 + 8 * k') (8 + 8 * (k' + 1)) _ R1.out.cur (by have := H12.out; omega) (by omega)).mono ?_
        rintro e W2 ⟨rfl, hcu, hch⟩
        have R2 := Lib.hid (R1.out.step hcu hch hcw)
        clear hcu hch
        go_wp2_with ((with_reducible refine bs1 ((spAt l k')) (spn_built _) ?_ ?_ ?_); exact rfl; exact rfl; intro VA va cva rva; replace cva := Lib.hid cva; replace rva := Lib.hid rva; refine Hid.out ?_)
        refine Lib.hid ?_
        have RA := Lib.hid (R2.out.pure cva.out)
        go_wp2_with (at_builtin; refine Lay.app (L := spnL) Tryz.infoSpn rfl _ _ rfl W0.heap.size (.slice ad k' cd) (spsN l k') rfl RA.out.bf _ rfl [spAt l k'] rva.out (by rw [spsN_len]; simp; omega) (by rw [spsN_len]; simp; omega) RA.out.sz ?_; intro vb VB hov hgv hlc; replace hov := Lib.hid hov; replace hgv := Lib.hid hgv; clear hlc; refine Hid.out ?_)
        refine Lib.hid ?_
        have hov := hov.out
        rw [← spsN_succ] at hov
        obtain ⟨ab, cb, rfl, hb1, hb2⟩ := hov.rd.shape
        rw [spsN_len] at hov ⊢
        have RB : Hid (SpR W0 c l (8 + 8 * (k' + 1)) (spsN l (k' + 1)) ⟨ab, k' + 1, cb⟩ VB) := Lib.hid (SpR.app RA.out hgv.out hov hcw)
        clear hov hgv hb1 hb2
        go_wp2
        go_roundw
        case rel => exact ⟨k' + 1, ⟨ab, k' + 1, cb⟩, hlt, by go_num, rfl, RB.out⟩
        case measure => simp [intOf]; omega
      · obtain rfl : k = 5 := by omega
        obtain ⟨ad, k', cd⟩ := sv
        obtain rfl : k' = 5 := by
          obtain ⟨_, _, he, _, _⟩ := hr.bf.rd.shape
          injection he with he1 he2 he3
        have R0 := Lib.hid (hr)
        clear hr
        go_wp2
        go_ret2
        exact ⟨⟨_, _, _⟩, rfl, R0.out.bf.mono (C0.out.size), C0.out.new R0.out.chg Hlo.out⟩
  · rw [h13] at hop
    have HOP := Lib.hid (hop)
    clear hop
    go_enter Tryz.func69, Tryz.ntmps69
    go_wp2_with fail
    refine (HOP.out _ _ Hg.out Rd.out).mono ?_
    rintro e W0 ⟨c, rfl, hlo, hcu, hch⟩
    have CU0 := Lib.hid hcu
    have Hlo := Lib.hid hlo
    have C0 := Lib.hid hch
    clear hcu hlo hch
    have hcw := CU0.out.lt
    go_wp2_with fail
    go_loopw [8, 34] (fun s8 s34 wr => ∃ (k : Nat) (sv : SlV), k ≤ 5 ∧ s34 = .int .i64 (k : Int) ∧ s8 = .slice sv.a sv.n sv.cap ∧ SpR W0 c l (8 + 8 * k) (spsN l k) sv wr) (fun _ s34 _ => 5 - (intOf s34).toNat)
    case atStart => exact ⟨0, ⟨none, 0, 0⟩, Nat.zero_le _, rfl, rfl, CU0.out, Lay.Buf.nil _ _, Nat.le_refl _, Chg.refl _ _⟩
    case round =>
      obtain ⟨k, sv, hk, rfl, rfl, hr⟩ := hrel
      by_cases hlt : k < 5
      · have dlt : decide ((k : Int) < 5) = true := decide_eq_true (by omega)
        obtain ⟨ad, k', cd⟩ := sv
        obtain rfl : k' = k := by
          obtain ⟨_, _, he, _, _⟩ := hr.bf.rd.shape
          cases he
          exact spsN_len l _
        have R0 := Lib.hid (hr)
        clear hr
        go_wp2_with fail
        refine (num4_at c l (8 + 8 * k') (12 + 8 * k') _ R0.out.cur (by have := H12.out; omega) (by omega)).mono ?_
        rintro e W1 ⟨rfl, hcu, hch⟩
        have R1 := Lib.hid (R0.out.step hcu hch hcw)
        clear hcu hch
        go_wp2_with fail
        refine (num4_at c l (12 + 8 * k') (8 + 8 * (k' + 1)) _ R1.out.cur (by have := H12.out; omega) (by omega)).mono ?_
        rintro e W2 ⟨rfl, hcu, hch⟩
        have R2 := Lib.hid (R1.out.step hcu hch hcw)
        clear hcu hch
        go_wp2_with ((with_reducible refine bs1 ((spAt l k')) (spn_built _) ?_ ?_ ?_); exact rfl; exact rfl; intro VA va cva rva; replace cva := Lib.hid cva; replace rva := Lib.hid rva; refine Hid.out ?_)
        refine Lib.hid ?_
        have RA := Lib.hid (R2.out.pure cva.out)
        go_wp2_with (at_builtin; refine Lay.app (L := spnL) Tryz.infoSpn rfl _ _ rfl W0.heap.size (.slice ad k' cd) (spsN l k') rfl RA.out.bf _ rfl [spAt l k'] rva.out (by rw [spsN_len]; simp; omega) (by rw [spsN_len]; simp; omega) RA.out.sz ?_; intro vb VB hov hgv hlc; replace hov := Lib.hid hov; replace hgv := Lib.hid hgv; clear hlc; refine Hid.out ?_)
        refine Lib.hid ?_
        have hov := hov.out
        rw [← spsN_succ] at hov
        obtain ⟨ab, cb, rfl, hb1, hb2⟩ := hov.rd.shape
        rw [spsN_len] at hov ⊢
        have RB : Hid (SpR W0 c l (8 + 8 * (k' + 1)) (spsN l (k' + 1)) ⟨ab, k' + 1, cb⟩ VB) := Lib.hid (SpR.app RA.out hgv.out hov hcw)
        clear hov hgv hb1 hb2
        go_wp2
        go_roundw
        case rel => exact ⟨k' + 1, ⟨ab, k' + 1, cb⟩, hlt, by go_num, rfl, RB.out⟩
        case measure => simp [intOf]; omega
      · obtain rfl : k = 5 := by omega
        obtain ⟨ad, k', cd⟩ := sv
        obtain rfl : k' = 5 := by
          obtain ⟨_, _, he, _, _⟩ := hr.bf.rd.shape
          injection he with he1 he2 he3
        have R0 := Lib.hid (hr)
        clear hr
        go_wp2
        go_ret2
        exact ⟨⟨_, _, _⟩, rfl, R0.out.bf.mono (C0.out.size), C0.out.new R0.out.chg Hlo.out⟩
set_option maxHeartbeats 8000000 in
theorem Spans_1 (l : List UInt8) (h : opE l = 0) (h2 : ((n4 l 0 : Nat) : Int) = 2147483699 ∨ ((n4 l 0 : Nat) : Int) = 2147483700) (hl : l.length ≤ 140737488355328) (v : Value) (w : World) (hg : Env w) (rd : byteL.Rd w v l) :
    Calls Tryz.prog 69 #[v] w (SpP w (spsN l 1)) := by
  have h12 : 16 ≤ l.length := by
    have := (opE_len h).2
    rcases h2 with h2 | h2 <;> rw [h2] at this
    · have h3 : leastF 2147483699 = 16 := by decide
      omega
    · have h3 : leastF 2147483700 = 16 := by decide
      omega
  have hop := fun v w hg rd => open_ok l h hl v w hg rd
  obtain ⟨z, hz⟩ : ∃ z, z = n4 l 0 := ⟨_, rfl⟩
  rw [← hz] at hop h2
  obtain ⟨a, cap, rfl, hc1, hc2⟩ := rd.shape
  have H := Lib.hid h
  have Hl := Lib.hid hl
  have Hg := Lib.hid hg
  have Rd := Lib.hid rd
  have Hz := Lib.hid hz
  have H12 := Lib.hid h12
  clear h hl hg rd hz h12
  rcases h2 with h13 | h13
  · rw [h13] at hop
    have HOP := Lib.hid (hop)
    clear hop
    go_enter Tryz.func69, Tryz.ntmps69
    go_wp2_with fail
    refine (HOP.out _ _ Hg.out Rd.out).mono ?_
    rintro e W0 ⟨c, rfl, hlo, hcu, hch⟩
    have CU0 := Lib.hid hcu
    have Hlo := Lib.hid hlo
    have C0 := Lib.hid hch
    clear hcu hlo hch
    have hcw := CU0.out.lt
    go_wp2_with fail
    go_loopw [8, 34] (fun s8 s34 wr => ∃ (k : Nat) (sv : SlV), k ≤ 1 ∧ s34 = .int .i64 (k : Int) ∧ s8 = .slice sv.a sv.n sv.cap ∧ SpR W0 c l (8 + 8 * k) (spsN l k) sv wr) (fun _ s34 _ => 1 - (intOf s34).toNat)
    case atStart => exact ⟨0, ⟨none, 0, 0⟩, Nat.zero_le _, rfl, rfl, CU0.out, Lay.Buf.nil _ _, Nat.le_refl _, Chg.refl _ _⟩
    case round =>
      obtain ⟨k, sv, hk, rfl, rfl, hr⟩ := hrel
      by_cases hlt : k < 1
      · have dlt : decide ((k : Int) < 1) = true := decide_eq_true (by omega)
        obtain ⟨ad, k', cd⟩ := sv
        obtain rfl : k' = k := by
          obtain ⟨_, _, he, _, _⟩ := hr.bf.rd.shape
          cases he
          exact spsN_len l _
        have R0 := Lib.hid (hr)
        clear hr
        go_wp2_with fail
        refine (num4_at c l (8 + 8 * k') (12 + 8 * k') _ R0.out.cur (by have := H12.out; omega) (by omega)).mono ?_
        rintro e W1 ⟨rfl, hcu, hch⟩
        have R1 := Lib.hid (R0.out.step hcu hch hcw)
        clear hcu hch
        go_wp2_with fail
        refine (num4_at c l (12 + 8 * k') (8 + 8 * (k' + 1)) _ R1.out.cur (by have := H12.out; omega) (by omega)).mono ?_
        rintro e W2 ⟨rfl, hcu, hch⟩
        have R2 := Lib.hid (R1.out.step hcu hch hcw)
        clear hcu hch
        go_wp2_with ((with_reducible refine bs1 ((spAt l k')) (spn_built _) ?_ ?_ ?_); exact rfl; exact rfl; intro VA va cva rva; replace cva := Lib.hid cva; replace rva := Lib.hid rva; refine Hid.out ?_)
        refine Lib.hid ?_
        have RA := Lib.hid (R2.out.pure cva.out)
        go_wp2_with (at_builtin; refine Lay.app (L := spnL) Tryz.infoSpn rfl _ _ rfl W0.heap.size (.slice ad k' cd) (spsN l k') rfl RA.out.bf _ rfl [spAt l k'] rva.out (by rw [spsN_len]; simp; omega) (by rw [spsN_len]; simp; omega) RA.out.sz ?_; intro vb VB hov hgv hlc; replace hov := Lib.hid hov; replace hgv := Lib.hid hgv; clear hlc; refine Hid.out ?_)
        refine Lib.hid ?_
        have hov := hov.out
        rw [← spsN_succ] at hov
        obtain ⟨ab, cb, rfl, hb1, hb2⟩ := hov.rd.shape
        rw [spsN_len] at hov ⊢
        have RB : Hid (SpR W0 c l (8 + 8 * (k' + 1)) (spsN l (k' + 1)) ⟨ab, k' + 1, cb⟩ VB) := Lib.hid (SpR.app RA.out hgv.out hov hcw)
        clear hov hgv hb1 hb2
        go_wp2
        go_roundw
        case rel => exact ⟨k' + 1, ⟨ab, k' + 1, cb⟩, hlt, by go_num, rfl, RB.out⟩
        case measure => simp [intOf]; omega
      · obtain rfl : k = 1 := by omega
        obtain ⟨ad, k', cd⟩ := sv
        obtain rfl : k' = 1 := by
          obtain ⟨_, _, he, _, _⟩ := hr.bf.rd.shape
          injection he with he1 he2 he3
        have R0 := Lib.hid (hr)
        clear hr
        go_wp2
        go_ret2
        exact ⟨⟨_, _, _⟩, rfl, R0.out.bf.mono (C0.out.size), C0.out.new R0.out.chg Hlo.out⟩
  · rw [h13] at hop
    have HOP := Lib.hid (hop)
    clear hop
    go_enter Tryz.func69, Tryz.ntmps69
    go_wp2_with fail
    refine (HOP.out _ _ Hg.out Rd.out).mono ?_
    rintro e W0 ⟨c, rfl, hlo, hcu, hch⟩
    have CU0 := Lib.hid hcu
    have Hlo := Lib.hid hlo
    have C0 := Lib.hid hch
    clear hcu hlo hch
    have hcw := CU0.out.lt
    go_wp2_with fail
    go_loopw [8, 34] (fun s8 s34 wr => ∃ (k : Nat) (sv : SlV), k ≤ 1 ∧ s34 = .int .i64 (k : Int) ∧ s8 = .slice sv.a sv.n sv.cap ∧ SpR W0 c l (8 + 8 * k) (spsN l k) sv wr) (fun _ s34 _ => 1 - (intOf s34).toNat)
    case atStart => exact ⟨0, ⟨none, 0, 0⟩, Nat.zero_le _, rfl, rfl, CU0.out, Lay.Buf.nil _ _, Nat.le_refl _, Chg.refl _ _⟩
    case round =>
      obtain ⟨k, sv, hk, rfl, rfl, hr⟩ := hrel
      by_cases hlt : k < 1
      · have dlt : decide ((k : Int) < 1) = true := decide_eq_true (by omega)
        obtain ⟨ad, k', cd⟩ := sv
        obtain rfl : k' = k := by
          obtain ⟨_, _, he, _, _⟩ := hr.bf.rd.shape
          cases he
          exact spsN_len l _
        have R0 := Lib.hid (hr)
        clear hr
        go_wp2_with fail
        refine (num4_at c l (8 + 8 * k') (12 + 8 * k') _ R0.out.cur (by have := H12.out; omega) (by omega)).mono ?_
        rintro e W1 ⟨rfl, hcu, hch⟩
        have R1 := Lib.hid (R0.out.step hcu hch hcw)
        clear hcu hch
        go_wp2_with fail
        refine (num4_at c l (12 + 8 * k') (8 + 8 * (k' + 1)) _ R1.out.cur (by have := H12.out; omega) (by omega)).mono ?_
        rintro e W2 ⟨rfl, hcu, hch⟩
        have R2 := Lib.hid (R1.out.step hcu hch hcw)
        clear hcu hch
        go_wp2_with ((with_reducible refine bs1 ((spAt l k')) (spn_built _) ?_ ?_ ?_); exact rfl; exact rfl; intro VA va cva rva; replace cva := Lib.hid cva; replace rva := Lib.hid rva; refine Hid.out ?_)
        refine Lib.hid ?_
        have RA := Lib.hid (R2.out.pure cva.out)
        go_wp2_with (at_builtin; refine Lay.app (L := spnL) Tryz.infoSpn rfl _ _ rfl W0.heap.size (.slice ad k' cd) (spsN l k') rfl RA.out.bf _ rfl [spAt l k'] rva.out (by rw [spsN_len]; simp; omega) (by rw [spsN_len]; simp; omega) RA.out.sz ?_; intro vb VB hov hgv hlc; replace hov := Lib.hid hov; replace hgv := Lib.hid hgv; clear hlc; refine Hid.out ?_)
        refine Lib.hid ?_
        have hov := hov.out
        rw [← spsN_succ] at hov
        obtain ⟨ab, cb, rfl, hb1, hb2⟩ := hov.rd.shape
        rw [spsN_len] at hov ⊢
        have RB : Hid (SpR W0 c l (8 + 8 * (k' + 1)) (spsN l (k' + 1)) ⟨ab, k' + 1, cb⟩ VB) := Lib.hid (SpR.app RA.out hgv.out hov hcw)
        clear hov hgv hb1 hb2
        go_wp2
        go_roundw
        case rel => exact ⟨k' + 1, ⟨ab, k' + 1, cb⟩, hlt, by go_num, rfl, RB.out⟩
        case measure => simp [intOf]; omega
      · obtain rfl : k = 1 := by omega
        obtain ⟨ad, k', cd⟩ := sv
        obtain rfl : k' = 1 := by
          obtain ⟨_, _, he, _, _⟩ := hr.bf.rd.shape
          injection he with he1 he2 he3
        have R0 := Lib.hid (hr)
        clear hr
        go_wp2
        go_ret2
        exact ⟨⟨_, _, _⟩, rfl, R0.out.bf.mono (C0.out.size), C0.out.new R0.out.chg Hlo.out⟩
set_option maxHeartbeats 8000000 in
theorem Spans_2 (l : List UInt8) (h : opE l = 0) (h2 : ((n4 l 0 : Nat) : Int) = 2) (hl : l.length ≤ 140737488355328) (v : Value) (w : World) (hg : Env w) (rd : byteL.Rd w v l) :
    Calls Tryz.prog 69 #[v] w (SpP w [⟨n4 l 8, (n4 l 12 : Int) * 16⟩, spAt l 1]) := by
  have h12 : 24 ≤ l.length := by
    have := (opE_len h).2
    rw [h2] at this
    have h3 : leastF 2 = 24 := by decide
    omega
  have hop := fun v w hg rd => open_ok l h hl v w hg rd
  obtain ⟨z, hz⟩ : ∃ z, z = n4 l 0 := ⟨_, rfl⟩
  rw [← hz] at hop h2
  obtain ⟨a, cap, rfl, hc1, hc2⟩ := rd.shape
  have H := Lib.hid h
  have Hl := Lib.hid hl
  have Hg := Lib.hid hg
  have Rd := Lib.hid rd
  have Hz := Lib.hid hz
  have H12 := Lib.hid h12
  clear h hl hg rd hz h12
  have h13 := h2
  rw [h13] at hop
  have HOP := Lib.hid (hop)
  clear hop
  go_enter Tryz.func69, Tryz.ntmps69
  go_wp2_with fail
  refine (HOP.out _ _ Hg.out Rd.out).mono ?_
  rintro e W0 ⟨c, rfl, hlo, hcu, hch⟩
  have CU0 := Lib.hid hcu
  have Hlo := Lib.hid hlo
  have C0 := Lib.hid hch
  clear hcu hlo hch
  have hcw := CU0.out.lt
  go_wp2_with fail
  go_loopw [8, 34] (fun s8 s34 wr => ∃ (k : Nat) (sv : SlV), k ≤ 2 ∧ s34 = .int .i64 (k : Int) ∧ s8 = .slice sv.a sv.n sv.cap ∧ SpR W0 c l (8 + 8 * k) (spsN l k) sv wr) (fun _ s34 _ => 2 - (intOf s34).toNat)
  case atStart => exact ⟨0, ⟨none, 0, 0⟩, Nat.zero_le _, rfl, rfl, CU0.out, Lay.Buf.nil _ _, Nat.le_refl _, Chg.refl _ _⟩
  case round =>
    obtain ⟨k, sv, hk, rfl, rfl, hr⟩ := hrel
    by_cases hlt : k < 2
    · have dlt : decide ((k : Int) < 2) = true := decide_eq_true (by omega)
      obtain ⟨ad, k', cd⟩ := sv
      obtain rfl : k' = k := by
        obtain ⟨_, _, he, _, _⟩ := hr.bf.rd.shape
        cases he
        exact spsN_len l _
      have R0 := Lib.hid (hr)
      clear hr
      go_wp2_with fail
      refine (num4_at c l (8 + 8 * k') (12 + 8 * k') _ R0.out.cur (by have := H12.out; omega) (by omega)).mono ?_
      rintro e W1 ⟨rfl, hcu, hch⟩
      have R1 := Lib.hid (R0.out.step hcu hch hcw)
      clear hcu hch
      go_wp2_with fail
      refine (num4_at c l (12 + 8 * k') (8 + 8 * (k' + 1)) _ R1.out.cur (by have := H12.out; omega) (by omega)).mono ?_
      rintro e W2 ⟨rfl, hcu, hch⟩
      have R2 := Lib.hid (R1.out.step hcu hch hcw)
      clear hcu hch
      go_wp2_with ((with_reducible refine bs1 ((spAt l k')) (spn_built _) ?_ ?_ ?_); exact rfl; exact rfl; intro VA va cva rva; replace cva := Lib.hid cva; replace rva := Lib.hid rva; refine Hid.out ?_)
      refine Lib.hid ?_
      have RA := Lib.hid (R2.out.pure cva.out)
      go_wp2_with (at_builtin; refine Lay.app (L := spnL) Tryz.infoSpn rfl _ _ rfl W0.heap.size (.slice ad k' cd) (spsN l k') rfl RA.out.bf _ rfl [spAt l k'] rva.out (by rw [spsN_len]; simp; omega) (by rw [spsN_len]; simp; omega) RA.out.sz ?_; intro vb VB hov hgv hlc; replace hov := Lib.hid hov; replace hgv := Lib.hid hgv; clear hlc; refine Hid.out ?_)
      refine Lib.hid ?_
      have hov := hov.out
      rw [← spsN_succ] at hov
      obtain ⟨ab, cb, rfl, hb1, hb2⟩ := hov.rd.shape
      rw [spsN_len] at hov ⊢
      have RB : Hid (SpR W0 c l (8 + 8 * (k' + 1)) (spsN l (k' + 1)) ⟨ab, k' + 1, cb⟩ VB) := Lib.hid (SpR.app RA.out hgv.out hov hcw)
      clear hov hgv hb1 hb2
      go_wp2
      go_roundw
      case rel => exact ⟨k' + 1, ⟨ab, k' + 1, cb⟩, hlt, by go_num, rfl, RB.out⟩
      case measure => simp [intOf]; omega
    · obtain rfl : k = 2 := by omega
      obtain ⟨ad, k', cd⟩ := sv
      obtain rfl : k' = 2 := by
        obtain ⟨_, _, he, _, _⟩ := hr.bf.rd.shape
        injection he with he1 he2 he3
      have R0 := Lib.hid (hr)
      clear hr
      have hbf := R0.out.bf
      obtain ⟨g, cap', hsl, hg0, hg1, _, _, hown, hfz, hIn⟩ := hbf.at (by rw [spsN_len]; decide)
      injection hsl with hsl1 hsl2 hsl3
      subst hsl1
      clear hsl2 hsl3 hown
      have y1 : wr.cell? ⟨g, 1, none⟩ = some (.int .u64 (n4 l 12 : Int)) := by
        have := hIn 0 (by rw [spsN_len]; decide) 1 (by decide)
        exact this
      have z1 := hfz 1
      have h12 := n4_lt l 12
      have hw : IntKind.u64.wrap ((n4 l 12 : Int) * 16) = (n4 l 12 : Int) * 16 := by rw [IntKind.wrap_u64]; omega
      have BF := Lib.hid hbf
      have HIn := Lib.hid hIn
      have Hfz := Lib.hid hfz
      have H122 := Lib.hid h12
      clear hbf hIn hfz h12
      obtain ⟨A, hA⟩ : ∃ A : Int, A = (n4 l 12 : Int) := ⟨_, rfl⟩
      obtain ⟨B, hB⟩ : ∃ B : Int, B = A * 16 := ⟨_, rfl⟩
      rw [← hA] at y1 hw
      rw [← hB] at hw
      rw [← hA, ← hB]
      have HA := Lib.hid hA
      have HB := Lib.hid hB
      clear hA hB
      go_wp2
      go_ret2
      have hw' : IntKind.u64.wrap (A * 16) = (n4 l 12 : Int) * 16 := by rw [← HB.out, hw, HB.out, HA.out]
      rw [hw']
      refine ⟨⟨_, _, _⟩, rfl, (Lay.Buf.set BF.out rfl 0 (by rw [spsN_len]; decide) 1 (by decide) _ (⟨n4 l 8, (n4 l 12 : Int) * 16⟩ : Spn) rfl).mono (C0.out.size), C0.out.new (R0.out.chg.setCell _ _ (.inr ?_)) Hlo.out⟩
      exact hg0
theorem Spans_any (l : List UInt8) (h : opE l = 0) (h2 : spN (n4 l 0) ≠ 0) (hl : l.length ≤ 140737488355328) (v : Value) (w : World) (hg : Env w) (rd : byteL.Rd w v l) :
    Calls Tryz.prog 69 #[v] w (SpP w (spansL l)) := by
  unfold spansL
  unfold spN at h2 ⊢
  by_cases h3 : ((n4 l 0 : Nat) : Int) = 34 ∨ ((n4 l 0 : Nat) : Int) = 2147483682
  · rw [if_neg (by omega), if_pos h3]
    exact Spans_5 l h h3 hl v w hg rd
  · rw [if_neg h3] at h2 ⊢
    by_cases h4 : ((n4 l 0 : Nat) : Int) = 2
    · rw [if_pos (by omega)]
      exact Spans_2 l h h4 hl v w hg rd
    · rw [if_neg h4] at h2 ⊢
      rw [if_neg (by omega)]
      by_cases h5 : ((n4 l 0 : Nat) : Int) = 2147483699 ∨ ((n4 l 0 : Nat) : Int) = 2147483700
      · rw [if_pos h5]
        exact Spans_1 l h h5 hl v w hg rd
      · rw [if_neg h5] at h2
        exact absurd rfl h2
end Go.Proofs.YtgjlgamlmmjdpaaGreatDoor
/- Records: dependencies (printed by mkrecs.sh). -/
namespace Go.Proofs.YtgjlgamlmmjdpaaGreatDoor
open Go.RowKit
set_option maxRecDepth 100000

/-- A record Dep. -/
structure Dep where
  name : ByteArray
  kind : Int
def Dep.cells (s : Dep) : List Value := [.string s.name, .int .i64 s.kind]
abbrev Dep.v (s : Dep) : Value := .agg #[.string s.name, .int .i64 s.kind]
/-- Its numbers are of their kinds. -/
def Dep.wf (s : Dep) : Prop := (Lit.int .i64 s.kind).wf = true
def Dep.zero : Dep := ⟨⟨#[]⟩, 0⟩
def depL : Lay Dep := ⟨2, Dep.cells, Dep.zero, fun _ => rfl, by decide, fun x u hu => by
  simp only [Dep.cells, List.mem_cons, List.not_mem_nil, or_false] at hu
  rcases hu with rfl | rfl <;> rfl⟩
theorem Dep.at {w : World} {b o : Nat} {s : Dep} (h : depL.In w b o s) : w.cell? ⟨b, o, none⟩ = some (.string s.name) ∧ w.cell? ⟨b, o + 1, none⟩ = some (.int .i64 s.kind) :=
  ⟨h 0 (by decide), h 1 (by decide)⟩
theorem Dep.at0 {w : World} {b : Nat} {s : Dep} (h : depL.In w b 0 s) : w.cell? ⟨b, 0, none⟩ = some (.string s.name) ∧ w.cell? ⟨b, 1, none⟩ = some (.int .i64 s.kind) := by
  obtain ⟨h0, h1⟩ := Dep.at h
  simp only [Nat.zero_add] at h1
  exact ⟨h0, h1⟩
theorem Dep.boxed (w : World) (s : Dep) (T : TypeId) : depL.In (w.alloc (.cells #[.string s.name, .int .i64 s.kind] T)) w.heap.size 0 s := fun c _ => by
  rw [cell_of_heap (heap_alloc_eq w _), Nat.zero_add]
  exact List.getElem?_toArray ..
/-- A record in a block of its own: made, written, a field written. -/
theorem Dep.box (w : World) (s : Dep) (T : TypeId) : depL.Box (w.alloc (.cells #[.string s.name, .int .i64 s.kind] T)) w.heap.size s := Lay.Box.of_alloc (L := depL) w s T
theorem Dep.boxAt (w : World) (s : Dep) (T : TypeId) {b : Nat} (hb : b = w.heap.size) : depL.Box (w.alloc (.cells #[.string s.name, .int .i64 s.kind] T)) b s := by rw [hb]; exact Dep.box w s T
theorem Dep.put0 {w : World} {g : Nat} {y : Dep} (h : depL.Box w g y) (s : Dep) : depL.Box ((w.setCell ⟨g, 0, none⟩ (.string s.name)).setCell ⟨g, 1, none⟩ (.int .i64 s.kind)) g s := Lay.Box.put h s
theorem Dep.chg0 (w : World) (g : Nat) (s : Dep) : Chg [g] w ((w.setCell ⟨g, 0, none⟩ (.string s.name)).setCell ⟨g, 1, none⟩ (.int .i64 s.kind)) := Lay.setW_chg g s.cells w 0
theorem Dep.set_name {w : World} {g : Nat} {s : Dep} (h : depL.Box w g s) (x : ByteArray) : depL.Box (w.setCell ⟨g, 0, none⟩ (.string x)) g { s with name := x } := Lay.Box.set h 0 _ _ rfl
theorem Dep.set_kind {w : World} {g : Nat} {s : Dep} (h : depL.Box w g s) (x : Int) : depL.Box (w.setCell ⟨g, 1, none⟩ (.int .i64 x)) g { s with kind := x } := Lay.Box.set h 1 _ _ rfl
theorem Dep.c_name {w : World} {b : Nat} {s : Dep} (h : depL.Box w b s) : w.cell? ⟨b, 0, none⟩ = some (.string s.name) := by have := h.in 0 (by decide); rw [Nat.zero_add] at this; exact this
theorem Dep.c_kind {w : World} {b : Nat} {s : Dep} (h : depL.Box w b s) : w.cell? ⟨b, 1, none⟩ = some (.int .i64 s.kind) := by have := h.in 1 (by decide); rw [Nat.zero_add] at this; exact this
theorem Dep.at0B {w : World} {b : Nat} {s : Dep} (h : depL.Box w b s) : w.cell? ⟨b, 0, none⟩ = some (.string s.name) ∧ w.cell? ⟨b, 1, none⟩ = some (.int .i64 s.kind) := Dep.at0 h.in
theorem Dep.ext' {s r : Dep} (h0 : s.name = r.name) (h1 : s.kind = r.kind) : s = r := by
  cases s; cases r; simp only at h0 h1; subst h0 h1; rfl
instance : DecidableEq Dep := fun s r => decidable_of_iff (s.name = r.name ∧ s.kind = r.kind) ⟨fun h => Dep.ext' h.1 h.2, fun h => by rw [h]; exact ⟨rfl, rfl⟩⟩
theorem Dep.eqv (s r : Dep) : decide (s = r) = (decide (s.name.toList = r.name.toList) && (decide (s.kind = r.kind))) := by
  have e : s = r ↔ (s.name = r.name ∧ s.kind = r.kind) := ⟨fun h => by rw [h]; exact ⟨rfl, rfl⟩, fun h => Dep.ext' h.1 h.2⟩
  have hname : (s.name.toList = r.name.toList) = (s.name = r.name) := by rw [Lib.toList_data, Lib.toList_data]; exact propext ⟨fun e => ByteArray.ext (Array.toList_inj.1 e), fun e => by rw [e]⟩
  simp only [hname, ← Bool.decide_and]
  exact decide_eq_decide.2 e
set_option maxHeartbeats 2000000 in
theorem Dep.eql (s r : Dep) (W : World) : (binOp .eql 57 (.agg #[.string s.name, .int .i64 s.kind]) (.agg #[.string r.name, .int .i64 r.kind])).run Tryz.prog W = .ok (.bool (decide (s = r))) W := by
  rw [Dep.eqv]
  go_simp
  (repeat' split) <;> simp [*]
set_option maxHeartbeats 2000000 in
theorem Dep.neq (s r : Dep) (W : World) : (binOp .neq 57 (.agg #[.string s.name, .int .i64 s.kind]) (.agg #[.string r.name, .int .i64 r.kind])).run Tryz.prog W = .ok (.bool (!decide (s = r))) W := by
  rw [Dep.eqv]
  go_simp
  (repeat' split) <;> simp [*]
end Go.Proofs.YtgjlgamlmmjdpaaGreatDoor
