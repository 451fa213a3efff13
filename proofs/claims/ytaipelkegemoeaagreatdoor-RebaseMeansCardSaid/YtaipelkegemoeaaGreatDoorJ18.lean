/- Lemmas, laid together: part 18 of 46. Conditions: none but each lemma's own. -/
import Derived.Test.YtaipelkegemoeaaGreatDoorJ16
/- The document's Spans. -/
namespace Go.Proofs.YtaipelkegemoeaaGreatDoor
open Go.RowKit
set_option maxRecDepth 100000

structure Sp5R (w0 : World) (ks : List Spn) (sv : SlV) (wr : World) : Prop where
  bf : spnL.Buf 30 wr w0.heap.size (.slice sv.a sv.n sv.cap) ks
  sz : w0.heap.size ≤ wr.heap.size
  chg : Chg [] w0 wr
theorem Sp5R.pure {w0 : World} {ks : List Spn} {sv : SlV} {w w' : World} (h : Sp5R w0 ks sv w) (k : Chg [] w w') : Sp5R w0 ks sv w' :=
  ⟨h.bf.pure k, Nat.le_trans h.sz k.size, h.chg.then k⟩
theorem Sp5R.app {w0 : World} {ks ks' : List Spn} {sv sv' : SlV} {w w' : World} (h : Sp5R w0 ks sv w) (g : w.grownBy w' (Value.slice sv.a sv.n sv.cap).ownBlock) (hv : spnL.Buf 30 w' w0.heap.size (.slice sv'.a sv'.n sv'.cap) ks') : Sp5R w0 ks' sv' w' := by
  have k := Lay.chg_grown g
  have hb : ∀ i ∈ (Value.slice sv.a sv.n sv.cap).ownBlock.toList, w0.heap.size ≤ i := fun i hi => (h.bf.lt i (by simpa using hi)).1
  exact ⟨hv, Nat.le_trans h.sz k.size, h.chg.trans k (fun i hi hw => by have := hb i hi; omega)⟩
set_option maxHeartbeats 8000000 in
theorem Spans5_5 (l : List UInt8) (h : opE l = 0) (h2 : ((n4 l 0 : Nat) : Int) = 34 ∨ ((n4 l 0 : Nat) : Int) = 2147483682) (v : Value) (w : World) (rd : byteL.Rd w v l) :
    Calls Tryz.prog 75 #[v] w (SpP w (spsN l 5)) := by
  have hlen : 48 ≤ l.length := by
    have := (opE_len h).2
    rcases h2 with h2 | h2 <;> rw [h2] at this
    · have h3 : leastF 34 = 48 := by decide
      omega
    · have h3 : leastF 2147483682 = 48 := by decide
      omega
  rcases h2 with h13 | h13
  · have HOP := Lib.hid (Cmd5_any l v w rd)
    rw [show cmdN l = n4 l 0 by unfold cmdN; rw [if_neg (by have := (opE_len h).1; omega)], h] at HOP
    rw [h13] at HOP
    have H := Lib.hid (h)
    have Rd := Lib.hid (rd)
    have Hlen := Lib.hid hlen
    clear hlen
    clear h rd
    go_enter Tryz.func75, Tryz.ntmps75
    go_wp2_with fail
    refine (HOP.out).mono ?_
    rintro e W0 ⟨rfl, rfl⟩
    clear HOP
    go_wp2_with fail
    go_loopw [7, 8] (fun s7 s8 wr => ∃ (k : Nat) (sv : SlV), k ≤ 5 ∧ s8 = .int .i64 (k : Int) ∧ s7 = .slice sv.a sv.n sv.cap ∧ Sp5R W0 (spsN l k) sv wr) (fun _ s8 _ => 5 - (intOf s8).toNat)
    case atStart => exact ⟨0, ⟨none, 0, 0⟩, Nat.zero_le _, rfl, rfl, Lay.Buf.nil _ _, Nat.le_refl _, Chg.refl _ _⟩
    case round =>
      obtain ⟨k, sv, hk, rfl, rfl, hr⟩ := hrel
      by_cases hlt : k < 5
      · have dlt : decide ((k : Int) < 5) = true := decide_eq_true (by omega)
        obtain ⟨ad, k', cd⟩ := sv
        obtain rfl : k' = k := by
          obtain ⟨_, _, he, _, _⟩ := hr.bf.rd.shape
          cases he
          exact spsN_len l _
        have u1 : wrap64 (8 * (k' : Int)) = 8 * (k' : Int) := by unfold wrap64; omega
        have u2 : wrap64 (8 + 8 * (k' : Int)) = ((8 + 8 * k' : Nat) : Int) := by unfold wrap64; omega
        have u3 : wrap64 (12 + 8 * (k' : Int)) = ((12 + 8 * k' : Nat) : Int) := by unfold wrap64; omega
        have R0 := Lib.hid (hr)
        clear hr
        go_wp2_with fail
        have hat := at5_any l (8 + 8 * k') 4 (by decide) (by decide) (by have := Hlen.out; omega) _ _ (Rd.out.frame R0.out.chg)
        rw [show leNum ((l.drop (8 + 8 * k')).take 4) = n4 l (8 + 8 * k') from rfl] at hat
        refine hat.mono ?_
        clear hat
        rintro e W1 ⟨rfl, rfl⟩
        go_wp2_with fail
        have hat := at5_any l (12 + 8 * k') 4 (by decide) (by decide) (by have := Hlen.out; omega) _ _ (Rd.out.frame R0.out.chg)
        rw [show leNum ((l.drop (12 + 8 * k')).take 4) = n4 l (12 + 8 * k') from rfl] at hat
        refine hat.mono ?_
        clear hat
        rintro e W2 ⟨rfl, rfl⟩
        clear u1 u2 u3
        go_wp2_with ((with_reducible refine bs1 ((spAt l k')) (spn_built _) ?_ ?_ ?_); exact rfl; exact rfl; intro VA va cva rva; replace cva := Lib.hid cva; replace rva := Lib.hid rva; refine Hid.out ?_)
        refine Lib.hid ?_
        have RA := Lib.hid (R0.out.pure cva.out)
        go_wp2_with (at_builtin; refine Lay.app (L := spnL) Tryz.infoSpn rfl _ _ rfl W0.heap.size (.slice ad k' cd) (spsN l k') rfl RA.out.bf _ rfl [spAt l k'] rva.out (by rw [spsN_len]; simp; omega) (by rw [spsN_len]; simp; omega) RA.out.sz ?_; intro vb VB hov hgv hlc; replace hov := Lib.hid hov; replace hgv := Lib.hid hgv; clear hlc; refine Hid.out ?_)
        refine Lib.hid ?_
        have hov := hov.out
        rw [← spsN_succ] at hov
        obtain ⟨ab, cb, rfl, hb1, hb2⟩ := hov.rd.shape
        rw [spsN_len] at hov ⊢
        have RB : Hid (Sp5R W0 (spsN l (k' + 1)) ⟨ab, k' + 1, cb⟩ VB) := Lib.hid (Sp5R.app RA.out hgv.out hov)
        clear hov hgv hb1 hb2
        go_wp2
        go_roundw
        case rel => exact ⟨k' + 1, ⟨ab, k' + 1, cb⟩, hlt, by go_num, rfl, RB.out⟩
        case measure => simp [intOf]; omega
      · obtain rfl : k = 5 := by omega
        obtain ⟨ad, k', cd⟩ := sv
        obtain rfl : k' = 5 := by
          obtain ⟨_, _, he, _, _⟩ := hr.bf.rd.shape
          injection he with he1 he2 he3
        have R0 := Lib.hid (hr)
        clear hr
        go_wp2
        go_ret2
        exact ⟨⟨_, _, _⟩, rfl, R0.out.bf, R0.out.chg⟩
  · have HOP := Lib.hid (Cmd5_any l v w rd)
    rw [show cmdN l = n4 l 0 by unfold cmdN; rw [if_neg (by have := (opE_len h).1; omega)], h] at HOP
    rw [h13] at HOP
    have H := Lib.hid (h)
    have Rd := Lib.hid (rd)
    have Hlen := Lib.hid hlen
    clear hlen
    clear h rd
    go_enter Tryz.func75, Tryz.ntmps75
    go_wp2_with fail
    refine (HOP.out).mono ?_
    rintro e W0 ⟨rfl, rfl⟩
    clear HOP
    go_wp2_with fail
    go_loopw [7, 8] (fun s7 s8 wr => ∃ (k : Nat) (sv : SlV), k ≤ 5 ∧ s8 = .int .i64 (k : Int) ∧ s7 = .slice sv.a sv.n sv.cap ∧ Sp5R W0 (spsN l k) sv wr) (fun _ s8 _ => 5 - (intOf s8).toNat)
    case atStart => exact ⟨0, ⟨none, 0, 0⟩, Nat.zero_le _, rfl, rfl, Lay.Buf.nil _ _, Nat.le_refl _, Chg.refl _ _⟩
    case round =>
      obtain ⟨k, sv, hk, rfl, rfl, hr⟩ := hrel
      by_cases hlt : k < 5
      · have dlt : decide ((k : Int) < 5) = true := decide_eq_true (by omega)
        obtain ⟨ad, k', cd⟩ := sv
        obtain rfl : k' = k := by
          obtain ⟨_, _, he, _, _⟩ := hr.bf.rd.shape
          cases he
          exact spsN_len l _
        have u1 : wrap64 (8 * (k' : Int)) = 8 * (k' : Int) := by unfold wrap64; omega
        have u2 : wrap64 (8 + 8 * (k' : Int)) = ((8 + 8 * k' : Nat) : Int) := by unfold wrap64; omega
        have u3 : wrap64 (12 + 8 * (k' : Int)) = ((12 + 8 * k' : Nat) : Int) := by unfold wrap64; omega
        have R0 := Lib.hid (hr)
        clear hr
        go_wp2_with fail
        have hat := at5_any l (8 + 8 * k') 4 (by decide) (by decide) (by have := Hlen.out; omega) _ _ (Rd.out.frame R0.out.chg)
        rw [show leNum ((l.drop (8 + 8 * k')).take 4) = n4 l (8 + 8 * k') from rfl] at hat
        refine hat.mono ?_
        clear hat
        rintro e W1 ⟨rfl, rfl⟩
        go_wp2_with fail
        have hat := at5_any l (12 + 8 * k') 4 (by decide) (by decide) (by have := Hlen.out; omega) _ _ (Rd.out.frame R0.out.chg)
        rw [show leNum ((l.drop (12 + 8 * k')).take 4) = n4 l (12 + 8 * k') from rfl] at hat
        refine hat.mono ?_
        clear hat
        rintro e W2 ⟨rfl, rfl⟩
        clear u1 u2 u3
        go_wp2_with ((with_reducible refine bs1 ((spAt l k')) (spn_built _) ?_ ?_ ?_); exact rfl; exact rfl; intro VA va cva rva; replace cva := Lib.hid cva; replace rva := Lib.hid rva; refine Hid.out ?_)
        refine Lib.hid ?_
        have RA := Lib.hid (R0.out.pure cva.out)
        go_wp2_with (at_builtin; refine Lay.app (L := spnL) Tryz.infoSpn rfl _ _ rfl W0.heap.size (.slice ad k' cd) (spsN l k') rfl RA.out.bf _ rfl [spAt l k'] rva.out (by rw [spsN_len]; simp; omega) (by rw [spsN_len]; simp; omega) RA.out.sz ?_; intro vb VB hov hgv hlc; replace hov := Lib.hid hov; replace hgv := Lib.hid hgv; clear hlc; refine Hid.out ?_)
        refine Lib.hid ?_
        have hov := hov.out
        rw [← spsN_succ] at hov
        obtain ⟨ab, cb, rfl, hb1, hb2⟩ := hov.rd.shape
        rw [spsN_len] at hov ⊢
        have RB : Hid (Sp5R W0 (spsN l (k' + 1)) ⟨ab, k' + 1, cb⟩ VB) := Lib.hid (Sp5R.app RA.out hgv.out hov)
        clear hov hgv hb1 hb2
        go_wp2
        go_roundw
        case rel => exact ⟨k' + 1, ⟨ab, k' + 1, cb⟩, hlt, by go_num, rfl, RB.out⟩
        case measure => simp [intOf]; omega
      · obtain rfl : k = 5 := by omega
        obtain ⟨ad, k', cd⟩ := sv
        obtain rfl : k' = 5 := by
          obtain ⟨_, _, he, _, _⟩ := hr.bf.rd.shape
          injection he with he1 he2 he3
        have R0 := Lib.hid (hr)
        clear hr
        go_wp2
        go_ret2
        exact ⟨⟨_, _, _⟩, rfl, R0.out.bf, R0.out.chg⟩
set_option maxHeartbeats 8000000 in
theorem Spans5_1 (l : List UInt8) (h : opE l = 0) (h2 : ((n4 l 0 : Nat) : Int) = 2147483699 ∨ ((n4 l 0 : Nat) : Int) = 2147483700) (v : Value) (w : World) (rd : byteL.Rd w v l) :
    Calls Tryz.prog 75 #[v] w (SpP w (spsN l 1)) := by
  have hlen : 16 ≤ l.length := by
    have := (opE_len h).2
    rcases h2 with h2 | h2 <;> rw [h2] at this
    · have h3 : leastF 2147483699 = 16 := by decide
      omega
    · have h3 : leastF 2147483700 = 16 := by decide
      omega
  rcases h2 with h13 | h13
  · have HOP := Lib.hid (Cmd5_any l v w rd)
    rw [show cmdN l = n4 l 0 by unfold cmdN; rw [if_neg (by have := (opE_len h).1; omega)], h] at HOP
    rw [h13] at HOP
    have H := Lib.hid (h)
    have Rd := Lib.hid (rd)
    have Hlen := Lib.hid hlen
    clear hlen
    clear h rd
    go_enter Tryz.func75, Tryz.ntmps75
    go_wp2_with fail
    refine (HOP.out).mono ?_
    rintro e W0 ⟨rfl, rfl⟩
    clear HOP
    go_wp2_with fail
    go_loopw [7, 8] (fun s7 s8 wr => ∃ (k : Nat) (sv : SlV), k ≤ 1 ∧ s8 = .int .i64 (k : Int) ∧ s7 = .slice sv.a sv.n sv.cap ∧ Sp5R W0 (spsN l k) sv wr) (fun _ s8 _ => 1 - (intOf s8).toNat)
    case atStart => exact ⟨0, ⟨none, 0, 0⟩, Nat.zero_le _, rfl, rfl, Lay.Buf.nil _ _, Nat.le_refl _, Chg.refl _ _⟩
    case round =>
      obtain ⟨k, sv, hk, rfl, rfl, hr⟩ := hrel
      by_cases hlt : k < 1
      · have dlt : decide ((k : Int) < 1) = true := decide_eq_true (by omega)
        obtain ⟨ad, k', cd⟩ := sv
        obtain rfl : k' = k := by
          obtain ⟨_, _, he, _, _⟩ := hr.bf.rd.shape
          cases he
          exact spsN_len l _
        have u1 : wrap64 (8 * (k' : Int)) = 8 * (k' : Int) := by unfold wrap64; omega
        have u2 : wrap64 (8 + 8 * (k' : Int)) = ((8 + 8 * k' : Nat) : Int) := by unfold wrap64; omega
        have u3 : wrap64 (12 + 8 * (k' : Int)) = ((12 + 8 * k' : Nat) : Int) := by unfold wrap64; omega
        have R0 := Lib.hid (hr)
        clear hr
        go_wp2_with fail
        have hat := at5_any l (8 + 8 * k') 4 (by decide) (by decide) (by have := Hlen.out; omega) _ _ (Rd.out.frame R0.out.chg)
        rw [show leNum ((l.drop (8 + 8 * k')).take 4) = n4 l (8 + 8 * k') from rfl] at hat
        refine hat.mono ?_
        clear hat
        rintro e W1 ⟨rfl, rfl⟩
        go_wp2_with fail
        have hat := at5_any l (12 + 8 * k') 4 (by decide) (by decide) (by have := Hlen.out; omega) _ _ (Rd.out.frame R0.out.chg)
        rw [show leNum ((l.drop (12 + 8 * k')).take 4) = n4 l (12 + 8 * k') from rfl] at hat
        refine hat.mono ?_
        clear hat
        rintro e W2 ⟨rfl, rfl⟩
        clear u1 u2 u3
        go_wp2_with ((with_reducible refine bs1 ((spAt l k')) (spn_built _) ?_ ?_ ?_); exact rfl; exact rfl; intro VA va cva rva; replace cva := Lib.hid cva; replace rva := Lib.hid rva; refine Hid.out ?_)
        refine Lib.hid ?_
        have RA := Lib.hid (R0.out.pure cva.out)
        go_wp2_with (at_builtin; refine Lay.app (L := spnL) Tryz.infoSpn rfl _ _ rfl W0.heap.size (.slice ad k' cd) (spsN l k') rfl RA.out.bf _ rfl [spAt l k'] rva.out (by rw [spsN_len]; simp; omega) (by rw [spsN_len]; simp; omega) RA.out.sz ?_; intro vb VB hov hgv hlc; replace hov := Lib.hid hov; replace hgv := Lib.hid hgv; clear hlc; refine Hid.out ?_)
        refine Lib.hid ?_
        have hov := hov.out
        rw [← spsN_succ] at hov
        obtain ⟨ab, cb, rfl, hb1, hb2⟩ := hov.rd.shape
        rw [spsN_len] at hov ⊢
        have RB : Hid (Sp5R W0 (spsN l (k' + 1)) ⟨ab, k' + 1, cb⟩ VB) := Lib.hid (Sp5R.app RA.out hgv.out hov)
        clear hov hgv hb1 hb2
        go_wp2
        go_roundw
        case rel => exact ⟨k' + 1, ⟨ab, k' + 1, cb⟩, hlt, by go_num, rfl, RB.out⟩
        case measure => simp [intOf]; omega
      · obtain rfl : k = 1 := by omega
        obtain ⟨ad, k', cd⟩ := sv
        obtain rfl : k' = 1 := by
          obtain ⟨_, _, he, _, _⟩ := hr.bf.rd.shape
          injection he with he1 he2 he3
        have R0 := Lib.hid (hr)
        clear hr
        go_wp2
        go_ret2
        exact ⟨⟨_, _, _⟩, rfl, R0.out.bf, R0.out.chg⟩
  · have HOP := Lib.hid (Cmd5_any l v w rd)
    rw [show cmdN l = n4 l 0 by unfold cmdN; rw [if_neg (by have := (opE_len h).1; omega)], h] at HOP
    rw [h13] at HOP
    have H := Lib.hid (h)
    have Rd := Lib.hid (rd)
    have Hlen := Lib.hid hlen
    clear hlen
    clear h rd
    go_enter Tryz.func75, Tryz.ntmps75
    go_wp2_with fail
    refine (HOP.out).mono ?_
    rintro e W0 ⟨rfl, rfl⟩
    clear HOP
    go_wp2_with fail
    go_loopw [7, 8] (fun s7 s8 wr => ∃ (k : Nat) (sv : SlV), k ≤ 1 ∧ s8 = .int .i64 (k : Int) ∧ s7 = .slice sv.a sv.n sv.cap ∧ Sp5R W0 (spsN l k) sv wr) (fun _ s8 _ => 1 - (intOf s8).toNat)
    case atStart => exact ⟨0, ⟨none, 0, 0⟩, Nat.zero_le _, rfl, rfl, Lay.Buf.nil _ _, Nat.le_refl _, Chg.refl _ _⟩
    case round =>
      obtain ⟨k, sv, hk, rfl, rfl, hr⟩ := hrel
      by_cases hlt : k < 1
      · have dlt : decide ((k : Int) < 1) = true := decide_eq_true (by omega)
        obtain ⟨ad, k', cd⟩ := sv
        obtain rfl : k' = k := by
          obtain ⟨_, _, he, _, _⟩ := hr.bf.rd.shape
          cases he
          exact spsN_len l _
        have u1 : wrap64 (8 * (k' : Int)) = 8 * (k' : Int) := by unfold wrap64; omega
        have u2 : wrap64 (8 + 8 * (k' : Int)) = ((8 + 8 * k' : Nat) : Int) := by unfold wrap64; omega
        have u3 : wrap64 (12 + 8 * (k' : Int)) = ((12 + 8 * k' : Nat) : Int) := by unfold wrap64; omega
        have R0 := Lib.hid (hr)
        clear hr
        go_wp2_with fail
        have hat := at5_any l (8 + 8 * k') 4 (by decide) (by decide) (by have := Hlen.out; omega) _ _ (Rd.out.frame R0.out.chg)
        rw [show leNum ((l.drop (8 + 8 * k')).take 4) = n4 l (8 + 8 * k') from rfl] at hat
        refine hat.mono ?_
        clear hat
        rintro e W1 ⟨rfl, rfl⟩
        go_wp2_with fail
        have hat := at5_any l (12 + 8 * k') 4 (by decide) (by decide) (by have := Hlen.out; omega) _ _ (Rd.out.frame R0.out.chg)
        rw [show leNum ((l.drop (12 + 8 * k')).take 4) = n4 l (12 + 8 * k') from rfl] at hat
        refine hat.mono ?_
        clear hat
        rintro e W2 ⟨rfl, rfl⟩
        clear u1 u2 u3
        go_wp2_with ((with_reducible refine bs1 ((spAt l k')) (spn_built _) ?_ ?_ ?_); exact rfl; exact rfl; intro VA va cva rva; replace cva := Lib.hid cva; replace rva := Lib.hid rva; refine Hid.out ?_)
        refine Lib.hid ?_
        have RA := Lib.hid (R0.out.pure cva.out)
        go_wp2_with (at_builtin; refine Lay.app (L := spnL) Tryz.infoSpn rfl _ _ rfl W0.heap.size (.slice ad k' cd) (spsN l k') rfl RA.out.bf _ rfl [spAt l k'] rva.out (by rw [spsN_len]; simp; omega) (by rw [spsN_len]; simp; omega) RA.out.sz ?_; intro vb VB hov hgv hlc; replace hov := Lib.hid hov; replace hgv := Lib.hid hgv; clear hlc; refine Hid.out ?_)
        refine Lib.hid ?_
        have hov := hov.out
        rw [← spsN_succ] at hov
        obtain ⟨ab, cb, rfl, hb1, hb2⟩ := hov.rd.shape
        rw [spsN_len] at hov ⊢
        have RB : Hid (Sp5R W0 (spsN l (k' + 1)) ⟨ab, k' + 1, cb⟩ VB) := Lib.hid (Sp5R.app RA.out hgv.out hov)
        clear hov hgv hb1 hb2
        go_wp2
        go_roundw
        case rel => exact ⟨k' + 1, ⟨ab, k' + 1, cb⟩, hlt, by go_num, rfl, RB.out⟩
        case measure => simp [intOf]; omega
      · obtain rfl : k = 1 := by omega
        obtain ⟨ad, k', cd⟩ := sv
        obtain rfl : k' = 1 := by
          obtain ⟨_, _, he, _, _⟩ := hr.bf.rd.shape
          injection he with he1 he2 he3
        have R0 := Lib.hid (hr)
        clear hr
        go_wp2
        go_ret2
        exact ⟨⟨_, _, _⟩, rfl, R0.out.bf, R0.out.chg⟩
set_option maxHeartbeats 8000000 in
theorem Spans5_2 (l : List UInt8) (h : opE l = 0) (h13 : ((n4 l 0 : Nat) : Int) = 2) (v : Value) (w : World) (rd : byteL.Rd w v l) :
    Calls Tryz.prog 75 #[v] w (SpP w [⟨n4 l 8, (n4 l 12 : Int) * 16⟩, spAt l 1]) := by
  have hlen : 24 ≤ l.length := by
    have := (opE_len h).2
    rw [h13] at this
    have h3 : leastF 2 = 24 := by decide
    omega
  have HOP := Lib.hid (Cmd5_any l v w rd)
  rw [show cmdN l = n4 l 0 by unfold cmdN; rw [if_neg (by have := (opE_len h).1; omega)], h] at HOP
  rw [h13] at HOP
  have H := Lib.hid (h)
  have Rd := Lib.hid (rd)
  have Hlen := Lib.hid hlen
  clear hlen
  clear h rd
  go_enter Tryz.func75, Tryz.ntmps75
  go_wp2_with fail
  refine (HOP.out).mono ?_
  rintro e W0 ⟨rfl, rfl⟩
  clear HOP
  go_wp2_with fail
  go_loopw [7, 8] (fun s7 s8 wr => ∃ (k : Nat) (sv : SlV), k ≤ 2 ∧ s8 = .int .i64 (k : Int) ∧ s7 = .slice sv.a sv.n sv.cap ∧ Sp5R W0 (spsN l k) sv wr) (fun _ s8 _ => 2 - (intOf s8).toNat)
  case atStart => exact ⟨0, ⟨none, 0, 0⟩, Nat.zero_le _, rfl, rfl, Lay.Buf.nil _ _, Nat.le_refl _, Chg.refl _ _⟩
  case round =>
    obtain ⟨k, sv, hk, rfl, rfl, hr⟩ := hrel
    by_cases hlt : k < 2
    · have dlt : decide ((k : Int) < 2) = true := decide_eq_true (by omega)
      obtain ⟨ad, k', cd⟩ := sv
      obtain rfl : k' = k := by
        obtain ⟨_, _, he, _, _⟩ := hr.bf.rd.shape
        cases he
        exact spsN_len l _
      have u1 : wrap64 (8 * (k' : Int)) = 8 * (k' : Int) := by unfold wrap64; omega
      have u2 : wrap64 (8 + 8 * (k' : Int)) = ((8 + 8 * k' : Nat) : Int) := by unfold wrap64; omega
      have u3 : wrap64 (12 + 8 * (k' : Int)) = ((12 + 8 * k' : Nat) : Int) := by unfold wrap64; omega
      have R0 := Lib.hid (hr)
      clear hr
      go_wp2_with fail
      have hat := at5_any l (8 + 8 * k') 4 (by decide) (by decide) (by have := Hlen.out; omega) _ _ (Rd.out.frame R0.out.chg)
      rw [show leNum ((l.drop (8 + 8 * k')).take 4) = n4 l (8 + 8 * k') from rfl] at hat
      refine hat.mono ?_
      clear hat
      rintro e W1 ⟨rfl, rfl⟩
      go_wp2_with fail
      have hat := at5_any l (12 + 8 * k') 4 (by decide) (by decide) (by have := Hlen.out; omega) _ _ (Rd.out.frame R0.out.chg)
      rw [show leNum ((l.drop (12 + 8 * k')).take 4) = n4 l (12 + 8 * k') from rfl] at hat
      refine hat.mono ?_
      clear hat
      rintro e W2 ⟨rfl, rfl⟩
      clear u1 u2 u3
      go_wp2_with ((with_reducible refine bs1 ((spAt l k')) (spn_built _) ?_ ?_ ?_); exact rfl; exact rfl; intro VA va cva rva; replace cva := Lib.hid cva; replace rva := Lib.hid rva; refine Hid.out ?_)
      refine Lib.hid ?_
      have RA := Lib.hid (R0.out.pure cva.out)
      go_wp2_with (at_builtin; refine Lay.app (L := spnL) Tryz.infoSpn rfl _ _ rfl W0.heap.size (.slice ad k' cd) (spsN l k') rfl RA.out.bf _ rfl [spAt l k'] rva.out (by rw [spsN_len]; simp; omega) (by rw [spsN_len]; simp; omega) RA.out.sz ?_; intro vb VB hov hgv hlc; replace hov := Lib.hid hov; replace hgv := Lib.hid hgv; clear hlc; refine Hid.out ?_)
      refine Lib.hid ?_
      have hov := hov.out
      rw [← spsN_succ] at hov
      obtain ⟨ab, cb, rfl, hb1, hb2⟩ := hov.rd.shape
      rw [spsN_len] at hov ⊢
      have RB : Hid (Sp5R W0 (spsN l (k' + 1)) ⟨ab, k' + 1, cb⟩ VB) := Lib.hid (Sp5R.app RA.out hgv.out hov)
      clear hov hgv hb1 hb2
      go_wp2
      go_roundw
      case rel => exact ⟨k' + 1, ⟨ab, k' + 1, cb⟩, hlt, by go_num, rfl, RB.out⟩
      case measure => simp [intOf]; omega
    · obtain rfl : k = 2 := by omega
      obtain ⟨ad, k', cd⟩ := sv
      obtain rfl : k' = 2 := by
        obtain ⟨_, _, he, _, _⟩ := hr.bf.rd.shape
        injection he with he1 he2 he3
      have R0 := Lib.hid (hr)
      clear hr
      have hbf := R0.out.bf
      obtain ⟨g, cap', hsl, hg0, hg1, _, _, hown, hfz, hIn⟩ := hbf.at (by rw [spsN_len]; decide)
      injection hsl with hsl1 hsl2 hsl3
      subst hsl1
      clear hsl2 hsl3 hown
      have y1 : wr.cell? ⟨g, 1, none⟩ = some (.int .u64 (n4 l 12 : Int)) := by
        have := hIn 0 (by rw [spsN_len]; decide) 1 (by decide)
        exact this
      have z1 := hfz 1
      have h12 := n4_lt l 12
      have hw : IntKind.u64.wrap (16 * (n4 l 12 : Int)) = (n4 l 12 : Int) * 16 := by rw [IntKind.wrap_u64]; omega
      have BF := Lib.hid hbf
      have HIn := Lib.hid hIn
      have Hfz := Lib.hid hfz
      have H122 := Lib.hid h12
      clear hbf hIn hfz h12
      obtain ⟨A, hA⟩ : ∃ A : Int, A = (n4 l 12 : Int) := ⟨_, rfl⟩
      rw [← hA] at y1 hw
      rw [← hA]
      have HA := Lib.hid hA
      have Hw := Lib.hid hw
      clear hA hw
      go_wp2
      go_ret2
      have hw' : IntKind.u64.wrap (16 * A) = (n4 l 12 : Int) * 16 := by rw [Hw.out, HA.out]
      rw [hw']
      refine ⟨⟨_, _, _⟩, rfl, (Lay.Buf.set BF.out rfl 0 (by rw [spsN_len]; decide) 1 (by decide) _ (⟨n4 l 8, (n4 l 12 : Int) * 16⟩ : Spn) rfl), R0.out.chg.setCell _ _ (.inr ?_)⟩
      exact hg0
set_option maxHeartbeats 8000000 in
theorem Spans5_no (l : List UInt8) (h : opE l = 0) (h13 : ((n4 l 0 : Nat) : Int) = 2147483688) (v : Value) (w : World) (rd : byteL.Rd w v l) :
    Calls Tryz.prog 75 #[v] w fun e w' => ∃ u, e = .returned (.tuple #[.slice none 0 0, .int .i64 u]) ∧ Chg [] w w' := by
  have HOP := Lib.hid (Cmd5_any l v w rd)
  rw [show cmdN l = n4 l 0 by unfold cmdN; rw [if_neg (by have := (opE_len h).1; omega)], h] at HOP
  rw [h13] at HOP
  have Rd := Lib.hid (rd)
  clear h rd
  go_enter Tryz.func75, Tryz.ntmps75
  go_wp2_with fail
  refine (HOP.out).mono ?_
  rintro e W0 ⟨rfl, rfl⟩
  clear HOP
  go_wp2
  go_ret2
  exact ⟨_, rfl, Chg.refl _ _⟩
end Go.Proofs.YtaipelkegemoeaaGreatDoor
