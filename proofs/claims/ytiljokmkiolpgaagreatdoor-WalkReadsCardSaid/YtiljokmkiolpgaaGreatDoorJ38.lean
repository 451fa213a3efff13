/- Lemmas, laid together: part 38 of 42. Conditions: none but each lemma's own. -/
import Derived.Test.YtiljokmkiolpgaaGreatDoorJ37
import Derived.Test.YtiljokmkiolpgaaGreatDoorJ19
import Derived.BigRegion
import Derived.Test.YtiljokmkiolpgaaGreatDoorJ1
namespace Go.Proofs.YtiljokmkiolpgaaGreatDoor
open Go.RowKit
set_option maxRecDepth 100000
structure Sp5R (w0 : World) (ks : List Spn) (sv : SlV) (wr : World) : Prop where
 bf : spnL.Buf 30 wr w0.heap.size (.slice sv.a sv.n sv.cap) ks
 sz : w0.heap.size ≤ wr.heap.size
 chg : Chg [] w0 wr
theorem Sp5R.pure {w0 : World} {ks : List Spn} {sv : SlV} {w w' : World} (h : Sp5R w0 ks sv w) (k : Chg [] w w') : Sp5R w0 ks sv w' :=
 ⟨h.bf.pure k, Nat.le_trans h.sz k.size, h.chg.then k⟩
theorem Sp5R.app {w0 : World} {ks ks' : List Spn} {sv sv' : SlV} {w w' : World} (h : Sp5R w0 ks sv w) (g : w.grownBy w' (Value.slice sv.a sv.n sv.cap).ownBlock) (hv : spnL.Buf 30 w' w0.heap.size (.slice sv'.a sv'.n sv'.cap) ks') : Sp5R w0 ks' sv' w' := by
 have k := Lay.chg_grown g
 have hb : ∀ i ∈ (Value.slice sv.a sv.n sv.cap).ownBlock.toList, w0.heap.size ≤ i := fun i hi => (h.bf.lt i (by simpa using hi)).1
 exact ⟨hv, Nat.le_trans h.sz k.size, h.chg.trans k (fun i hi hw => by have := hb i hi; omega)⟩
set_option maxHeartbeats 8000000 in
theorem Spans5_5 (l : List UInt8) (h : opE l = 0) (h2 : ((n4 l 0 : Nat) : Int) = 34 ∨ ((n4 l 0 : Nat) : Int) = 2147483682) (v : Value) (w : World) (rd : byteL.Rd w v l) :
  Calls Tryz.prog 101 #[v] w (SpP w (spsN l 5)) := by
 have hlen : 48 ≤ l.length := by
  have := (opE_len h).2
  rcases h2 with h2 | h2 <;> rw [h2] at this
  ·have h3 : leastF 34 = 48 := by decide
   omega
  ·have h3 : leastF 2147483682 = 48 := by decide
   omega
 rcases h2 with h13 | h13
 ·have HOP := hY (Cmd5_any l v w rd)
  rw [show cmdN l = n4 l 0 by unfold cmdN; rw [if_neg (by have := (opE_len h).1; omega)], h] at HOP
  rw [h13] at HOP
  have H := hY (h)
  have Rd := hY (rd)
  have Hlen := hY hlen
  clear hlen
  clear h rd
  go_enter Tryz.func101, Tryz.ntmps101
  go_wp2_with fail
  refine (HOP.out).mono ?_
  rintro e W0 ⟨rfl, rfl⟩
  clear HOP
  go_wp2_with fail
  go_loopw [7, 8] (fun s7 s8 wr => ∃ (k : Nat) (sv : SlV), k ≤ 5 ∧ s8 = .int .i64 (k : Int) ∧ s7 = .slice sv.a sv.n sv.cap ∧ Sp5R W0 (spsN l k) sv wr) (fun _ s8 _ => 5 - (intOf s8).toNat)
  case atStart => exact ⟨0, ⟨none, 0, 0⟩, Nat.zero_le _, rfl, rfl, Lay.Buf.nil _ _, Nat.le_refl _, Chg.refl _ _⟩
  case round =>
   obtain ⟨k, sv, hk, rfl, rfl, hr⟩ := hrel
   by_cases hlt : k < 5
   ·have dlt : decide ((k : Int) < 5) = true := decide_eq_true (by omega)
    obtain ⟨ad, k', cd⟩ := sv
    obtain rfl : k' = k := by
     obtain ⟨_, _, he, _, _⟩ := hr.bf.rd.shape
     cases he
     exact spsN_len l _
    have u1 : wrap64 (8 * (k' : Int)) = 8 * (k' : Int) := by unfold wrap64; omega
    have u2 : wrap64 (8 + 8 * (k' : Int)) = ((8 + 8 * k' : Nat) : Int) := by unfold wrap64; omega
    have u3 : wrap64 (12 + 8 * (k' : Int)) = ((12 + 8 * k' : Nat) : Int) := by unfold wrap64; omega
    have R0 := hY (hr)
    clear hr
    go_wp2_with fail
    have hat := at5_any l (8 + 8 * k') 4 (by decide) (by decide) (by have := Hlen.out; omega) _ _ (Rd.out.frame R0.out.chg)
    rw [show leNum ((l.drop (8 + 8 * k')).take 4) = n4 l (8 + 8 * k') from rfl] at hat
    refine hat.mono ?_
    clear hat
    rintro e W1 ⟨rfl, rfl⟩
    go_wp2_with fail
    have hat := at5_any l (12 + 8 * k') 4 (by decide) (by decide) (by have := Hlen.out; omega) _ _ (Rd.out.frame R0.out.chg)
    rw [show leNum ((l.drop (12 + 8 * k')).take 4) = n4 l (12 + 8 * k') from rfl] at hat
    refine hat.mono ?_
    clear hat
    rintro e W2 ⟨rfl, rfl⟩
    clear u1 u2 u3
    go_wp2_with ((with_reducible refine bs1 ((spAt l k')) (spn_built _) ?_ ?_ ?_); exact rfl; exact rfl; intro VA va cva rva; replace cva := hY cva; replace rva := hY rva; refine Hid.out ?_)
    refine hY ?_
    have RA := hY (R0.out.pure cva.out)
    go_wp2_with (at_builtin; refine Lay.app (L := spnL) Tryz.infoSpn rfl _ _ rfl W0.heap.size (.slice ad k' cd) (spsN l k') rfl RA.out.bf _ rfl [spAt l k'] rva.out (by rw [spsN_len]; simp; omega) (by rw [spsN_len]; simp; omega) RA.out.sz ?_; intro vb VB hov hgv hlc; replace hov := hY hov; replace hgv := hY hgv; clear hlc; refine Hid.out ?_)
    refine hY ?_
    have hov := hov.out
    rw [← spsN_succ] at hov
    obtain ⟨ab, cb, rfl, hb1, hb2⟩ := hov.rd.shape
    rw [spsN_len] at hov ⊢
    have RB : Hid (Sp5R W0 (spsN l (k' + 1)) ⟨ab, k' + 1, cb⟩ VB) := hY (Sp5R.app RA.out hgv.out hov)
    clear hov hgv hb1 hb2
    go_wp2
    go_roundw
    case rel => exact ⟨k' + 1, ⟨ab, k' + 1, cb⟩, hlt, by go_num, rfl, RB.out⟩
    case measure => simp [intOf]; omega
   ·obtain rfl : k = 5 := by omega
    obtain ⟨ad, k', cd⟩ := sv
    obtain rfl : k' = 5 := by
     obtain ⟨_, _, he, _, _⟩ := hr.bf.rd.shape
     injection he with he1 he2 he3
    have R0 := hY (hr)
    clear hr
    go_wp2
    go_ret2
    exact ⟨⟨_, _, _⟩, rfl, R0.out.bf, R0.out.chg⟩
 ·have HOP := hY (Cmd5_any l v w rd)
  rw [show cmdN l = n4 l 0 by unfold cmdN; rw [if_neg (by have := (opE_len h).1; omega)], h] at HOP
  rw [h13] at HOP
  have H := hY (h)
  have Rd := hY (rd)
  have Hlen := hY hlen
  clear hlen
  clear h rd
  go_enter Tryz.func101, Tryz.ntmps101
  go_wp2_with fail
  refine (HOP.out).mono ?_
  rintro e W0 ⟨rfl, rfl⟩
  clear HOP
  go_wp2_with fail
  go_loopw [7, 8] (fun s7 s8 wr => ∃ (k : Nat) (sv : SlV), k ≤ 5 ∧ s8 = .int .i64 (k : Int) ∧ s7 = .slice sv.a sv.n sv.cap ∧ Sp5R W0 (spsN l k) sv wr) (fun _ s8 _ => 5 - (intOf s8).toNat)
  case atStart => exact ⟨0, ⟨none, 0, 0⟩, Nat.zero_le _, rfl, rfl, Lay.Buf.nil _ _, Nat.le_refl _, Chg.refl _ _⟩
  case round =>
   obtain ⟨k, sv, hk, rfl, rfl, hr⟩ := hrel
   by_cases hlt : k < 5
   ·have dlt : decide ((k : Int) < 5) = true := decide_eq_true (by omega)
    obtain ⟨ad, k', cd⟩ := sv
    obtain rfl : k' = k := by
     obtain ⟨_, _, he, _, _⟩ := hr.bf.rd.shape
     cases he
     exact spsN_len l _
    have u1 : wrap64 (8 * (k' : Int)) = 8 * (k' : Int) := by unfold wrap64; omega
    have u2 : wrap64 (8 + 8 * (k' : Int)) = ((8 + 8 * k' : Nat) : Int) := by unfold wrap64; omega
    have u3 : wrap64 (12 + 8 * (k' : Int)) = ((12 + 8 * k' : Nat) : Int) := by unfold wrap64; omega
    have R0 := hY (hr)
    clear hr
    go_wp2_with fail
    have hat := at5_any l (8 + 8 * k') 4 (by decide) (by decide) (by have := Hlen.out; omega) _ _ (Rd.out.frame R0.out.chg)
    rw [show leNum ((l.drop (8 + 8 * k')).take 4) = n4 l (8 + 8 * k') from rfl] at hat
    refine hat.mono ?_
    clear hat
    rintro e W1 ⟨rfl, rfl⟩
    go_wp2_with fail
    have hat := at5_any l (12 + 8 * k') 4 (by decide) (by decide) (by have := Hlen.out; omega) _ _ (Rd.out.frame R0.out.chg)
    rw [show leNum ((l.drop (12 + 8 * k')).take 4) = n4 l (12 + 8 * k') from rfl] at hat
    refine hat.mono ?_
    clear hat
    rintro e W2 ⟨rfl, rfl⟩
    clear u1 u2 u3
    go_wp2_with ((with_reducible refine bs1 ((spAt l k')) (spn_built _) ?_ ?_ ?_); exact rfl; exact rfl; intro VA va cva rva; replace cva := hY cva; replace rva := hY rva; refine Hid.out ?_)
    refine hY ?_
    have RA := hY (R0.out.pure cva.out)
    go_wp2_with (at_builtin; refine Lay.app (L := spnL) Tryz.infoSpn rfl _ _ rfl W0.heap.size (.slice ad k' cd) (spsN l k') rfl RA.out.bf _ rfl [spAt l k'] rva.out (by rw [spsN_len]; simp; omega) (by rw [spsN_len]; simp; omega) RA.out.sz ?_; intro vb VB hov hgv hlc; replace hov := hY hov; replace hgv := hY hgv; clear hlc; refine Hid.out ?_)
    refine hY ?_
    have hov := hov.out
    rw [← spsN_succ] at hov
    obtain ⟨ab, cb, rfl, hb1, hb2⟩ := hov.rd.shape
    rw [spsN_len] at hov ⊢
    have RB : Hid (Sp5R W0 (spsN l (k' + 1)) ⟨ab, k' + 1, cb⟩ VB) := hY (Sp5R.app RA.out hgv.out hov)
    clear hov hgv hb1 hb2
    go_wp2
    go_roundw
    case rel => exact ⟨k' + 1, ⟨ab, k' + 1, cb⟩, hlt, by go_num, rfl, RB.out⟩
    case measure => simp [intOf]; omega
   ·obtain rfl : k = 5 := by omega
    obtain ⟨ad, k', cd⟩ := sv
    obtain rfl : k' = 5 := by
     obtain ⟨_, _, he, _, _⟩ := hr.bf.rd.shape
     injection he with he1 he2 he3
    have R0 := hY (hr)
    clear hr
    go_wp2
    go_ret2
    exact ⟨⟨_, _, _⟩, rfl, R0.out.bf, R0.out.chg⟩
set_option maxHeartbeats 8000000 in
theorem Spans5_1 (l : List UInt8) (h : opE l = 0) (h2 : ((n4 l 0 : Nat) : Int) = 2147483699 ∨ ((n4 l 0 : Nat) : Int) = 2147483700) (v : Value) (w : World) (rd : byteL.Rd w v l) :
  Calls Tryz.prog 101 #[v] w (SpP w (spsN l 1)) := by
 have hlen : 16 ≤ l.length := by
  have := (opE_len h).2
  rcases h2 with h2 | h2 <;> rw [h2] at this
  ·have h3 : leastF 2147483699 = 16 := by decide
   omega
  ·have h3 : leastF 2147483700 = 16 := by decide
   omega
 rcases h2 with h13 | h13
 ·have HOP := hY (Cmd5_any l v w rd)
  rw [show cmdN l = n4 l 0 by unfold cmdN; rw [if_neg (by have := (opE_len h).1; omega)], h] at HOP
  rw [h13] at HOP
  have H := hY (h)
  have Rd := hY (rd)
  have Hlen := hY hlen
  clear hlen
  clear h rd
  go_enter Tryz.func101, Tryz.ntmps101
  go_wp2_with fail
  refine (HOP.out).mono ?_
  rintro e W0 ⟨rfl, rfl⟩
  clear HOP
  go_wp2_with fail
  go_loopw [7, 8] (fun s7 s8 wr => ∃ (k : Nat) (sv : SlV), k ≤ 1 ∧ s8 = .int .i64 (k : Int) ∧ s7 = .slice sv.a sv.n sv.cap ∧ Sp5R W0 (spsN l k) sv wr) (fun _ s8 _ => 1 - (intOf s8).toNat)
  case atStart => exact ⟨0, ⟨none, 0, 0⟩, Nat.zero_le _, rfl, rfl, Lay.Buf.nil _ _, Nat.le_refl _, Chg.refl _ _⟩
  case round =>
   obtain ⟨k, sv, hk, rfl, rfl, hr⟩ := hrel
   by_cases hlt : k < 1
   ·have dlt : decide ((k : Int) < 1) = true := decide_eq_true (by omega)
    obtain ⟨ad, k', cd⟩ := sv
    obtain rfl : k' = k := by
     obtain ⟨_, _, he, _, _⟩ := hr.bf.rd.shape
     cases he
     exact spsN_len l _
    have u1 : wrap64 (8 * (k' : Int)) = 8 * (k' : Int) := by unfold wrap64; omega
    have u2 : wrap64 (8 + 8 * (k' : Int)) = ((8 + 8 * k' : Nat) : Int) := by unfold wrap64; omega
    have u3 : wrap64 (12 + 8 * (k' : Int)) = ((12 + 8 * k' : Nat) : Int) := by unfold wrap64; omega
    have R0 := hY (hr)
    clear hr
    go_wp2_with fail
    have hat := at5_any l (8 + 8 * k') 4 (by decide) (by decide) (by have := Hlen.out; omega) _ _ (Rd.out.frame R0.out.chg)
    rw [show leNum ((l.drop (8 + 8 * k')).take 4) = n4 l (8 + 8 * k') from rfl] at hat
    refine hat.mono ?_
    clear hat
    rintro e W1 ⟨rfl, rfl⟩
    go_wp2_with fail
    have hat := at5_any l (12 + 8 * k') 4 (by decide) (by decide) (by have := Hlen.out; omega) _ _ (Rd.out.frame R0.out.chg)
    rw [show leNum ((l.drop (12 + 8 * k')).take 4) = n4 l (12 + 8 * k') from rfl] at hat
    refine hat.mono ?_
    clear hat
    rintro e W2 ⟨rfl, rfl⟩
    clear u1 u2 u3
    go_wp2_with ((with_reducible refine bs1 ((spAt l k')) (spn_built _) ?_ ?_ ?_); exact rfl; exact rfl; intro VA va cva rva; replace cva := hY cva; replace rva := hY rva; refine Hid.out ?_)
    refine hY ?_
    have RA := hY (R0.out.pure cva.out)
    go_wp2_with (at_builtin; refine Lay.app (L := spnL) Tryz.infoSpn rfl _ _ rfl W0.heap.size (.slice ad k' cd) (spsN l k') rfl RA.out.bf _ rfl [spAt l k'] rva.out (by rw [spsN_len]; simp; omega) (by rw [spsN_len]; simp; omega) RA.out.sz ?_; intro vb VB hov hgv hlc; replace hov := hY hov; replace hgv := hY hgv; clear hlc; refine Hid.out ?_)
    refine hY ?_
    have hov := hov.out
    rw [← spsN_succ] at hov
    obtain ⟨ab, cb, rfl, hb1, hb2⟩ := hov.rd.shape
    rw [spsN_len] at hov ⊢
    have RB : Hid (Sp5R W0 (spsN l (k' + 1)) ⟨ab, k' + 1, cb⟩ VB) := hY (Sp5R.app RA.out hgv.out hov)
    clear hov hgv hb1 hb2
    go_wp2
    go_roundw
    case rel => exact ⟨k' + 1, ⟨ab, k' + 1, cb⟩, hlt, by go_num, rfl, RB.out⟩
    case measure => simp [intOf]; omega
   ·obtain rfl : k = 1 := by omega
    obtain ⟨ad, k', cd⟩ := sv
    obtain rfl : k' = 1 := by
     obtain ⟨_, _, he, _, _⟩ := hr.bf.rd.shape
     injection he with he1 he2 he3
    have R0 := hY (hr)
    clear hr
    go_wp2
    go_ret2
    exact ⟨⟨_, _, _⟩, rfl, R0.out.bf, R0.out.chg⟩
 ·have HOP := hY (Cmd5_any l v w rd)
  rw [show cmdN l = n4 l 0 by unfold cmdN; rw [if_neg (by have := (opE_len h).1; omega)], h] at HOP
  rw [h13] at HOP
  have H := hY (h)
  have Rd := hY (rd)
  have Hlen := hY hlen
  clear hlen
  clear h rd
  go_enter Tryz.func101, Tryz.ntmps101
  go_wp2_with fail
  refine (HOP.out).mono ?_
  rintro e W0 ⟨rfl, rfl⟩
  clear HOP
  go_wp2_with fail
  go_loopw [7, 8] (fun s7 s8 wr => ∃ (k : Nat) (sv : SlV), k ≤ 1 ∧ s8 = .int .i64 (k : Int) ∧ s7 = .slice sv.a sv.n sv.cap ∧ Sp5R W0 (spsN l k) sv wr) (fun _ s8 _ => 1 - (intOf s8).toNat)
  case atStart => exact ⟨0, ⟨none, 0, 0⟩, Nat.zero_le _, rfl, rfl, Lay.Buf.nil _ _, Nat.le_refl _, Chg.refl _ _⟩
  case round =>
   obtain ⟨k, sv, hk, rfl, rfl, hr⟩ := hrel
   by_cases hlt : k < 1
   ·have dlt : decide ((k : Int) < 1) = true := decide_eq_true (by omega)
    obtain ⟨ad, k', cd⟩ := sv
    obtain rfl : k' = k := by
     obtain ⟨_, _, he, _, _⟩ := hr.bf.rd.shape
     cases he
     exact spsN_len l _
    have u1 : wrap64 (8 * (k' : Int)) = 8 * (k' : Int) := by unfold wrap64; omega
    have u2 : wrap64 (8 + 8 * (k' : Int)) = ((8 + 8 * k' : Nat) : Int) := by unfold wrap64; omega
    have u3 : wrap64 (12 + 8 * (k' : Int)) = ((12 + 8 * k' : Nat) : Int) := by unfold wrap64; omega
    have R0 := hY (hr)
    clear hr
    go_wp2_with fail
    have hat := at5_any l (8 + 8 * k') 4 (by decide) (by decide) (by have := Hlen.out; omega) _ _ (Rd.out.frame R0.out.chg)
    rw [show leNum ((l.drop (8 + 8 * k')).take 4) = n4 l (8 + 8 * k') from rfl] at hat
    refine hat.mono ?_
    clear hat
    rintro e W1 ⟨rfl, rfl⟩
    go_wp2_with fail
    have hat := at5_any l (12 + 8 * k') 4 (by decide) (by decide) (by have := Hlen.out; omega) _ _ (Rd.out.frame R0.out.chg)
    rw [show leNum ((l.drop (12 + 8 * k')).take 4) = n4 l (12 + 8 * k') from rfl] at hat
    refine hat.mono ?_
    clear hat
    rintro e W2 ⟨rfl, rfl⟩
    clear u1 u2 u3
    go_wp2_with ((with_reducible refine bs1 ((spAt l k')) (spn_built _) ?_ ?_ ?_); exact rfl; exact rfl; intro VA va cva rva; replace cva := hY cva; replace rva := hY rva; refine Hid.out ?_)
    refine hY ?_
    have RA := hY (R0.out.pure cva.out)
    go_wp2_with (at_builtin; refine Lay.app (L := spnL) Tryz.infoSpn rfl _ _ rfl W0.heap.size (.slice ad k' cd) (spsN l k') rfl RA.out.bf _ rfl [spAt l k'] rva.out (by rw [spsN_len]; simp; omega) (by rw [spsN_len]; simp; omega) RA.out.sz ?_; intro vb VB hov hgv hlc; replace hov := hY hov; replace hgv := hY hgv; clear hlc; refine Hid.out ?_)
    refine hY ?_
    have hov := hov.out
    rw [← spsN_succ] at hov
    obtain ⟨ab, cb, rfl, hb1, hb2⟩ := hov.rd.shape
    rw [spsN_len] at hov ⊢
    have RB : Hid (Sp5R W0 (spsN l (k' + 1)) ⟨ab, k' + 1, cb⟩ VB) := hY (Sp5R.app RA.out hgv.out hov)
    clear hov hgv hb1 hb2
    go_wp2
    go_roundw
    case rel => exact ⟨k' + 1, ⟨ab, k' + 1, cb⟩, hlt, by go_num, rfl, RB.out⟩
    case measure => simp [intOf]; omega
   ·obtain rfl : k = 1 := by omega
    obtain ⟨ad, k', cd⟩ := sv
    obtain rfl : k' = 1 := by
     obtain ⟨_, _, he, _, _⟩ := hr.bf.rd.shape
     injection he with he1 he2 he3
    have R0 := hY (hr)
    clear hr
    go_wp2
    go_ret2
    exact ⟨⟨_, _, _⟩, rfl, R0.out.bf, R0.out.chg⟩
set_option maxHeartbeats 8000000 in
theorem Spans5_2 (l : List UInt8) (h : opE l = 0) (h13 : ((n4 l 0 : Nat) : Int) = 2) (v : Value) (w : World) (rd : byteL.Rd w v l) :
  Calls Tryz.prog 101 #[v] w (SpP w [⟨n4 l 8, (n4 l 12 : Int) * 16⟩, spAt l 1]) := by
 have hlen : 24 ≤ l.length := by
  have := (opE_len h).2
  rw [h13] at this
  have h3 : leastF 2 = 24 := by decide
  omega
 have HOP := hY (Cmd5_any l v w rd)
 rw [show cmdN l = n4 l 0 by unfold cmdN; rw [if_neg (by have := (opE_len h).1; omega)], h] at HOP
 rw [h13] at HOP
 have H := hY (h)
 have Rd := hY (rd)
 have Hlen := hY hlen
 clear hlen
 clear h rd
 go_enter Tryz.func101, Tryz.ntmps101
 go_wp2_with fail
 refine (HOP.out).mono ?_
 rintro e W0 ⟨rfl, rfl⟩
 clear HOP
 go_wp2_with fail
 go_loopw [7, 8] (fun s7 s8 wr => ∃ (k : Nat) (sv : SlV), k ≤ 2 ∧ s8 = .int .i64 (k : Int) ∧ s7 = .slice sv.a sv.n sv.cap ∧ Sp5R W0 (spsN l k) sv wr) (fun _ s8 _ => 2 - (intOf s8).toNat)
 case atStart => exact ⟨0, ⟨none, 0, 0⟩, Nat.zero_le _, rfl, rfl, Lay.Buf.nil _ _, Nat.le_refl _, Chg.refl _ _⟩
 case round =>
  obtain ⟨k, sv, hk, rfl, rfl, hr⟩ := hrel
  by_cases hlt : k < 2
  ·have dlt : decide ((k : Int) < 2) = true := decide_eq_true (by omega)
   obtain ⟨ad, k', cd⟩ := sv
   obtain rfl : k' = k := by
    obtain ⟨_, _, he, _, _⟩ := hr.bf.rd.shape
    cases he
    exact spsN_len l _
   have u1 : wrap64 (8 * (k' : Int)) = 8 * (k' : Int) := by unfold wrap64; omega
   have u2 : wrap64 (8 + 8 * (k' : Int)) = ((8 + 8 * k' : Nat) : Int) := by unfold wrap64; omega
   have u3 : wrap64 (12 + 8 * (k' : Int)) = ((12 + 8 * k' : Nat) : Int) := by unfold wrap64; omega
   have R0 := hY (hr)
   clear hr
   go_wp2_with fail
   have hat := at5_any l (8 + 8 * k') 4 (by decide) (by decide) (by have := Hlen.out; omega) _ _ (Rd.out.frame R0.out.chg)
   rw [show leNum ((l.drop (8 + 8 * k')).take 4) = n4 l (8 + 8 * k') from rfl] at hat
   refine hat.mono ?_
   clear hat
   rintro e W1 ⟨rfl, rfl⟩
   go_wp2_with fail
   have hat := at5_any l (12 + 8 * k') 4 (by decide) (by decide) (by have := Hlen.out; omega) _ _ (Rd.out.frame R0.out.chg)
   rw [show leNum ((l.drop (12 + 8 * k')).take 4) = n4 l (12 + 8 * k') from rfl] at hat
   refine hat.mono ?_
   clear hat
   rintro e W2 ⟨rfl, rfl⟩
   clear u1 u2 u3
   go_wp2_with ((with_reducible refine bs1 ((spAt l k')) (spn_built _) ?_ ?_ ?_); exact rfl; exact rfl; intro VA va cva rva; replace cva := hY cva; replace rva := hY rva; refine Hid.out ?_)
   refine hY ?_
   have RA := hY (R0.out.pure cva.out)
   go_wp2_with (at_builtin; refine Lay.app (L := spnL) Tryz.infoSpn rfl _ _ rfl W0.heap.size (.slice ad k' cd) (spsN l k') rfl RA.out.bf _ rfl [spAt l k'] rva.out (by rw [spsN_len]; simp; omega) (by rw [spsN_len]; simp; omega) RA.out.sz ?_; intro vb VB hov hgv hlc; replace hov := hY hov; replace hgv := hY hgv; clear hlc; refine Hid.out ?_)
   refine hY ?_
   have hov := hov.out
   rw [← spsN_succ] at hov
   obtain ⟨ab, cb, rfl, hb1, hb2⟩ := hov.rd.shape
   rw [spsN_len] at hov ⊢
   have RB : Hid (Sp5R W0 (spsN l (k' + 1)) ⟨ab, k' + 1, cb⟩ VB) := hY (Sp5R.app RA.out hgv.out hov)
   clear hov hgv hb1 hb2
   go_wp2
   go_roundw
   case rel => exact ⟨k' + 1, ⟨ab, k' + 1, cb⟩, hlt, by go_num, rfl, RB.out⟩
   case measure => simp [intOf]; omega
  ·obtain rfl : k = 2 := by omega
   obtain ⟨ad, k', cd⟩ := sv
   obtain rfl : k' = 2 := by
    obtain ⟨_, _, he, _, _⟩ := hr.bf.rd.shape
    injection he with he1 he2 he3
   have R0 := hY (hr)
   clear hr
   have hbf := R0.out.bf
   obtain ⟨g, cap', hsl, hg0, hg1, _, _, hown, hfz, hIn⟩ := hbf.at (by rw [spsN_len]; decide)
   injection hsl with hsl1 hsl2 hsl3
   subst hsl1
   clear hsl2 hsl3 hown
   have y1 : wr.cell? ⟨g, 1, none⟩ = some (.int .u64 (n4 l 12 : Int)) := by
    have := hIn 0 (by rw [spsN_len]; decide) 1 (by decide)
    exact this
   have z1 := hfz 1
   have h12 := n4_lt l 12
   have hw : IntKind.u64.wrap (16 * (n4 l 12 : Int)) = (n4 l 12 : Int) * 16 := by rw [IntKind.wrap_u64]; omega
   have BF := hY hbf
   have HIn := hY hIn
   have Hfz := hY hfz
   have H122 := hY h12
   clear hbf hIn hfz h12
   obtain ⟨A, hA⟩ : ∃ A : Int, A = (n4 l 12 : Int) := ⟨_, rfl⟩
   rw [← hA] at y1 hw
   rw [← hA]
   have HA := hY hA
   have Hw := hY hw
   clear hA hw
   go_wp2
   go_ret2
   have hw' : IntKind.u64.wrap (16 * A) = (n4 l 12 : Int) * 16 := by rw [Hw.out, HA.out]
   rw [hw']
   refine ⟨⟨_, _, _⟩, rfl, (Lay.Buf.set BF.out rfl 0 (by rw [spsN_len]; decide) 1 (by decide) _ (⟨n4 l 8, (n4 l 12 : Int) * 16⟩ : Spn) rfl), R0.out.chg.setCell _ _ (.inr ?_)⟩
   exact hg0
set_option maxHeartbeats 8000000 in
theorem Spans5_no (l : List UInt8) (h : opE l = 0) (h13 : ((n4 l 0 : Nat) : Int) = 2147483688) (v : Value) (w : World) (rd : byteL.Rd w v l) :
  Calls Tryz.prog 101 #[v] w fun e w' => ∃ u, e = .returned (.tuple #[.slice none 0 0, .int .i64 u]) ∧ Chg [] w w' := by
 have HOP := hY (Cmd5_any l v w rd)
 rw [show cmdN l = n4 l 0 by unfold cmdN; rw [if_neg (by have := (opE_len h).1; omega)], h] at HOP
 rw [h13] at HOP
 have Rd := hY (rd)
 clear h rd
 go_enter Tryz.func101, Tryz.ntmps101
 go_wp2_with fail
 refine (HOP.out).mono ?_
 rintro e W0 ⟨rfl, rfl⟩
 clear HOP
 go_wp2
 go_ret2
 exact ⟨_, rfl, Chg.refl _ _⟩
theorem Sen.in_ch {w : World} {g : Nat} {t : Sen} (h : senL.Box w g t) : spnL.In w g 16 ⟨t.m.chO, t.m.chS⟩ := fun c hc => by
 have h1 := Sen.c_ch h
 have : c = 0 ∨ c = 1 := by have : spnL.n = 2 := rfl; omega
 rcases this with rfl | rfl
 ·exact h1.1
 ·exact h1.2
set_option maxHeartbeats 4000000 in
theorem rest_tr (l : List UInt8) (x : Spn) (hs : ∀ v w, byteL.Rd w v l → Calls Tryz.prog 101 #[v] w (SpP w [x])) (v : Value) (w1 : World) (base bt : Nat) (p : TP) (t : Sen) (xs : List Seg) (w : World) (h : SInv w1 base bt p t xs w) (rd : byteL.Rd w v l) :
  Calls Tryz.prog 80 #[.pointer (some ⟨bt, 0, none⟩), .int .u32 2147483699, v] w (SenSays w1 base bt (trE p x) (trQ p x)) := by
 have hsp := (hs v w rd).mono (fun e w' h => sp_q (by simp) h)
 have H := hY (h)
 have RD := hY rd
 have Hs := hY hs
 have HSP := hY hsp
 clear rd hs hsp
 clear h
 go_enter Tryz.func80, Tryz.ntmps80
 go_wp2_with fail
 refine (HSP.out).mono ?_
 rintro e W1 ⟨g, cap, rfl, hch, hge, hIn⟩
 have H1 := hY (H.out.pure hch)
 have HIN := hY hIn
 have Hge := hY hge
 clear hIn hge
 clear hch
 have hx : spnL.In W1 g 0 x := HIN.out 0 (by simp)
 have Hx := hY hx
 clear hx
 go_wp2_with ((with_reducible refine Lay.ldQ Tryz.tSpn x (Hx.out) ?_ ?_); exact rfl)
 refine hY ?_
 go_wp2_with fail
 refine (trie5_any x w1 base bt p t xs W1 H1.out).mono ?_
 rintro e W2 ⟨rfl, hc, ht⟩
 have Hc := hY hc
 have Ht := hY ht
 clear hc ht
 go_wp2
 go_ret
 exact ⟨rfl, Hc.out, Ht.out⟩
set_option maxHeartbeats 4000000 in
theorem rest_ch (l : List UInt8) (x : Spn) (hs : ∀ v w, byteL.Rd w v l → Calls Tryz.prog 101 #[v] w (SpP w [x])) (v : Value) (w1 : World) (base bt : Nat) (p : TP) (t : Sen) (xs : List Seg) (w : World) (h : SInv w1 base bt p t xs w) (rd : byteL.Rd w v l) :
  Calls Tryz.prog 80 #[.pointer (some ⟨bt, 0, none⟩), .int .u32 2147483700, v] w (SenSays w1 base bt (if p.seen 2147483700 = true then 21 else 0) { seeN p 2147483700 with m := { p.m with chO := x.off, chS := x.size } }) := by
 obtain ⟨sn, hsn⟩ : ∃ sn, p.seen 2147483700 = sn := ⟨_, rfl⟩
 rw [hsn]
 have Hsn := hY hsn
 clear hsn
 cases sn
 ·rw [if_neg (by decide)]
  have hsp := (hs v w rd).mono (fun e w' h => sp_q (by simp) h)
  have H := hY (h)
  have RD := hY rd
  have Hs := hY hs
  have HSP := hY hsp
  clear rd hs hsp
  clear h
  go_enter Tryz.func80, Tryz.ntmps80
  go_wp2_with fail
  refine (HSP.out).mono ?_
  rintro e W1 ⟨g, cap, rfl, hch, hge, hIn⟩
  have H1 := hY (H.out.pure hch)
  have HIN := hY hIn
  have Hge := hY hge
  clear hIn hge
  clear hch
  have y := Sen.c_ch_ H1.out.box
  rw [H1.out.ch, Hsn.out] at y
  have z := H1.out.box.frozen 25
  go_wp2_with fail
  refine (once5_any bt 25 _ W1 y z).mono ?_
  rintro e W2 ⟨rfl, hW2⟩
  have C2 : Hid (Chg [bt] W1 W2) := hY (by rw [hW2]; exact (Chg.refl _ _).setCell _ _ (.inl (by simp)))
  have X2 : Hid (senL.Box W2 bt { t with ch := true }) := hY (by rw [hW2]; exact Sen.set_ch_ H1.out.box true)
  clear y z hW2
  have hx : spnL.In W2 g 0 x := (HIN.out 0 (by simp)).frameS C2.out (by have := Hge.out; have := H.out.o2; have := H.out.o4; simp; omega)
  have Hx := hY hx
  clear hx
  go_wp2_with ((with_reducible refine Lay.ldQ Tryz.tSpn x (Hx.out) ?_ ?_); exact rfl)
  refine hY ?_
  go_wp2_with ((with_reducible refine stAt Tryz.tSpn x (Sen.in_ch X2.out) X2.out.frozen ?_ ?_ ?_); exact rfl; exact rfl; intro W3 eW3; replace eW3 := hY eW3; refine Hid.out ?_)
  refine hY ?_
  have hc : Chg [bt] W1 W3 := by rw [eW3.out]; exact C2.out.same (Lay.setW_chg _ _ _ _)
  have hb : senL.Box W3 bt { t with ch := true, m := { t.m with chO := x.off, chS := x.size } } := by rw [eW3.out]; exact Sen.set_ch X2.out x
  have hq : ({ t.m with chO := x.off, chS := x.size } : Img).bare = { p.m with chO := x.off, chS := x.size } := by rw [← H1.out.m]; rfl
  have hf := H1.out.upd hc hb (q := { seeN p 2147483700 with m := { p.m with chO := x.off, chS := x.size } }) H1.out.nm rfl H1.out.sy H1.out.en H1.out.sp H1.out.secs hq rfl rfl rfl rfl H1.out.l3
  have Hf := hY hf
  clear hf
  clear hc hb hq
  go_wp2
  go_ret
  exact ⟨rfl, Hf.out.chg, fun _ => ⟨_, _, Hf.out⟩⟩
 ·rw [if_pos rfl]
  have hsp := (hs v w rd).mono (fun e w' h => sp_q (by simp) h)
  have H := hY (h)
  have RD := hY rd
  have Hs := hY hs
  have HSP := hY hsp
  clear rd hs hsp
  clear h
  go_enter Tryz.func80, Tryz.ntmps80
  go_wp2_with fail
  refine (HSP.out).mono ?_
  rintro e W1 ⟨g, cap, rfl, hch, hge, hIn⟩
  have H1 := hY (H.out.pure hch)
  have HIN := hY hIn
  have Hge := hY hge
  clear hIn hge
  clear hch
  have y := Sen.c_ch_ H1.out.box
  rw [H1.out.ch, Hsn.out] at y
  have z := H1.out.box.frozen 25
  go_wp2_with fail
  refine (once5_any bt 25 _ W1 y z).mono ?_
  rintro e W2 ⟨rfl, hW2⟩
  have C2 : Hid (Chg [bt] W1 W2) := hY (by rw [hW2]; exact (Chg.refl _ _).setCell _ _ (.inl (by simp)))
  have X2 : Hid (senL.Box W2 bt { t with ch := true }) := hY (by rw [hW2]; exact Sen.set_ch_ H1.out.box true)
  clear y z hW2
  go_wp2
  go_ret
  exact ⟨rfl, H1.out.chg.new C2.out H.out.o6, fun h => absurd h (by decide)⟩
set_option maxHeartbeats 4000000 in
theorem rest_sy (l : List UInt8) (x y : Spn) (hs : ∀ v w, byteL.Rd w v l → Calls Tryz.prog 101 #[v] w (SpP w [x, y])) (v : Value) (w1 : World) (base bt : Nat) (p : TP) (t : Sen) (xs : List Seg) (w : World) (h : SInv w1 base bt p t xs w) (rd : byteL.Rd w v l) :
  Calls Tryz.prog 80 #[.pointer (some ⟨bt, 0, none⟩), .int .u32 2, v] w (SenSays w1 base bt (if p.seen 2 = true then 21 else 0) { seeN p 2 with m := { p.m with syO := x.off, syS := x.size, stO := y.off, stS := y.size } }) := by
 obtain ⟨sn, hsn⟩ : ∃ sn, p.seen 2 = sn := ⟨_, rfl⟩
 rw [hsn]
 have Hsn := hY hsn
 clear hsn
 cases sn
 ·rw [if_neg (by decide)]
  have hsp := (hs v w rd).mono (fun e w' h => sp_q (by simp) h)
  have H := hY (h)
  have RD := hY rd
  have Hs := hY hs
  have HSP := hY hsp
  clear rd hs hsp
  clear h
  go_enter Tryz.func80, Tryz.ntmps80
  go_wp2_with fail
  refine (HSP.out).mono ?_
  rintro e W1 ⟨g, cap, rfl, hch, hge, hIn⟩
  have H1 := hY (H.out.pure hch)
  have HIN := hY hIn
  have Hge := hY hge
  clear hIn hge
  clear hch
  have Hbtg : Hid (bt < g) := hY (by have := Hge.out; have := H.out.o2; have := H.out.o4; omega)
  have y := Sen.c_sy_ H1.out.box
  rw [H1.out.sy, Hsn.out] at y
  have z := H1.out.box.frozen 26
  go_wp2_with fail
  refine (once5_any bt 26 _ W1 y z).mono ?_
  rintro e W2 ⟨rfl, hW2⟩
  have C2 : Hid (Chg [bt] W1 W2) := hY (by rw [hW2]; exact (Chg.refl _ _).setCell _ _ (.inl (by simp)))
  have X2 : Hid (senL.Box W2 bt { t with sy := true }) := hY (by rw [hW2]; exact Sen.set_sy_ H1.out.box true)
  clear y z hW2
  have hx : spnL.In W2 g 0 x := (HIN.out 0 (by simp)).frameS C2.out (by have := Hbtg.out; simp; omega)
  have hy : spnL.In W2 g 2 y := (HIN.out 1 (by simp)).frameS C2.out (by have := Hbtg.out; simp; omega)
  obtain ⟨y1, y2⟩ := Sen.c_sy X2.out
  obtain ⟨y3, y4⟩ := Sen.c_st X2.out
  have z1 := X2.out.frozen 18
  have z2 := X2.out.frozen 19
  have z3 := X2.out.frozen 20
  have z4 := X2.out.frozen 21
  obtain ⟨x1, x2⟩ := Spn.both hx
  obtain ⟨x3, x4⟩ := Spn.both hy
  simp only [Nat.zero_add, Nat.reduceAdd] at x2 x4
  clear hx hy
  go_upto_region 15 with fail
  go_region
  refine with_exitT (Q := Exit.inBlock _ _ _ _) (fun W => SInv w1 base bt { seeN p 2 with m := { p.m with syO := x.off, syS := x.size, stO := y.off, stS := y.size } } { t with sy := true, m := { t.m with syO := x.off, syS := x.size, stO := y.off, stS := y.size } } xs W) ?_ (fun W4 hW => ?_)
  ·have hc : Chg [bt] W2 (((((W2.setCell ⟨bt, 18, none⟩ (.int .u64 x.off)).setCell ⟨bt, 19, none⟩ (.int .u64 x.size)).setCell ⟨bt, 20, none⟩ (.int .u64 y.off)).setCell ⟨bt, 21, none⟩ (.int .u64 y.size)).drew) := (((((Chg.refl _ _).setCell _ _ (.inl (by simp))).setCell _ _ (.inl (by simp))).setCell _ _ (.inl (by simp))).setCell _ _ (.inl (by simp))).drew
   exact H1.out.upd (C2.out.same hc) (Lay.Box.drew (Sen.set_st (Sen.set_sy X2.out x) y)) H1.out.nm H1.out.ch rfl H1.out.en H1.out.sp H1.out.secs (by show _ = ({ p.m with syO := x.off, syS := x.size, stO := y.off, stS := y.size } : Img); rw [← H1.out.m]; rfl) rfl rfl rfl rfl H1.out.l3
  ·clear x1 x2 x3 x4 y1 y2 y3 y4 z1 z2 z3 z4
   have H4 := hY hW
   clear hW
   go_wp2
   go_ret
   exact ⟨rfl, H4.out.chg, fun _ => ⟨_, _, H4.out⟩⟩
 ·rw [if_pos rfl]
  have hsp := (hs v w rd).mono (fun e w' h => sp_q (by simp) h)
  have H := hY (h)
  have RD := hY rd
  have Hs := hY hs
  have HSP := hY hsp
  clear rd hs hsp
  clear h
  go_enter Tryz.func80, Tryz.ntmps80
  go_wp2_with fail
  refine (HSP.out).mono ?_
  rintro e W1 ⟨g, cap, rfl, hch, hge, hIn⟩
  have H1 := hY (H.out.pure hch)
  have HIN := hY hIn
  have Hge := hY hge
  clear hIn hge
  clear hch
  have y := Sen.c_sy_ H1.out.box
  rw [H1.out.sy, Hsn.out] at y
  have z := H1.out.box.frozen 26
  go_wp2_with fail
  refine (once5_any bt 26 _ W1 y z).mono ?_
  rintro e W2 ⟨rfl, hW2⟩
  have C2 : Hid (Chg [bt] W1 W2) := hY (by rw [hW2]; exact (Chg.refl _ _).setCell _ _ (.inl (by simp)))
  have X2 : Hid (senL.Box W2 bt { t with sy := true }) := hY (by rw [hW2]; exact Sen.set_sy_ H1.out.box true)
  clear y z hW2
  go_wp2
  go_ret
  exact ⟨rfl, H1.out.chg.new C2.out H.out.o6, fun h => absurd h (by decide)⟩
set_option maxHeartbeats 8000000 in
theorem rest_5 (l : List UInt8) (k : Int) (hk : k = 34 ∨ k = 2147483682) (a b c d f : Spn) (hs : ∀ v w, byteL.Rd w v l → Calls Tryz.prog 101 #[v] w (SpP w [a, b, c, d, f])) (v : Value) (w1 : World) (base bt : Nat) (p : TP) (t : Sen) (xs : List Seg) (w : World) (h : SInv w1 base bt p t xs w) (rd : byteL.Rd w v l) :
  Calls Tryz.prog 80 #[.pointer (some ⟨bt, 0, none⟩), .int .u32 k, v] w (SenSays w1 base bt (if p.seen 34 = true then 21 else trE (fourQ (seeN p 34) a b c d) f) (trQ (fourQ (seeN p 34) a b c d) f)) := by
 have e1 : (k == 2) = false := by rw [beq_eq_false_iff_ne]; omega
 have e2 : (k == 2147483700) = false := by rw [beq_eq_false_iff_ne]; omega
 have e3 : (k == 2147483699) = false := by rw [beq_eq_false_iff_ne]; omega
 have e4 : (k == 2147483688) = false := by rw [beq_eq_false_iff_ne]; omega
 clear hk
 obtain ⟨sn, hsn⟩ : ∃ sn, p.seen 34 = sn := ⟨_, rfl⟩
 rw [hsn]
 have Hsn := hY hsn
 clear hsn
 cases sn
 ·rw [if_neg (by decide)]
  have hsp := (hs v w rd).mono (fun e w' h => sp_q (by simp) h)
  have H := hY (h)
  have RD := hY rd
  have Hs := hY hs
  have HSP := hY hsp
  clear rd hs hsp
  clear h
  go_enter Tryz.func80, Tryz.ntmps80
  go_wp2_with fail
  refine (HSP.out).mono ?_
  rintro e W1 ⟨g, cap, rfl, hch, hge, hIn⟩
  have H1 := hY (H.out.pure hch)
  have HIN := hY hIn
  have Hge := hY hge
  clear hIn hge
  clear hch
  have Hbtg : Hid (bt < g) := hY (by have := Hge.out; have := H.out.o2; have := H.out.o4; omega)
  have y := Sen.c_sp H1.out.box
  rw [H1.out.sp, Hsn.out] at y
  have z := H1.out.box.frozen 28
  go_wp2_with fail
  refine (once5_any bt 28 _ W1 y z).mono ?_
  rintro e W2 ⟨rfl, hW2⟩
  have C2 : Hid (Chg [bt] W1 W2) := hY (by rw [hW2]; exact (Chg.refl _ _).setCell _ _ (.inl (by simp)))
  have X2 : Hid (senL.Box W2 bt { t with sp := true }) := hY (by rw [hW2]; exact Sen.set_sp H1.out.box true)
  clear y z hW2
  have hx : spnL.In W2 g 0 a := (HIN.out 0 (by simp)).frameS C2.out (by have := Hbtg.out; simp; omega)
  have hy : spnL.In W2 g 2 b := (HIN.out 1 (by simp)).frameS C2.out (by have := Hbtg.out; simp; omega)
  have hz : spnL.In W2 g 4 c := (HIN.out 2 (by simp)).frameS C2.out (by have := Hbtg.out; simp; omega)
  have hu : spnL.In W2 g 6 d := (HIN.out 3 (by simp)).frameS C2.out (by have := Hbtg.out; simp; omega)
  have hf : spnL.In W2 g 8 f := (HIN.out 4 (by simp)).frameS C2.out (by have := Hbtg.out; simp; omega)
  obtain ⟨y1, y2⟩ := Sen.c_rb X2.out
  obtain ⟨y3, y4⟩ := Sen.c_bd X2.out
  obtain ⟨y5, y6⟩ := Sen.c_wk X2.out
  obtain ⟨y7, y8⟩ := Sen.c_lz X2.out
  have z1 := X2.out.frozen 6
  have z2 := X2.out.frozen 7
  have z3 := X2.out.frozen 8
  have z4 := X2.out.frozen 9
  have z5 := X2.out.frozen 10
  have z6 := X2.out.frozen 11
  have z7 := X2.out.frozen 12
  have z8 := X2.out.frozen 13
  obtain ⟨x1, x2⟩ := Spn.both hx
  obtain ⟨x3, x4⟩ := Spn.both hy
  obtain ⟨x5, x6⟩ := Spn.both hz
  obtain ⟨x7, x8⟩ := Spn.both hu
  simp only [Nat.zero_add, Nat.reduceAdd] at x2 x4 x6 x8
  have Hf := hY hf
  clear hf
  clear hx hy hz hu
  go_upto_region 5 with fail
  go_region
  refine with_exitT (Q := Exit.then _ _ _ _) (fun W => SInv w1 base bt (fourQ (seeN p 34) a b c d) { t with sp := true, m := { t.m with rbO := a.off, rbS := a.size, bdO := b.off, bdS := b.size, wkO := c.off, wkS := c.size, lzO := d.off, lzS := d.size } } xs W ∧ spnL.In W g 8 f) ?_ (fun W4 hW => ?_)
  ·have hc : Chg [bt] W2 (((((((((W2.setCell ⟨bt, 6, none⟩ (.int .u64 a.off)).setCell ⟨bt, 7, none⟩ (.int .u64 a.size)).setCell ⟨bt, 8, none⟩ (.int .u64 b.off)).setCell ⟨bt, 9, none⟩ (.int .u64 b.size)).setCell ⟨bt, 10, none⟩ (.int .u64 c.off)).setCell ⟨bt, 11, none⟩ (.int .u64 c.size)).setCell ⟨bt, 12, none⟩ (.int .u64 d.off)).setCell ⟨bt, 13, none⟩ (.int .u64 d.size)).drew) := (((((((((Chg.refl _ _).setCell _ _ (.inl (by simp))).setCell _ _ (.inl (by simp))).setCell _ _ (.inl (by simp))).setCell _ _ (.inl (by simp))).setCell _ _ (.inl (by simp))).setCell _ _ (.inl (by simp))).setCell _ _ (.inl (by simp))).setCell _ _ (.inl (by simp))).drew
   exact ⟨H1.out.upd (C2.out.same hc) (Lay.Box.drew (Sen.set_lz (Sen.set_wk (Sen.set_bd (Sen.set_rb X2.out a) b) c) d)) H1.out.nm H1.out.ch H1.out.sy H1.out.en rfl H1.out.secs (by unfold fourQ seeN; rw [← H1.out.m]; rfl) rfl rfl rfl rfl H1.out.l3, Hf.out.frameS hc (by have := Hbtg.out; simp; omega)⟩
  ·clear x1 x2 x3 x4 x5 x6 x7 x8 y1 y2 y3 y4 y5 y6 y7 y8 z1 z2 z3 z4 z5 z6 z7 z8
   have H4 := hY (hW.1)
   have F4 := hY (hW.2)
   clear hW
   go_wp2_with ((with_reducible refine Lay.ldQ Tryz.tSpn f (F4.out) ?_ ?_); exact rfl)
   refine hY ?_
   go_wp2_with fail
   refine (trie5_any f w1 base bt _ _ xs W4 H4.out).mono ?_
   rintro e W5 ⟨rfl, hc, ht⟩
   have Hc := hY hc
   have Ht := hY ht
   clear hc ht
   go_wp2
   go_ret
   exact ⟨rfl, Hc.out, Ht.out⟩
 ·rw [if_pos rfl]
  have hsp := (hs v w rd).mono (fun e w' h => sp_q (by simp) h)
  have H := hY (h)
  have RD := hY rd
  have Hs := hY hs
  have HSP := hY hsp
  clear rd hs hsp
  clear h
  go_enter Tryz.func80, Tryz.ntmps80
  go_wp2_with fail
  refine (HSP.out).mono ?_
  rintro e W1 ⟨g, cap, rfl, hch, hge, hIn⟩
  have H1 := hY (H.out.pure hch)
  have HIN := hY hIn
  have Hge := hY hge
  clear hIn hge
  clear hch
  have y := Sen.c_sp H1.out.box
  rw [H1.out.sp, Hsn.out] at y
  have z := H1.out.box.frozen 28
  go_wp2_with fail
  refine (once5_any bt 28 _ W1 y z).mono ?_
  rintro e W2 ⟨rfl, hW2⟩
  have C2 : Hid (Chg [bt] W1 W2) := hY (by rw [hW2]; exact (Chg.refl _ _).setCell _ _ (.inl (by simp)))
  have X2 : Hid (senL.Box W2 bt { t with sp := true }) := hY (by rw [hW2]; exact Sen.set_sp H1.out.box true)
  clear y z hW2
  go_wp2
  go_ret
  exact ⟨rfl, H1.out.chg.new C2.out H.out.o6, fun h => absurd h (by decide)⟩
set_option maxHeartbeats 4000000 in
theorem rest_en (l : List UInt8) (ho : opE l = 0) (hc : ((n4 l 0 : Nat) : Int) = 2147483688) (v : Value) (w1 : World) (base bt : Nat) (p : TP) (t : Sen) (xs : List Seg) (w : World) (h : SInv w1 base bt p t xs w) (rd1 : byteL.Rd w1 v l) :
  Calls Tryz.prog 80 #[.pointer (some ⟨bt, 0, none⟩), .int .u32 2147483688, v] w (SenSays w1 base bt (if p.seen 2147483688 = true then 21 else 0) { seeN p 2147483688 with m := { p.m with entry := n8 l 8, has := true } }) := by
 have h24 : 24 ≤ l.length := by
  have := (opE_len ho).2
  rw [hc] at this
  have h3 : leastF 2147483688 = 24 := by decide
  omega
 have hsp := Spans5_no l ho hc v w (rd1.frame h.chg)
 obtain ⟨sn, hsn⟩ : ∃ sn, p.seen 2147483688 = sn := ⟨_, rfl⟩
 rw [hsn]
 have H := hY (h)
 have Hsn := hY hsn
 have RD := hY rd1
 have HSP := hY hsp
 have H24 := hY h24
 have Ho := hY ho
 have Hc := hY hc
 clear hsn rd1 hsp h24 ho hc
 clear h
 cases sn
 ·rw [if_neg (by decide)]
  go_enter Tryz.func80, Tryz.ntmps80
  go_wp2_with fail
  refine (HSP.out).mono ?_
  rintro e W1 ⟨u, rfl, hch⟩
  have H1 := hY (H.out.pure hch)
  clear hch
  have y := Sen.c_en H1.out.box
  rw [H1.out.en, Hsn.out] at y
  have z := H1.out.box.frozen 27
  go_wp2_with fail
  refine (once5_any bt 27 _ W1 y z).mono ?_
  rintro e W2 ⟨rfl, hW2⟩
  have C2 : Hid (Chg [bt] W1 W2) := hY (by rw [hW2]; exact (Chg.refl _ _).setCell _ _ (.inl (by simp)))
  have X2 : Hid (senL.Box W2 bt { t with en := true }) := hY (by rw [hW2]; exact Sen.set_en H1.out.box true)
  clear y z hW2
  go_wp2_with fail
  have hat := at5_any l 8 8 (by decide) (by decide) (by have := H24.out; omega) _ _ (RD.out.frame (H1.out.chg.new C2.out H.out.o6))
  rw [show leNum ((l.drop 8).take 8) = n8 l 8 from rfl] at hat
  refine hat.mono ?_
  rintro e W3 ⟨rfl, rfl⟩
  clear hat
  have y22 := Sen.c_entry X2.out
  have z22 := X2.out.frozen 22
  have y23 := Sen.c_has X2.out
  have z23 := X2.out.frozen 23
  go_upto_region 22 with fail
  refine Lay.with_world (fun W => SInv w1 base bt { seeN p 2147483688 with m := { p.m with entry := n8 l 8, has := true } } { t with en := true, m := { t.m with entry := n8 l 8, has := true } } xs W) ?_ (fun W9 hW => ?_)
  ·exact H1.out.upd (q := { seeN p 2147483688 with m := { p.m with entry := n8 l 8, has := true } }) (C2.out.same (((Chg.refl _ _).setCell _ _ (.inl (by simp))).setCell _ _ (.inl (by simp)))) (Sen.set_has (Sen.set_entry X2.out (n8 l 8 : Int)) true) H1.out.nm H1.out.ch H1.out.sy rfl H1.out.sp H1.out.secs (by show _ = ({ p.m with entry := n8 l 8, has := true } : Img); rw [← H1.out.m]; rfl) rfl rfl rfl rfl H1.out.l3
  ·clear y22 z22 y23 z23
   have H9 := hY hW
   clear hW
   go_wp2
   go_ret
   exact ⟨rfl, H9.out.chg, fun _ => ⟨_, _, H9.out⟩⟩
 ·rw [if_pos rfl]
  go_enter Tryz.func80, Tryz.ntmps80
  go_wp2_with fail
  refine (HSP.out).mono ?_
  rintro e W1 ⟨u, rfl, hch⟩
  have H1 := hY (H.out.pure hch)
  clear hch
  have y := Sen.c_en H1.out.box
  rw [H1.out.en, Hsn.out] at y
  have z := H1.out.box.frozen 27
  go_wp2_with fail
  refine (once5_any bt 27 _ W1 y z).mono ?_
  rintro e W2 ⟨rfl, hW2⟩
  have C2 : Hid (Chg [bt] W1 W2) := hY (by rw [hW2]; exact (Chg.refl _ _).setCell _ _ (.inl (by simp)))
  have X2 : Hid (senL.Box W2 bt { t with en := true }) := hY (by rw [hW2]; exact Sen.set_en H1.out.box true)
  clear y z hW2
  go_wp2
  go_ret
  exact ⟨rfl, H1.out.chg.new C2.out H.out.o6, fun h => absurd h (by decide)⟩
end Go.Proofs.YtiljokmkiolpgaaGreatDoor
