/- Lemmas, laid together: part 14 of 42. Conditions: none but each lemma's own. -/
import Derived.Test.YtiljokmkiolpgaaGreatDoorJ13
import Derived.Test.YtiljokmkiolpgaaGreatDoorJ2
import Derived.Test.YtiljokmkiolpgaaGreatDoorJ11
import Derived.Test.YtiljokmkiolpgaaGreatDoorJ4
import Derived.Test.YtiljokmkiolpgaaGreatDoorJ3
import Derived.Recover
import Derived.Test.YtiljokmkiolpgaaGreatDoorJ1
namespace Go.Proofs.YtiljokmkiolpgaaGreatDoor
open Go.RowKit
set_option maxRecDepth 100000
theorem leNum8_b (l : List UInt8) (h : l.length ≤ 8) : leNum l < 18446744073709551616 := Nat.lt_of_lt_of_le (leNum_lt l) (Nat.pow_le_pow_right (by decide) h)
theorem wordS_b (ls : List Seg) (l : List UInt8) (p : Int) : ∃ z : Nat, (wordS ls l p).1 = (z : Int) ∧ z < 18446744073709551616 := by
 unfold wordS
 split
 ·exact ⟨0, rfl, by decide⟩
 ·split
  ·exact ⟨0, rfl, by decide⟩
  ·exact ⟨_, rfl, leNum8_b _ (by rw [pad8_len]; exact Nat.le_refl _)⟩
theorem folC_succ (l : List UInt8) (ls : List Seg) (imps : List Imp) (top page fm first : Int) (n : Nat) (at_ : Int) (acc : List Fx) : folC l ls imps top page fm first (n + 1) at_ acc =
  if page < at_ + 8 ∨ top < first + at_ + 8 then .bad 15 else
  if acc.length = 20000 then .bad 11 else
  if linkE (lowS ls).toNat fm (wordS ls l (first + at_)).1.toNat imps ≠ 0 then .bad (linkE (lowS ls).toNat fm (wordS ls l (first + at_)).1.toNat imps) else
  if linkN (lowS ls).toNat fm (wordS ls l (first + at_)).1.toNat imps * strideF fm = 0 then .ok (acc ++ [{ linkX (lowS ls).toNat fm (wordS ls l (first + at_)).1.toNat imps with at_ := first + at_ }]) else
  if linkN (lowS ls).toNat fm (wordS ls l (first + at_)).1.toNat imps * strideF fm < 8 then .bad 15 else
  folC l ls imps top page fm first n (at_ + linkN (lowS ls).toNat fm (wordS ls l (first + at_)).1.toNat imps * strideF fm) (acc ++ [{ linkX (lowS ls).toNat fm (wordS ls l (first + at_)).1.toNat imps with at_ := first + at_ }]) := rfl
theorem fol_bad {w : World} {S : List Nat} {base : Nat} {R : ChR (List Fx)} {n : Int} {w' : World} (hR : R = .bad n) (h : Chg S w w') : FolP w S base R (.returned (.tuple #[.slice none 0 0, .int .i64 n])) w' := by rw [hR]; exact ⟨h, rfl⟩
theorem meas_fol {at_ st page : Int} (h1 : at_ + 8 ≤ page) (h2 : page ≤ 16384) (h3 : 8 ≤ st) : (20000 - intOf (.int .i64 (at_ + st))).toNat < (20000 - intOf (.int .i64 at_)).toNat := by
 show (20000 - (at_ + st)).toNat < (20000 - at_).toNat
 omega
theorem fol_b1 {at_ st : Int} (h1 : 0 ≤ at_) (h2 : 8 ≤ st) : 0 ≤ at_ + st := by omega
theorem fol_b2 {at_ st page : Int} (h1 : at_ + 8 ≤ page) (h2 : 0 ≤ page ∧ page ≤ 16384) (h3 : st ≤ 32760) : at_ + st < 65536 := by omega
theorem fol_b3 {at_ st page : Int} {n r : Nat} (h1 : n = r + 1) (h2 : page < at_ + 8 * (n : Int)) (h3 : 8 ≤ st) : page < at_ + st + 8 * (r : Int) := by omega
theorem app_fx {acc : List Fx} (h : acc.length < 20000) (x : Fx) : (acc.length + [x].length) * 64 ≤ 140737488355328 ∧ acc.length + [x].length ≤ 9223372036854775807 := by
 rw [List.length_singleton]
 omega
theorem lowS_nn {ls : List Seg} (h : SegsB ls) : lowS ls = (((lowS ls).toNat : Nat) : Int) := by
 have h0 : 0 ≤ lowS ls := by
  unfold lowS
  split
  ·rename_i k hk
   exact (h k (idx_lt hk)).1.1
  ·exact Int.le_refl _
 omega
structure FoW (w : World) (S : List Nat) (bm bs bx : Nat) (m : Img) (x : Sta) (sg : Seg) (W : World) : Prop where
 im : imgL.Box W bm m
 st : staL.Box W bs x
 sg_ : segL.Box W bx sg
 cg : Chg S w W
 lo : w.heap.size ≤ bm ∧ w.heap.size ≤ bs ∧ w.heap.size ≤ bx
theorem FoW.pure {w : World} {S : List Nat} {bm bs bx : Nat} {m : Img} {x : Sta} {sg : Seg} {W W' : World} (h : FoW w S bm bs bx m x sg W) (k : Chg [] W W') : FoW w S bm bs bx m x sg W' := ⟨h.im.frame k, h.st.frame k, h.sg_.frame k, h.cg.then k, h.lo⟩
theorem FoW.own {w : World} {S T : List Nat} {bm bs bx n : Nat} {m : Img} {x : Sta} {sg : Seg} {W W' : World} (h : FoW w S bm bs bx m x sg W) (k : Chg T W W') (hS : ∀ i ∈ S, i < w.heap.size) (hT : ∀ i ∈ T, i ∈ S ∨ n ≤ i) (hn : bm < n ∧ bs < n ∧ bx < n) : FoW w S bm bs bx m x sg W' := by
 obtain ⟨l1, l2, l3⟩ := h.lo
 have q : ∀ z, w.heap.size ≤ z → z < n → z ∉ T := fun z h1 h2 hm => by
  rcases hT z hm with e | e
  ·have := hS z e; omega
  ·omega
 exact ⟨h.im.frameS k (q _ l1 hn.1), h.st.frameS k (q _ l2 hn.2.1), h.sg_.frameS k (q _ l3 hn.2.2), h.cg.trans k (fun i hi hw => (hT i hi).elim id (fun e => absurd hw (by have := hn.1; omega))), h.lo⟩
set_option maxHeartbeats 16000000 in
theorem follow_any (l : List UInt8) (hlen : l.length ≤ 100000000) (v : Value) (m : Img) (ls : List Seg) (hls : SegsB ls) (hend : ∀ k, k < ls.length → (ls.getD k .zero).addr + (ls.getD k .zero).size ≤ 140737488355328) (x : Sta) (g : Nat) (hxg : x.seg = (g : Int)) (hg : g < ls.length) (hpg : x.page = 4096 ∨ x.page = 16384) (imps : List Imp) (iv : Value) (fst at0 : Int) (hf0 : (ls.getD g .zero).addr ≤ fst) (hf1 : fst ≤ 281474976710656) (ha0 : 0 ≤ at0) (ha1 : at0 < 65536)
   (hwd : ∀ p, (ls.getD g .zero).addr ≤ p → p + 8 ≤ (ls.getD g .zero).addr + (ls.getD g .zero).size → (wordS ls l p).2 = 0) (sl0 : SlV) (acc0 : List Fx) (hacc0 : acc0.length ≤ 20000) (base : Nat) (w : World) (hbw : base ≤ w.heap.size)
   (hbu : FB w base (.slice sl0.a sl0.n sl0.cap) acc0) (S : List Nat) (hS : S = (Value.slice sl0.a sl0.n sl0.cap).ownBlock.toList) (hK : ∀ W, Chg S w W → byteL.Rd W v l ∧ segL.Rd W m.segs.v ls ∧ impL.Rd W iv imps) :
    Calls Tryz.prog 19 #[v, imgL.val m, staL.val x, iv, .int .u64 fst, .int .i64 at0, .slice sl0.a sl0.n sl0.cap] w (FolP w S base (folC l ls imps ((ls.getD g .zero).addr + (ls.getD g .zero).size) x.page x.fmt fst 2049 at0 acc0)) := by
  obtain ⟨R, hR⟩ : ∃ R, R = folC l ls imps ((ls.getD g .zero).addr + (ls.getD g .zero).size) x.page x.fmt fst 2049 at0 acc0 := ⟨_, rfl⟩
  rw [← hR]
  have hsB := hls g hg
  have hsE := hend g hg
  obtain ⟨sg, hsg⟩ : ∃ sg, sg = ls.getD g .zero := ⟨_, rfl⟩
  rw [← hsg] at hR hsB hsE hf0 hwd
  obtain ⟨top, htop⟩ : ∃ top, top = sg.addr + sg.size := ⟨_, rfl⟩
  rw [← htop] at hR hsE hwd
  have hsa0 := hsB.1.1
  have hsz0 := hsB.2.1.1
  have wtop : IntKind.u64.wrap (sg.addr + sg.size) = top := by rw [IntKind.wrap_u64, htop]; omega
  obtain ⟨page, hpage⟩ : ∃ p, p = x.page := ⟨_, rfl⟩
  obtain ⟨fm, hfm⟩ : ∃ p, p = x.fmt := ⟨_, rfl⟩
  rw [← hpage, ← hfm] at hR
  rw [← hpage] at hpg
  have hpgb : 0 ≤ page ∧ page ≤ 16384 := by omega
  have hlw := lowS_nn hls
  obtain ⟨low, hlow⟩ : ∃ low, low = (lowS ls).toNat := ⟨_, rfl⟩
  rw [← hlow] at hlw
  have HWO := hY (fun p (hp : p < 18446744073709551616) W (h : Chg S w W) => Word_any l v m ls hls p hp W (hK W h).1 hlen (hK W h).2.1)
  have HLK := hY (fun n (hn : n < 18446744073709551616) W (h : Chg S w W) => link_any n hn fm m ls low hlw imps iv W (hK W h).2.1 (hK W h).2.2)
  have HST := hY (fun W => stride_any fm W)
  have HSL : Hid (∀ i ∈ S, i < w.heap.size) := hY (fun i hi => by rw [hS] at hi; exact (hbu.lt i (Option.mem_toList.1 hi)).2)
  obtain ⟨sa, sn, sc, hse⟩ : ∃ a n c, m.segs = ⟨a, n, c⟩ := ⟨_, _, _, rfl⟩
  have hsa : m.segs.a = sa := by rw [hse]
  have hsn : m.segs.n = sn := by rw [hse]
  have hsc : m.segs.cap = sc := by rw [hse]
  obtain ⟨_, _, hv, hc1, hc2⟩ := (hK w (Chg.refl _ _)).2.1.shape
  rw [hse] at hv
  unfold SlV.v at hv
  cases hv
  have hHSG : ∀ W, Chg S w W → ∃ bS off, sa = some ⟨bS, off, none⟩ ∧ segL.In W bS (off + g * 7) sg := by
    intro W hW
    have h := (hK W hW).2.1
    rw [hse] at h
    obtain ⟨bS, off, e, _, hcell⟩ := Lay.Rd.at h (by omega)
    exact ⟨bS, off, e, by rw [hsg]; exact hcell g hg⟩
  have HSG := hY (hHSG)
  have hfst : IntKind.u64.wrap fst = fst := by rw [IntKind.wrap_u64]; omega
  have Hsg := hY hsg
  have HsB := hY hsB
  have HSE := hY hsE
  have Hsa0 := hY hsa0
  have Hsz0 := hY hsz0
  have Hpage := hY hpage
  have Hfm := hY hfm
  have Hlow := hY hlow
  have Hlw := hY hlw
  have Hls := hY hls
  have Hend := hY hend
  have HK := hY hK
  have Hse := hY hse
  have Hc1 := hY hc1
  have Hc2 := hY hc2
  have HHSG := hY hHSG
  have Hwd := hY hwd
  have Htop := hY htop
  have HBU := hY hbu
  have HSS := hY hS
  have HR := hY hR
  have Hacc0 := hY hacc0
  have Hf0 := hY hf0
  have Hf1 := hY hf1
  have Hpg := hY hpg
  have Hpgb := hY hpgb
  clear hsg hsB hsE hsa0 hsz0 hpage hfm hlow hlw hls hend hK hse hc1 hc2 hHSG hwd htop hbu hS hR hacc0 hf0 hf1 hpg hpgb
  go_enter Tryz.func19, Tryz.ntmps19
  go_wp2_with ((with_reducible refine Lay.bxQ (L := imgL) 32 m ?_ ?_); exact rfl)
  refine hY fun W1 bm ebm cbm xbm => ?_
  go_wp2_with ((with_reducible refine Lay.bxQ (L := staL) 51 x ?_ ?_); exact rfl)
  refine hY fun W2 bs ebs cbs xbs => ?_
  have x4 := Img.c_segs (xbm.out.frame cbs.out)
  rw [hsa, hsn, hsc] at x4
  have x5 := Sta.c_seg xbs.out
  rw [hxg] at x5
  have C2 : Hid (Chg S w W2) := hY ((cbm.out.then cbs.out).add)
  obtain ⟨bS, off, rfl, hsi⟩ := HSG.out W2 C2.out
  have HI := hY hsi
  clear hsi
  go_wp2_with ((with_reducible refine Lay.ldQ Tryz.tSeg sg (HI.out) ?_ ?_); exact rfl)
  refine hY ?_
  go_wp2_with (with_reducible refine Lay.alQ Tryz.tSeg ?_)
  refine hY fun W3 bx ebx cbx xbx => ?_
  go_wp2_with ((with_reducible refine Lay.stQ Tryz.tSeg sg (xbx.out) ?_ ?_ ?_); exact rfl; exact rfl)
  refine hY fun W4 cW4 xW4 => ?_
  have k24 : Chg [] W2 W4 := cbx.out.new cW4.out (by rw [ebx.out]; exact Nat.le_refl _)
  have hl1 : w.heap.size ≤ bm := by rw [ebm.out]; exact Nat.le_refl _
  have hl2 : w.heap.size ≤ bs := by rw [ebs.out]; exact cbm.out.size
  have hl3 : w.heap.size ≤ bx := by rw [ebx.out]; exact (cbm.out.then cbs.out).size
  have hu1 : bm < W4.heap.size := Nat.lt_of_lt_of_le (xbm.out.frame cbs.out).lt k24.size
  have hu2 : bs < W4.heap.size := Nat.lt_of_lt_of_le xbs.out.lt k24.size
  have hu3 : bx < W4.heap.size := xW4.out.lt
  have F4 : Hid (FoW w S bm bs bx m x sg W4) := hY (⟨(xbm.out.frame cbs.out).frame k24, xbs.out.frame k24, xW4.out, C2.out.then k24, hl1, hl2, hl3⟩)
  have B4 := hY (HBU.out.pure ((cbm.out.then cbs.out).then k24))
  have HUP : Hid (bm < W4.heap.size ∧ bs < W4.heap.size ∧ bx < W4.heap.size) := hY (⟨hu1, hu2, hu3⟩)
  have HW4 : Hid (base ≤ W4.heap.size) := hY (by have := k24.size; omega)
  clear ebm ebs ebx cbm cbs cbx xbm xbs xbx cW4 xW4 k24 hl1 hl2 hl3 hu1 hu2 hu3 x4 x5 C2
  go_wp2_with fail
  try (unfold Act.put; simp only [aS, aZ, aC])
  go_loopw [5, 6] (fun s5 s6 wr => ∃ (n : Nat) (at_ : Int) (acc : List Fx) (sl : SlV), s5 = .int .i64 at_ ∧ s6 = .slice sl.a sl.n sl.cap ∧ folC l ls imps top page fm fst n at_ acc = R ∧ 0 ≤ at_ ∧ at_ < 65536 ∧ page < at_ + 8 * n ∧ FoW w S bm bs bx m x sg wr ∧ FB wr base (.slice sl.a sl.n sl.cap) acc ∧ (∀ b, (Value.slice sl.a sl.n sl.cap).ownBlock = some b → b ∈ S ∨ W4.heap.size ≤ b) ∧ acc.length ≤ 20000 ∧ base ≤ wr.heap.size ∧ W4.heap.size ≤ wr.heap.size) (fun s5 _ _ => (20000 - intOf s5).toNat)
  case atStart => exact ⟨2049, at0, acc0, sl0, rfl, rfl, HR.out.symm, ha0, ha1, by have := Hpgb.out; omega, F4.out, B4.out, fun b hb => .inl (by rw [HSS.out]; exact Option.mem_toList.2 hb), Hacc0.out, HW4.out, Nat.le_refl _⟩
  case round =>
    obtain ⟨n, at_, acc, sl, rfl, rfl, hfo, hat0, hat1, hfu, hfw, hbu, hown, hal, hbz, hsz⟩ := hrel
    obtain ⟨r, hr⟩ : ∃ r, n = r + 1 ∨ (n = 0 ∧ r = 0) := by
      rcases n with _ | n
      · exact ⟨0, .inr ⟨rfl, rfl⟩⟩
      · exact ⟨n, .inl rfl⟩
    have hpb := Hpgb.out
    have hf1 := Hf1.out
    have hf0 := Hf0.out
    have hs0 := Hsa0.out
    have hte := HSE.out
    have wP : IntKind.u64.wrap at_ = at_ := by rw [IntKind.wrap_u64]; omega
    obtain ⟨P, hP⟩ : ∃ P, P = fst + at_ := ⟨_, rfl⟩
    have wP2 : IntKind.u64.wrap (fst + at_) = P := by rw [IntKind.wrap_u64, hP]; omega
    have wP8 : IntKind.u64.wrap (P + 8) = P + 8 := by rw [IntKind.wrap_u64, hP]; omega
    have wA8 : wrap64 (at_ + 8) = at_ + 8 := by unfold wrap64; omega
    have hPb : P < 18446744073709551616 := by omega
    have y1 := Sta.c_page hfw.st
    rw [← Hpage.out] at y1
    have y2 := Sta.c_fmt hfw.st
    rw [← Hfm.out] at y2
    have z1 := Seg.c_addr hfw.sg_
    have z2 := Seg.c_size hfw.sg_
    by_cases c1 : page < at_ + 8 ∨ top < P + 8
    case pos =>
      have HB : Hid (R = .bad 15) := by
        refine hY ?_
        rw [← hfo]
        rcases hr with h | ⟨h, _⟩
        · rw [h, folC_succ, if_pos (by rw [← hP]; exact c1)]
        · rw [h]; rfl
      by_cases c2 : page < at_ + 8
      · have d1 : decide (page < at_ + 8) = true := decide_eq_true c2
        have Hfo := hY hfo
        have Hat0 := hY hat0
        have Hat1 := hY hat1
        have Hfu := hY hfu
        have Hfw := hY hfw
        have Hbu := hY hbu
        have Hown := hY hown
        have Hal := hY hal
        have Hbz := hY hbz
        have Hsz := hY hsz
        have Hpb := hY hpb
        have Hf1 := hY hf1
        have Hf0 := hY hf0
        have Hs0 := hY hs0
        have Hte := hY hte
        have HP := hY hP
        have HPb := hY hPb
        have C1 := hY c1
        have C2 := hY c2
        have Hr := hY hr
        clear hfo hat0 hat1 hfu hfw hbu hown hal hbz hsz hpb hf1 hf0 hs0 hte hP hPb c1 c2 hr
        go_wp2
        go_ret2
        exact fol_bad HB.out Hfw.out.cg
      · have d1 : decide (page < at_ + 8) = false := decide_eq_false c2
        have d2 : decide (top < P + 8) = true := decide_eq_true (by omega)
        have Hfo := hY hfo
        have Hat0 := hY hat0
        have Hat1 := hY hat1
        have Hfu := hY hfu
        have Hfw := hY hfw
        have Hbu := hY hbu
        have Hown := hY hown
        have Hal := hY hal
        have Hbz := hY hbz
        have Hsz := hY hsz
        have Hpb := hY hpb
        have Hf1 := hY hf1
        have Hf0 := hY hf0
        have Hs0 := hY hs0
        have Hte := hY hte
        have HP := hY hP
        have HPb := hY hPb
        have C1 := hY c1
        have C2 := hY c2
        have Hr := hY hr
        clear hfo hat0 hat1 hfu hfw hbu hown hal hbz hsz hpb hf1 hf0 hs0 hte hP hPb c1 c2 hr
        go_wp2
        go_ret2
        exact fol_bad HB.out Hfw.out.cg
    case neg =>
    have d1 : decide (page < at_ + 8) = false := decide_eq_false (fun h => c1 (.inl h))
    have d2 : decide (top < P + 8) = false := decide_eq_false (fun h => c1 (.inr h))
    have hr1 : n = r + 1 := by omega
    rw [hr1, folC_succ, ← hP, if_neg c1] at hfo
    by_cases c3 : acc.length = 20000
    case pos =>
      have HB : Hid (R = .bad 11) := hY (by rw [← hfo, if_pos c3])
      obtain ⟨ad, nd, cd⟩ := sl
      obtain ⟨_, _, he, _, _⟩ := hbu.rd.shape
      cases he
      have d3 : ((acc.length : Int) == 20000) = true := by rw [beq_iff_eq]; omega
      have Hfo := hY hfo
      have Hat0 := hY hat0
      have Hat1 := hY hat1
      have Hfu := hY hfu
      have Hfw := hY hfw
      have Hbu := hY hbu
      have Hown := hY hown
      have Hal := hY hal
      have Hbz := hY hbz
      have Hsz := hY hsz
      have Hpb := hY hpb
      have Hf1 := hY hf1
      have Hf0 := hY hf0
      have Hs0 := hY hs0
      have Hte := hY hte
      have HP := hY hP
      have HPb := hY hPb
      have C1 := hY c1
      have C3 := hY c3
      have Hr := hY hr
      clear hfo hat0 hat1 hfu hfw hbu hown hal hbz hsz hpb hf1 hf0 hs0 hte hP hPb c1 c3 hr
      go_wp2
      go_ret2
      exact fol_bad HB.out Hfw.out.cg
    case neg =>
    rw [if_neg c3] at hfo
    obtain ⟨Z, hZ, hZb⟩ := wordS_b ls l P
    have hwz : (wordS ls l P).2 = 0 := Hwd.out P (by omega) (by omega)
    have hwo := HWO.out P hPb wr hfw.cg
    rw [hZ, hwz] at hwo
    rw [hZ, Int.toNat_natCast, ← Hlow.out] at hfo
    have hlk := HLK.out Z hZb
    simp only [toFx_val] at hlk
    have hsb := step_b low fm Z imps
    obtain ⟨E, hE⟩ : ∃ E, E = linkE low fm Z imps := ⟨_, rfl⟩
    obtain ⟨N, hN⟩ : ∃ N, N = linkN low fm Z imps := ⟨_, rfl⟩
    obtain ⟨X, hX⟩ : ∃ X, X = linkX low fm Z imps := ⟨_, rfl⟩
    have hX2 : toFx (linkF low fm Z imps) = X := hX.symm
    rw [hX2, ← hE, ← hN] at hlk
    rw [← hE, ← hN, ← hX] at hfo
    rw [← hN] at hsb
    have hst := HST.out
    obtain ⟨st, hstd⟩ : ∃ st, st = strideF fm := ⟨_, rfl⟩
    rw [← hstd] at hfo hsb hst
    obtain ⟨ST, hST⟩ : ∃ ST, N * st = ST := ⟨_, rfl⟩
    rw [hST] at hfo hsb
    have wS : wrap64 (N * st) = ST := by rw [hST]; unfold wrap64; omega
    obtain ⟨ad, nd, cd⟩ := sl
    obtain ⟨_, _, he, _, _⟩ := hbu.rd.shape
    cases he
    have hal2 : acc.length < 20000 := by omega
    have d3 : ((acc.length : Int) == 20000) = false := by rw [beq_eq_false_iff_ne]; omega
    have hat8 : at_ + 8 ≤ page := by omega
    have wA : ∀ z : Int, 0 ≤ z → z ≤ 32760 → wrap64 (at_ + z) = at_ + z := fun z h1 h2 => by unfold wrap64; omega
    have Hfo := hY hfo
    have Hat0 := hY hat0
    have Hat1 := hY hat1
    have Hfu := hY hfu
    have Hfw := hY hfw
    have Hbu := hY hbu
    have Hown := hY hown
    have HAL := hY hal
    have Hbz := hY hbz
    have Hsz := hY hsz
    have Hpb := hY hpb
    have Hf1 := hY hf1
    have Hf0 := hY hf0
    have Hs0 := hY hs0
    have Hte := hY hte
    have HP := hY hP
    have HPb := hY hPb
    have C1 := hY c1
    have C3 := hY c3
    have Hr := hY hr
    have Hwo := hY hwo
    have Hlk := hY hlk
    have HE := hY hE
    have HN := hY hN
    have HX := hY hX
    have HX2 := hY hX2
    have Hstd := hY hstd
    have HST := hY hST
    have Hsb := hY hsb
    have HZ := hY hZ
    have HZb := hY hZb
    have Hwz := hY hwz
    have Hal2 := hY hal2
    have Hst := hY hst
    have Hat8 := hY hat8
    have WA := hY wA
    clear hfo hat0 hat1 hfu hfw hbu hown hal hbz hsz hpb hf1 hf0 hs0 hte hP hPb c1 c3 hr hwo hlk hE hN hX hX2 hstd hST hsb hZ hZb hwz hal2 hst hat8 wA
    go_wp2_with ((with_reducible refine Lay.ldQ Tryz.tImg m (Hfw.out.im.in) ?_ ?_); exact rfl)
    refine hY ?_
    go_wp2_with fail
    refine (Hwo.out).mono ?_
    rintro e W5 ⟨rfl, hc⟩
    have F5 := hY (Hfw.out.pure hc)
    have U5 := hY (Hbu.out.pure hc)
    have B5 := hY (Nat.le_trans Hbz.out hc.size)
    have Z5 := hY (Nat.le_trans Hsz.out hc.size)
    clear hc y1 y2 z1 z2 Hfw Hbu Hbz Hsz
    have y2 := Sta.c_fmt F5.out.st
    rw [← Hfm.out] at y2
    go_wp2_with ((with_reducible refine Lay.ldQ Tryz.tImg m (F5.out.im.in) ?_ ?_); exact rfl)
    refine hY ?_
    go_wp2_with fail
    refine (Hlk.out W5 F5.out.cg).mono ?_
    rintro e W6 ⟨rfl, hc⟩
    have F6 := hY (F5.out.pure hc)
    have U6 := hY (U5.out.pure hc)
    have B6 := hY (Nat.le_trans B5.out hc.size)
    have Z6 := hY (Nat.le_trans Z5.out hc.size)
    clear hc y2 F5 U5 B5 Z5
    go_wp2_with (with_reducible refine Lay.alQ Tryz.tFx ?_)
    refine hY fun W7 b20 eb20 cb20 xb20 => ?_
    go_wp2_with ((with_reducible refine Lay.stQ Tryz.tFx X (xb20.out) ?_ ?_ ?_); exact rfl; exact rfl)
    refine hY fun W8 cW8 xW8 => ?_
    have K8 : Hid (Chg [] W6 W8) := hY (cb20.out.new cW8.out (by rw [eb20.out]; exact Nat.le_refl _))
    have hb20 : W6.heap.size ≤ b20 := by rw [eb20.out]; exact Nat.le_refl _
    have F8 := hY (F6.out.pure K8.out)
    have U8 := hY (U6.out.pure K8.out)
    have B8 := hY (Nat.le_trans B6.out K8.out.size)
    have Z8 := hY (Nat.le_trans Z6.out K8.out.size)
    have X8 := hY (xW8.out)
    have N20 : Hid (∀ b, (Value.slice ad acc.length cd).ownBlock = some b → b ≠ b20) := hY (fun b hb e => by have := (U6.out.lt b hb).2; omega)
    have G20 : Hid (w.heap.size ≤ b20 ∧ bm < b20 ∧ bs < b20 ∧ bx < b20) := by
      refine hY ?_
      have := HUP.out
      have := Z6.out
      have := F6.out.cg.size
      omega
    clear eb20 cb20 xb20 cW8 xW8 K8 F6 U6 B6 Z6
    by_cases hE0 : E = 0
    case neg =>
      have dE : (E != 0) = true := by rw [bne_iff_ne]; exact hE0
      have HB : Hid (R = .bad E) := hY (by rw [← Hfo.out, if_pos hE0])
      have HE0 := hY hE0
      clear hE0
      go_wp2
      go_ret2
      exact fol_bad HB.out F8.out.cg
    case pos =>
    have hfo2 := Hfo.out
    rw [if_neg (fun h => h hE0)] at hfo2
    subst hE0
    have v0 : W8.cell? ⟨b20, 0, none⟩ = some (.int .u64 X.at_) := by have := X8.out.in 0 (by decide); rw [Nat.zero_add] at this; exact this
    have z0 := X8.out.frozen 0
    obtain ⟨X2, hXX⟩ : ∃ X2 : Fx, X2 = { X with at_ := P } := ⟨_, rfl⟩
    rw [← hXX] at hfo2
    have Hfo2 := hY hfo2
    clear hfo2
    go_upto_region 14 with fail
    refine Lay.with_world (fun W' => fxl.Box W' b20 X2 ∧ FoW w S bm bs bx m x sg W' ∧ FB W' base (.slice ad acc.length cd) acc ∧ base ≤ W'.heap.size ∧ W4.heap.size ≤ W'.heap.size) ?_ (fun W9 hW => ?_)
    · have kk : Chg [b20] W8 (W8.setCell ⟨b20, 0, none⟩ (.int .u64 P)) := (Chg.refl [b20] _).setCell _ _ (.inl (List.mem_singleton.2 rfl))
      have h20 := G20.out
      refine ⟨by rw [hXX]; exact Lay.Box.set X8.out 0 _ _ rfl, F8.out.own kk HSL.out (n := b20) (fun i hi => .inr (by rw [List.mem_singleton] at hi; omega)) h20.2, U8.out.frame kk (fun b hb hm => N20.out b hb (List.mem_singleton.1 hm)), Nat.le_trans B8.out kk.size, Nat.le_trans Z8.out kk.size⟩
    obtain ⟨hx9, hf9, hu9, hb9, hz9⟩ := hW
    clear v0 z0 F8 U8 B8 Z8 X8
    have X9 := hY hx9
    have F9 := hY hf9
    have U9 := hY hu9
    have B9 := hY hb9
    have Z9 := hY hz9
    have HXX := hY hXX
    clear hx9 hf9 hu9 hb9 hz9 hXX
    go_wp2_with ((with_reducible refine Lay.ldQ Tryz.tFx X2 (X9.out.in) ?_ ?_); exact rfl)
    refine hY ?_
    go_wp2_with ((with_reducible refine bs1 (X2) ((fx_built X2)) ?_ ?_ ?_); exact rfl; exact rfl; intro VA va cva rva; replace cva := hY cva; replace rva := hY rva; refine Hid.out ?_)
    refine hY ?_
    have UA := hY (U9.out.pure cva.out)
    go_wp2_with (at_builtin; go_must (refine Lay.app (L := fxl) Tryz.infoFxL rfl _ _ rfl base (.slice ad acc.length cd) acc rfl UA.out _ rfl [X2] rva.out (app_fx Hal2.out X2).1 (app_fx Hal2.out X2).2 (Nat.le_trans B9.out cva.out.size) ?_); intro vb VB hov hgv hlc; refine Hid.out ?_)
    refine hY ?_
    have hgo := Lay.chg_grown hgv
    have DB : Hid (Chg (Value.slice ad acc.length cd).ownBlock.toList W9 VB) := hY (cva.out.add.same hgo)
    have TB : Hid (∀ i ∈ (Value.slice ad acc.length cd).ownBlock.toList, i ∈ S ∨ W4.heap.size ≤ i) := hY (fun i hi => Hown.out i (Option.mem_toList.1 hi))
    have FBB := hY (F9.out.own DB.out HSL.out TB.out HUP.out)
    have BB2 := hY (Nat.le_trans B9.out DB.out.size)
    have ZB := hY (Nat.le_trans Z9.out DB.out.size)
    have OWN : Hid (∀ b, vb.ownBlock = some b → b ∈ S ∨ W4.heap.size ≤ b) := by
      refine hY ?_
      intro b hb
      rcases hlc with h | h
      · rw [h] at hb; exact Hown.out b hb
      · rw [h] at hb
        injection hb with hb
        rw [← hb]
        exact .inr (Nat.le_trans Z9.out cva.out.size)
    obtain ⟨ab, cb, rfl, hb1, hb2⟩ := hov.rd.shape
    have hlen1 : (acc ++ [X2]).length = acc.length + 1 := by rw [List.length_append]; rfl
    rw [hlen1] at hov OWN ⊢
    have UB := hY hov
    have Hlen1 := hY hlen1
    clear hov hlen1
    clear hgv hlc hgo UA cva rva hb1 hb2 X9 F9 U9 B9 Z9 DB TB
    have y2 := Sta.c_fmt FBB.out.st
    rw [← Hfm.out] at y2
    go_wp2_with fail
    refine (Hst.out _).mono ?_
    rintro e WC ⟨rfl, hc⟩
    have FC := hY (FBB.out.pure hc)
    have UC := hY (UB.out.pure hc)
    have BC := hY (Nat.le_trans BB2.out hc.size)
    have ZC := hY (Nat.le_trans ZB.out hc.size)
    clear hc y2 FBB UB BB2 ZB
    have hw4 : w.heap.size ≤ W4.heap.size := by have := HUP.out.1; have := FC.out.lo.1; omega
    by_cases s0 : ST = 0
    · have dS : (ST == 0) = true := by rw [beq_iff_eq]; exact s0
      have hfo3 := Hfo2.out
      rw [if_pos s0] at hfo3
      have HBO : Hid (R = .ok (acc ++ [X2])) := hY (hfo3.symm)
      have S0 := hY s0
      have Hfo3 := hY hfo3
      have Hw4 := hY hw4
      clear s0 hfo3 hw4
      go_wp2
      go_ret2
      rw [HBO.out]
      exact ⟨FC.out.cg, ⟨ab, acc.length + 1, cb⟩, rfl, UC.out, fun b hb => (OWN.out b hb).imp id (fun h => Nat.le_trans Hw4.out h), by rw [Hlen1.out]; exact Hal2.out⟩
    · have dS : (ST == 0) = false := by rw [beq_eq_false_iff_ne]; exact s0
      have hfo3 := Hfo2.out
      rw [if_neg s0] at hfo3
      by_cases s8 : ST < 8
      · have dT : decide (ST < 8) = true := decide_eq_true s8
        rw [if_pos s8] at hfo3
        have HB : Hid (R = .bad 15) := hY (hfo3.symm)
        have S0 := hY s0
        have S8 := hY s8
        have Hfo3 := hY hfo3
        have Hw4 := hY hw4
        clear s0 s8 hfo3 hw4
        go_wp2
        go_ret2
        exact fol_bad HB.out FC.out.cg
      · have dT : decide (ST < 8) = false := decide_eq_false s8
        rw [if_neg s8] at hfo3
        have wAS := WA.out ST Hsb.out.1 Hsb.out.2
        have hs8 : 8 ≤ ST := Int.not_lt.1 s8
        have S0 := hY s0
        have S8 := hY s8
        have Hfo3 := hY hfo3
        have Hw4 := hY hw4
        have Hs8 := hY hs8
        clear s0 s8 hfo3 hw4 hs8
        go_wp2
        go_roundw
        case rel =>
          have h1 := Hat8.out
          have h2 := Hpgb.out
          have h3 := Hs8.out
          have h4 := Hsb.out
          have h5 := Hfu.out
          have h6 := Hr.out
          have h7 := Hat0.out
          have h8 := hr1
          exact ⟨r, at_ + ST, acc ++ [X2], ⟨ab, acc.length + 1, cb⟩, by first | rfl | exact congrArg (Value.int .i64) wAS, rfl, Hfo3.out, fol_b1 h7 h3, fol_b2 h1 h2 h4.2, fol_b3 h8 h5 h3, FC.out, UC.out, OWN.out, by rw [Hlen1.out]; exact Hal2.out, BC.out, ZC.out⟩
        case measure => first | exact meas_fol Hat8.out Hpgb.out.2 Hs8.out | (rw [wAS]; exact meas_fol Hat8.out Hpgb.out.2 Hs8.out)
theorem needC_ok (n : Int) (w : World) : Calls Tryz.prog 44 #[.bool true, .int .i64 n] w fun e w' => e = .returned (.tuple #[]) ∧ w' = w := by
 go_enter Tryz.func44, Tryz.ntmps44
 go_wp2
 go_end0
 exact ⟨rfl, rfl⟩
def stopE (n : Int) : Ending := .panicked [{ v := .iface 161 (.agg #[.int .i64 n]), recovered := false }]
theorem needC_bad (n : Int) (w : World) : Calls Tryz.prog 44 #[.bool false, .int .i64 n] w fun e w' => e = stopE n ∧ w' = w := by
 go_enter Tryz.func44, Tryz.ntmps44
 go_wp2
 exact ⟨rfl, rfl, rfl⟩
theorem well_ok (b : Nat) (s : CS) (w : World) (h : CurB w b s) (hf : s.failed = false) : Calls Tryz.prog 49 #[.pointer (some ⟨b, 0, none⟩)] w fun e w' => e = .returned (.tuple #[]) ∧ Chg [] w w' := by
 have H := hY h
 clear h
 go_enter Tryz.func49, Tryz.ntmps49
 go_wp2_with fail
 refine (Err_ok b s w H.out hf).mono ?_
 rintro e w1 ⟨rfl, hc⟩
 have HC := hY hc
 clear hc
 go_wp2_with fail
 refine (needC_ok 3 w1).mono ?_
 rintro e w2 ⟨rfl, rfl⟩
 go_wp2
 go_end0
 exact ⟨rfl, HC.out⟩
theorem well_bad (b : Nat) (s : CS) (w : World) (hg : Env w) (h : CurB w b s) (hf : s.failed = true) : Calls Tryz.prog 49 #[.pointer (some ⟨b, 0, none⟩)] w fun e w' => e = stopE 3 ∧ Chg [] w w' := by
 have H := hY h
 have HG := hY hg
 clear h hg
 go_enter Tryz.func49, Tryz.ntmps49
 go_wp2_with fail
 refine (Err_bad b s w HG.out H.out hf).mono ?_
 rintro e w1 ⟨rfl, hc⟩
 have HC := hY hc
 clear hc
 go_wp2_with fail
 refine (needC_bad 3 w1).mono ?_
 rintro e w2 ⟨rfl, rfl⟩
 exact ⟨rfl, rfl, HC.out⟩
theorem seek_any (b : Nat) (s : CS) (n : Nat) (w : World) (h : CurB w b s) : Calls Tryz.prog 48 #[.pointer (some ⟨b, 0, none⟩), .int .u64 n] w fun e w' => e = .returned (.tuple #[]) ∧ CurB w' b (seekC s n) ∧ Chg [b] w w' := by
 have H := hY h
 clear h
 by_cases hn : n ≤ 2147483647
 ·have d : decide ((2147483647 : Int) < (n : Int)) = false := by simp; omega
  have e1 : seekC s n = seekS s n := by unfold seekC; rw [if_pos hn]
  rw [e1]
  have e2 : wrap64 (n : Int) = n := by unfold wrap64; omega
  go_enter Tryz.func48, Tryz.ntmps48
  go_wp2_with fail
  refine (Seek_cur b s n w H.out).mono ?_
  rintro e w1 ⟨rfl, hc, hg⟩
  have HC := hY hc
  have HG := hY hg
  clear hc hg
  go_wp2
  go_end0
  exact ⟨rfl, HC.out, HG.out⟩
 ·have d : decide ((2147483647 : Int) < (n : Int)) = true := by simp; omega
  have e1 : seekC s n = seekS (failS s) (IntKind.i64.wrap (n : Int)) := by unfold seekC; rw [if_neg hn]
  rw [e1]
  generalize hz : IntKind.i64.wrap (n : Int) = z
  have e2 : wrap64 (n : Int) = z := by rw [← hz]; unfold wrap64; rw [IntKind.wrap_i64]
  have HZ := hY hz
  clear hz
  go_enter Tryz.func48, Tryz.ntmps48
  go_wp2_with fail
  refine (Fail_cur b s w H.out).mono ?_
  rintro e w1 ⟨rfl, hc, hg⟩
  have HC := hY hc
  have HG := hY hg
  clear hc hg
  go_wp2_with fail
  refine (Seek_cur b (failS s) z w1 HC.out).mono ?_
  rintro e w2 ⟨rfl, hc, hg⟩
  have HC2 := hY hc
  have HG2 := hY hg
  clear hc hg
  go_wp2
  go_end0
  exact ⟨rfl, HC2.out, HG.out.same HG2.out⟩
theorem caught_idle (p : Addr) (w : World) : CallsD Tryz.prog 43 #[.pointer (some p)] .returning w fun e u' w' => e = .returned (.tuple #[]) ∧ u' = .returning ∧ w' = w := by
 refine callsD_of_wpS Tryz.func43 rfl fun c₀ cs hu => ?_
 apply wpS_seq
 apply wpS_region
 simp [wpOpsS, go_sem, recoverD, hu, Tryz.ntmps43, Exit.thenS]
 refine wpS_of_wp ?_
 go_wp2
 cases c₀
 simp_all [bodyPostS, results, Tryz.results43]
theorem Tryz.isStop (n : Int) (w : World) : (Instr.typeAssert (.iface 161 (.agg #[.int .i64 n])) 20 161 true).run Tryz.prog w = .ok (.tuple #[.agg #[.int .i64 n], .bool true]) w := by kernel_rfl
set_option maxHeartbeats 4000000 in
theorem caught_stop (p : Addr) (x : Value) (n : Int) (w : World) (hc : w.cell? p = some x) (hz : w.frozen? p = false) :
  CallsD Tryz.prog 43 #[.pointer (some p)] (.panicking [{ v := .iface 161 (.agg #[.int .i64 n]), recovered := false }]) w fun e u' w' =>
   e = .returned (.tuple #[]) ∧ u' = .panicking [{ v := .iface 161 (.agg #[.int .i64 n]), recovered := true }] ∧ w' = (w.alloc (.cells #[.int .i64 n] 161)).setCell p (.int .i64 n) := by
 refine callsD_of_wpS Tryz.func43 rfl fun c₀ cs hu => ?_
 apply wpS_seq
 apply wpS_region
 simp [wpOpsS, go_sem, recoverD, hu, Tryz.ntmps43, Exit.thenS]
 refine wpS_of_wp ?_
 have hta := Tryz.isStop n
 have hlt : p.block < w.heap.size := World.block_lt_of_cell? w _ hc
 have hc2 : ∀ o, (w.alloc o).cell? p = some x := fun o => by rw [World.cell?_alloc_lt _ _ _ hlt]; exact hc
 have hz2 : ∀ o, (w.alloc o).frozen? p = false := fun o => by rw [World.frozen?_alloc_old _ _ _ (Nat.ne_of_lt hlt)]; exact hz
 go_wp2
 simp [bodyPostS, results, Tryz.results43]
theorem clos_ok (p : Addr) (q : Value) (u : FrameMode) (w : World) (hc : w.cell? p = some (.int .i64 0)) :
  CallsD Tryz.prog 42 #[.pointer (some p), q] u w fun e u' w' => u' = u ∧ (e = .returned (.tuple #[]) ∧ w' = w) := by
 go_enter_d Tryz.func42, Tryz.ntmps42
 go_wp2
 go_end0
 exact ⟨rfl, rfl⟩
theorem clos_bad (p : Addr) (b : Nat) (x : Chn) (n : Int) (hn : n ≠ 0) (u : FrameMode) (w : World) (hc : w.cell? p = some (.int .i64 n)) (hb : chnL.Box w b x) :
  CallsD Tryz.prog 42 #[.pointer (some p), .pointer (some ⟨b, 0, none⟩)] u w fun e u' w' => u' = u ∧ (e = .returned (.tuple #[]) ∧ chnL.Box w' b .zero ∧ Chg [b] w w') := by
 have hb' := hY hb
 clear hb
 go_enter_d Tryz.func42, Tryz.ntmps42
 go_wp2_with ((with_reducible refine Lay.stQ Tryz.tChn Chn.zero (hb'.out) ?_ ?_ ?_); exact rfl; exact rfl)
 refine hY fun W1 cW1 xW1 => ?_
 go_wp2
 go_end0
 exact ⟨rfl, xW1.out, cW1.out⟩
def PanTo (R : Ending → World → Prop) (Q : Exit → Act → World → Prop) : Exit → Act → World → Prop
 | .panic c, a, w => a.defers = [] ∧ R (.panicked c) w
 | e, a, w => Q e a w
theorem PanTo.put {R : Ending → World → Prop} {Q : Exit → Act → World → Prop} {c : List PanicEntry} {a : Act} {d : Option Tmp} {v : Value} {w : World} (h : PanTo R Q (.panic c) (a.put d v) w) : PanTo R Q (.panic c) a w := by
 cases d with
 | none => exact h
 | some t => exact h
theorem wp_region_panTo {P : Program} {id : Nat} {ops : Array Oper} {b : Bool} {Q : Exit → Act → World → Prop} {a : Act} {w : World} {R : Ending → World → Prop} (hR : ∀ c a w, a.defers = [] → R (.panicked c) w → Q (.panic c) a w)
  (h : (Code.region id ops b).wp P (PanTo R Q) a w) : (Code.region id ops b).wp P Q a w :=
 Code.wp_mono (fun e a w h => by
  cases e <;> first | exact h | exact hR _ _ _ h.1 h.2) h
end Go.Proofs.YtiljokmkiolpgaaGreatDoor
