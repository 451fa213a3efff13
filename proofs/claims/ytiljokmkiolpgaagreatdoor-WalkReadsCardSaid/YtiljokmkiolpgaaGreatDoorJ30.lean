/- Lemmas, laid together: part 30 of 42. Conditions: none but each lemma's own. -/
import Derived.Test.YtiljokmkiolpgaaGreatDoorJ29
import Derived.Test.YtiljokmkiolpgaaGreatDoorJ17
import Derived.Test.YtiljokmkiolpgaaGreatDoorJ28
import Derived.Test.YtiljokmkiolpgaaGreatDoorJ1
namespace Go.Proofs.YtiljokmkiolpgaaGreatDoor
open Go.RowKit
set_option maxRecDepth 100000
theorem app_len4 {xs : List Sta} {k n : Nat} (h : xs.length ≤ k) (hk : k < n) (hn : n < 4294967296) (z : Sta) : (xs.length + [z].length) * 48 ≤ 140737488355328 ∧ xs.length + [z].length ≤ 9223372036854775807 := by
 rw [List.length_singleton]
 omega
def RSsP (w : World) (r : ChR (List StP)) (e : Ending) (w' : World) : Prop :=
 Chg [] w w' ∧ match r with
 | .ok ss => ∃ (sl : SlV) (xs : List Sta), e = .returned (.tuple #[.slice sl.a sl.n sl.cap, .int .i64 0]) ∧ staL.Buf 51 w' w.heap.size (.slice sl.a sl.n sl.cap) xs ∧ StsIn w' w.heap.size xs ss
 | .bad n => e = .returned (.tuple #[.slice none 0 0, .int .i64 n])
theorem rssP_bad {w : World} {R : ChR (List StP)} {n : Int} {w' : World} (hR : R = .bad n) (h : Chg [] w w') : RSsP w R (.returned (.tuple #[.slice none 0 0, .int .i64 n])) w' := by rw [hR]; exact ⟨h, rfl⟩
set_option maxHeartbeats 8000000 in
theorem rstarts_any (B : List UInt8) (hB : B.length ≤ 2147483647) (v : Value) (q : Nat) (hq : q < 4294967296) (m : Img) (ls : List Seg) (hls : SegsB ls) (hend : ∀ k, k < ls.length → (ls.getD k .zero).size ≤ 140737488355328) (hn1 : ls.length ≤ 1048576) (w : World) (rdB : byteL.Rd w v B) (rd : segL.Rd w m.segs.v ls) :
  Calls Tryz.prog 58 #[v, .int .u64 q, imgL.val m] w (RSsP w (startsC B ls q)) := by
 obtain ⟨R, hR⟩ : ∃ R, R = startsC B ls q := ⟨_, rfl⟩
 rw [← hR]
 unfold startsC at hR
 have HGN := hY (fun W (h : Chg [] w W) q hq2 hq => Get15_no B (by omega) _ W (rdB.frame h) q 4 (.inr (.inl rfl)) hq2 hq)
 have HGY := hY (fun W (h : Chg [] w W) q hq => Get15_yes B (by omega) _ W (rdB.frame h) q 4 (.inr (.inl rfl)) hq)
 have HSO := hY (fun W (h : Chg [] w W) q hq i hi => start15_any B hB v q hq m ls hls hend i hi W (rdB.frame h) (rd.frame h))
 obtain ⟨av, capv, rfl, hv1, hv2⟩ := rdB.shape
 obtain ⟨_, _, hv, hc1, hc2⟩ := rd.shape
 obtain ⟨sa, sn, sc, hse⟩ : ∃ a n c, m.segs = ⟨a, n, c⟩ := ⟨_, _, _, rfl⟩
 have hsn : m.segs.n = ls.length := by
  unfold SlV.v at hv
  injection hv
 have hwn : IntKind.u64.wrap (ls.length : Int) = (ls.length : Int) := by rw [IntKind.wrap_u64]; omega
 by_cases h4 : q + 4 ≤ B.length
 case neg =>
  have HB : Hid (R = .bad 3) := hY (by rw [hR, if_neg h4])
  have HG := hY (fun W h => HGN.out W h q (by omega) (by omega))
  have HBL := hY hB
  have RdB := hY rdB
  have Rd := hY rd
  have Hls := hY hls
  have Hend := hY hend
  have HR := hY hR
  have H4 := hY h4
  have Hv := hY hv
  have Hse := hY hse
  have Hc1 := hY hc1
  have Hc2 := hY hc2
  clear hB rdB rd hls hend hR h4 hv hse hc1 hc2
  go_enter Tryz.func58, Tryz.ntmps58
  go_wp2_with ((with_reducible refine Lay.bxQ (L := imgL) 32 m ?_ ?_); exact rfl)
  refine hY fun W1 bm ebm cbm xbm => ?_
  go_wp2_with fail
  refine (HG.out _ cbm.out).mono ?_
  rintro e W2 ⟨rfl, hc⟩
  have C2 := hY (cbm.out.then hc)
  clear hc
  go_wp2
  go_ret2
  exact rssP_bad HB.out C2.out
 case pos =>
 rw [if_pos h4] at hR
 obtain ⟨n, hn⟩ : ∃ n, n = WN B q 4 := ⟨_, rfl⟩
 have hnb : n < 4294967296 := by rw [hn]; exact WN_lt B q 4
 have HG := hY (fun W h => HGY.out W h q h4)
 rw [← hn] at HG hR
 have hwi : wrap64 (n : Int) = (n : Int) := by unfold wrap64; omega
 by_cases h8 : n ≤ ls.length
 case neg =>
  have HB : Hid (R = .bad 8) := hY (by rw [hR, if_neg h8])
  have d8 : decide ((ls.length : Int) < (n : Int)) = true := decide_eq_true (by omega)
  have d8' : ls.length < n := by omega
  have HBL := hY hB
  have RdB := hY rdB
  have Rd := hY rd
  have Hls := hY hls
  have Hend := hY hend
  have HR := hY hR
  have H4 := hY h4
  have Hv := hY hv
  have Hse := hY hse
  have Hc1 := hY hc1
  have Hc2 := hY hc2
  have Hnb := hY hnb
  have Hn := hY hn
  have H8 := hY h8
  clear hB rdB rd hls hend hR h4 hv hse hc1 hc2 hnb hn h8
  go_enter Tryz.func58, Tryz.ntmps58
  go_wp2_with ((with_reducible refine Lay.bxQ (L := imgL) 32 m ?_ ?_); exact rfl)
  refine hY fun W1 bm ebm cbm xbm => ?_
  go_wp2_with fail
  refine (HG.out _ cbm.out).mono ?_
  rintro e W2 ⟨rfl, hc⟩
  have C2 := hY (cbm.out.then hc)
  have X2 := hY (xbm.out.frame hc)
  clear hc
  have y4 := Img.c_segs X2.out
  rw [hsn] at y4
  go_wp2
  go_ret2
  exact rssP_bad HB.out C2.out
 case pos =>
 rw [if_pos h8] at hR
 have d8 : decide ((ls.length : Int) < (n : Int)) = false := decide_eq_false (by omega)
 have d8' : ¬ ls.length < n := by omega
 have HBL := hY hB
 have RdB := hY rdB
 have Rd := hY rd
 have Hls := hY hls
 have Hend := hY hend
 have HR := hY hR
 have H4 := hY h4
 have Hv := hY hv
 have Hse := hY hse
 have Hc1 := hY hc1
 have Hc2 := hY hc2
 have Hnb := hY hnb
 have Hn := hY hn
 clear hB rdB rd hls hend hR h4 hv hse hc1 hc2 hnb hn
 go_enter Tryz.func58, Tryz.ntmps58
 go_wp2_with ((with_reducible refine Lay.bxQ (L := imgL) 32 m ?_ ?_); exact rfl)
 refine hY fun W1 bm ebm cbm xbm => ?_
 go_wp2_with fail
 refine (HG.out _ cbm.out).mono ?_
 rintro e W2 ⟨rfl, hc⟩
 have C2 := hY (cbm.out.then hc)
 have X2 := hY (xbm.out.frame hc)
 clear hc
 have y4 := Img.c_segs X2.out
 rw [hsn] at y4
 have hbm : bm < W2.heap.size := X2.out.lt
 have HBM : Hid (w.heap.size ≤ bm ∧ bm < W2.heap.size) := hY (⟨by rw [ebm.out]; exact Nat.le_refl _, hbm⟩)
 clear hbm ebm cbm xbm
 go_wp2_with fail
 clear y4 d8 d8' hwn
 go_loopw [10, 11] (fun s10 s11 wr => ∃ (k : Nat) (ss : List StP) (xs : List Sta) (sl : SlV), k ≤ n ∧ s10 = .slice sl.a sl.n sl.cap ∧ s11 = .int .i64 (k : Int) ∧ stsC B ls q (n - k) k ss = stsC B ls q n 0 [] ∧ Chg [] w wr ∧ imgL.Box wr bm m ∧ staL.Buf 51 wr W2.heap.size (.slice sl.a sl.n sl.cap) xs ∧ StsIn wr W2.heap.size xs ss ∧ W2.heap.size ≤ wr.heap.size ∧ xs.length ≤ k) (fun _ s11 _ => n - (intOf s11).toNat)
 case atStart => exact ⟨0, [], [], ⟨none, 0, 0⟩, Nat.zero_le _, rfl, rfl, rfl, C2.out, X2.out, Lay.Buf.nil _ _, StsIn.nil _ _, Nat.le_refl _, Nat.le_refl _⟩
 case round =>
  obtain ⟨k, ss, xs, sl, hk, rfl, rfl, hst, hsw, hbx, hbu, hsi, hsz, hxl⟩ := hrel
  by_cases hlt2 : k < n
  ·have hnb2 := Hnb.out
   have hw1 : IntKind.i64.wrap ((k : Int) + 1) = (k : Int) + 1 := by rw [IntKind.wrap_i64]; omega
   obtain ⟨r, hr⟩ : ∃ r, n - k = r + 1 := ⟨n - k - 1, by omega⟩
   rw [hr, stsC_succ] at hst
   have hr2 : n - (k + 1) = r := by omega
   obtain ⟨P, hP⟩ : ∃ P, P = q + 4 + 4 * k := ⟨_, rfl⟩
   rw [← hP] at hst
   have wA : IntKind.u64.wrap ((q : Int) + 4) = (q : Int) + 4 := by rw [IntKind.wrap_u64]; omega
   have wB : IntKind.u64.wrap (4 * (k : Int)) = 4 * (k : Int) := by rw [IntKind.wrap_u64]; omega
   have wK : IntKind.u64.wrap (k : Int) = (k : Int) := by rw [IntKind.wrap_u64]; omega
   have w1 : IntKind.u64.wrap ((q : Int) + 4 + 4 * (k : Int)) = (P : Int) := by rw [IntKind.wrap_u64]; omega
   have hkl : k < ls.length := by omega
   have hPb : P < 18446744073709551616 := by omega
   by_cases hp4 : P + 4 ≤ B.length
   case neg =>
    have HB : Hid (R = .bad 3) := hY (by rw [HR.out, ← hst, if_neg hp4])
    have HGX := hY (HGN.out wr hsw P hPb (by omega))
    have Hst := hY hst
    have SW := hY hsw
    have Hbx := hY hbx
    have Hbu := hY hbu
    have Hsi := hY hsi
    have Hsz := hY hsz
    have Hxl := hY hxl
    have Hr := hY hr
    have Hr2 := hY hr2
    have HP := hY hP
    have Hp4 := hY hp4
    have HPb := hY hPb
    have Hnb2 := hY hnb2
    clear hst hsw hbx hbu hsi hsz hxl hr hr2 hP hp4 hPb hnb2
    go_wp2_with fail
    refine (HGX.out).mono ?_
    rintro e W6 ⟨rfl, hc⟩
    have C6 := hY (SW.out.then hc)
    clear hc
    go_wp2
    go_ret2
    exact rssP_bad HB.out C6.out
   case pos =>
   obtain ⟨t, ht⟩ : ∃ t, t = WN B P 4 := ⟨_, rfl⟩
   have htb : t < 4294967296 := by rw [ht]; exact WN_lt B P 4
   have HGX := hY (HGY.out wr hsw P hp4)
   rw [← ht] at HGX
   rw [if_pos hp4, ← ht] at hst
   have SW := hY hsw
   have BX := hY hbx
   have BU := hY hbu
   have SI := hY hsi
   have SZ := hY hsz
   have Hxl := hY hxl
   have Hr := hY hr
   have Hr2 := hY hr2
   have HP := hY hP
   have Hp4 := hY hp4
   have HPb := hY hPb
   have Ht := hY ht
   clear hsw hbx hbu hsi hsz hxl hr hr2 hP hp4 hPb ht
   go_wp2_with fail
   refine (HGX.out).mono ?_
   rintro e W6 ⟨rfl, hc⟩
   have C6 := hY (SW.out.then hc)
   have X6 := hY (BX.out.frame hc)
   have B6 := hY (BU.out.pure hc)
   have I6 := hY (SI.out.pure hc)
   have Z6 := hY (Nat.le_trans SZ.out hc.size)
   clear hc SW BX BU SI SZ wA wB wK w1
   by_cases ht0 : t = 0
   ·have d0 : ((t : Int) == 0) = true := by rw [ht0]; rfl
    rw [if_pos ht0] at hst
    have Hst := hY hst
    have Ht0 := hY ht0
    have Htb := hY htb
    have Hnb2 := hY hnb2
    clear hst ht0 htb hnb2
    go_wp2
    go_roundw
    case rel => exact ⟨k + 1, ss, xs, sl, hlt2, rfl, by first | rfl | exact congrArg (Value.int .i64) hw1 | go_num, by rw [Hr2.out]; exact Hst.out, C6.out, X6.out, B6.out, I6.out, Z6.out, Nat.le_succ_of_le Hxl.out⟩
    case measure => first | exact measC_d hlt2 | exact measC_i hw1 hlt2 | exact measC_e hw1 hlt2
   ·have d0 : ((t : Int) == 0) = false := by rw [beq_eq_false_iff_ne]; omega
    rw [if_neg ht0] at hst
    have w2 : IntKind.u64.wrap ((q : Int) + (t : Int)) = ((q + t : Nat) : Int) := by rw [IntKind.wrap_u64]; omega
    have hso9 := HSO.out W6 C6.out (q + t) (by omega) k hkl
    unfold RStP at hso9
    cases hsc : startC B ls k (q + t) with
    | bad n9 =>
     rw [hsc] at hso9 hst
     have HB : Hid (R = .bad n9) := hY (by rw [HR.out, ← hst]; rfl)
     have hne9 : (n9 != 0) = true := by rw [bne_iff_ne]; exact startC_ne hsc
     have Hso9 := hY hso9
     have Hst := hY hst
     have Hsc := hY hsc
     have Ht0 := hY ht0
     have Htb := hY htb
     have Hnb2 := hY hnb2
     clear hso9 hst hsc ht0 htb hnb2
     go_wp2_with ((with_reducible refine Lay.ldQ Tryz.tImg m (X6.out.in) ?_ ?_); exact rfl)
     refine hY ?_
     go_wp2_with fail
     refine (Hso9.out).mono ?_
     rintro e W7 ⟨hg, rfl⟩
     have C7 := hY (C6.out.then hg)
     clear hg
     go_wp2_with (with_reducible refine Lay.alQ Tryz.tSta ?_)
     refine hY fun W8 b14 eb14 cb14 xb14 => ?_
     go_wp2_with ((with_reducible refine Lay.stQ Tryz.tSta Sta.zero (xb14.out) ?_ ?_ ?_); exact rfl; exact rfl)
     refine hY fun W9 cW9 xW9 => ?_
     have C9 := hY ((C7.out.then cb14.out).new cW9.out (by rw [eb14.out]; exact Nat.le_trans C7.out.size (Nat.le_refl _)))
     clear eb14 cb14 xb14 cW9 xW9
     go_wp2
     go_ret2
     exact rssP_bad HB.out C9.out
    | ok s9 =>
     rw [hsc] at hso9 hst
     have hst2 : stsC B ls q r (k + 1) (ss ++ [s9]) = stsC B ls q n 0 [] := hst
     have Hso9 := hY hso9
     have Hst := hY hst
     have Hst2 := hY hst2
     have Hsc := hY hsc
     have Ht0 := hY ht0
     have Htb := hY htb
     have Hnb2 := hY hnb2
     clear hso9 hst hst2 hsc ht0 htb hnb2
     go_wp2_with ((with_reducible refine Lay.ldQ Tryz.tImg m (X6.out.in) ?_ ?_); exact rfl)
     refine hY ?_
     go_wp2_with fail
     refine (Hso9.out).mono ?_
     rintro e W7 ⟨hg, x, rfl, hxi⟩
     obtain ⟨ad, nd, cd⟩ := sl
     have C7 := hY (C6.out.then hg)
     have X7 := hY (X6.out.frame hg)
     have B7 := hY (B6.out.pure hg)
     have I7 := hY (I6.out.pure hg)
     have Z7 := hY (Nat.le_trans Z6.out hg.size)
     have N7 := hY (hxi.mono Z6.out)
     clear hg C6 X6 B6 I6 Z6 hxi
     obtain ⟨_, _, he, _, _⟩ := B7.out.rd.shape
     cases he
     go_wp2_with (with_reducible refine Lay.alQ Tryz.tSta ?_)
     refine hY fun W8 b14 eb14 cb14 xb14 => ?_
     go_wp2_with ((with_reducible refine Lay.stQ Tryz.tSta x (xb14.out) ?_ ?_ ?_); exact rfl; exact rfl)
     refine hY fun W9 cW9 xW9 => ?_
     have hb14 : W7.heap.size ≤ b14 := by rw [eb14.out]; exact Nat.le_refl _
     have K9 : Hid (Chg [] W7 W9) := hY (cb14.out.new cW9.out hb14)
     have C9 := hY (C7.out.then K9.out)
     have X9 := hY (X7.out.frame K9.out)
     have B9 := hY (B7.out.pure K9.out)
     have I9 := hY (I7.out.pure K9.out)
     have Z9 := hY (Nat.le_trans Z7.out K9.out.size)
     have N9 := hY (N7.out.pure K9.out)
     have X14 := hY (xW9.out)
     clear C7 X7 B7 I7 Z7 N7 K9 eb14 cb14 xb14 cW9 xW9 hb14
     go_wp2_with ((with_reducible refine Lay.ldQ Tryz.tSta x (X14.out.in) ?_ ?_); exact rfl)
     refine hY ?_
     go_wp2_with ((with_reducible refine bs1 (x) ((sta_built x)) ?_ ?_ ?_); exact rfl; exact rfl; intro VA va cva rva; replace cva := hY cva; replace rva := hY rva; refine Hid.out ?_)
     refine hY ?_
     have UA := hY (B9.out.pure cva.out)
     go_wp2_with (at_builtin; go_must (refine Lay.app (L := staL) Tryz.infoSta rfl _ _ rfl W2.heap.size (.slice ad xs.length cd) xs rfl UA.out _ rfl [x] rva.out (app_len4 Hxl.out hlt2 Hnb.out x).1 (app_len4 Hxl.out hlt2 Hnb.out x).2 (Nat.le_trans Z9.out cva.out.size) ?_); intro vb VB hov hgv hlc; refine Hid.out ?_)
     refine hY ?_
     have hgo := Lay.chg_grown hgv
     have SB : Hid (∀ i ∈ (Value.slice ad xs.length cd).ownBlock.toList, W2.heap.size ≤ i) := hY (fun i hi => (UA.out.lt i (Option.mem_toList.1 hi)).1)
     have IB := hY (((I9.out.pure cva.out).apart UA.out (by decide) hgo).snoc x s9 ((N9.out.pure cva.out).frame hgo (fun j hj => rows_ne (N9.out.pure cva.out).bg UA.out (by decide) j hj)))
     have DB : Hid (Chg (Value.slice ad xs.length cd).ownBlock.toList W9 VB) := hY (cva.out.add.same hgo)
     obtain ⟨ab, cb, rfl, hb1, hb2⟩ := hov.rd.shape
     have hlen1 : (xs ++ [x]).length = xs.length + 1 := by rw [List.length_append]; rfl
     rw [hlen1] at hov ⊢
     have UB := hY hov
     have Hlen1 := hY hlen1
     clear hov hlen1
     clear hgv hlc hgo UA cva rva hb1 hb2
     have XB := hY (X9.out.frameS DB.out (nin_own HBM.out.2 SB.out))
     have CB := hY (C9.out.trans DB.out (fun i hi hw => absurd (SB.out i hi) (by have := HBM.out; omega)))
     have ZB := hY (Nat.le_trans Z9.out DB.out.size)
     clear C9 X9 B9 I9 Z9 N9 DB SB X14
     go_wp2
     go_roundw
     case rel => exact ⟨k + 1, ss ++ [s9], xs ++ [x], ⟨ab, xs.length + 1, cb⟩, hlt2, rfl, by first | rfl | exact congrArg (Value.int .i64) hw1 | go_num, by rw [Hr2.out]; exact Hst2.out, CB.out, XB.out, UB.out, IB.out, ZB.out, by rw [Hlen1.out]; exact Nat.succ_le_succ Hxl.out⟩
     case measure => first | exact measC_d hlt2 | exact measC_i hw1 hlt2 | exact measC_e hw1 hlt2
  ·obtain rfl : k = n := by omega
   rw [Nat.sub_self] at hst
   have HBO : Hid (R = .ok ss) := hY (by rw [HR.out, ← hst]; rfl)
   have Hst := hY hst
   have Hsw := hY hsw
   have Hbx := hY hbx
   have Hbu := hY hbu
   have Hsi := hY hsi
   have Hsz := hY hsz
   have Hxl := hY hxl
   clear hst hsw hbx hbu hsi hsz hxl
   go_wp2
   go_ret2
   rw [HBO.out]
   have hw5 : w.heap.size ≤ W2.heap.size := Nat.le_trans HBM.out.1 (Nat.le_of_lt HBM.out.2)
   exact ⟨Hsw.out, sl, xs, rfl, Hbu.out.mono hw5, Hsi.out.mono hw5⟩
def sizeR (fm : Int) : Int := if fm = 1 then 4 else if fm = 2 then 8 else if fm = 3 then 16 else 0
theorem rsize_any (fm : Int) (w : World) : Calls Tryz.prog 28 #[.int .i64 fm] w fun e w' => e = .returned (.int .i64 (sizeR fm)) ∧ Chg [] w w' := by
 unfold sizeR
 by_cases h1 : fm = 1
 ·subst h1
  go_enter Tryz.func28, Tryz.ntmps28
  go_wp2
  go_ret
  exact ⟨rfl, Chg.refl _ _⟩
 by_cases h2 : fm = 2
 ·subst h2
  go_enter Tryz.func28, Tryz.ntmps28
  go_wp2
  go_ret
  exact ⟨rfl, Chg.refl _ _⟩
 by_cases h3 : fm = 3
 ·subst h3
  go_enter Tryz.func28, Tryz.ntmps28
  go_wp2
  go_ret
  exact ⟨rfl, Chg.refl _ _⟩
 rw [if_neg h1, if_neg h2, if_neg h3]
 have e1 : (fm == 1) = false := by rw [beq_eq_false_iff_ne]; exact h1
 have e2 : (fm == 2) = false := by rw [beq_eq_false_iff_ne]; exact h2
 have e3 : (fm == 3) = false := by rw [beq_eq_false_iff_ne]; exact h3
 have H1 := hY h1
 have H2 := hY h2
 have H3 := hY h3
 clear h1 h2 h3
 go_enter Tryz.func28, Tryz.ntmps28
 go_wp2
 go_ret
 exact ⟨rfl, Chg.refl _ _⟩
theorem signed_any (n top : Nat) (ht : top = 256 ∨ top = 65536) (hn : n < top) (w : World) :
  Calls Tryz.prog 69 #[.int .u64 n, .int .u64 top] w fun e w' => e = .returned (.int .i64 (belowI n top)) ∧ Chg [] w w' := by
 have w1 : IntKind.u64.wrap ((top : Int) - 16) = ((top - 16 : Nat) : Int) := by rw [IntKind.wrap_u64]; omega
 have w2 : wrap64 (n : Int) = (n : Int) := by unfold wrap64; omega
 have w3 : wrap64 (top : Int) = (top : Int) := by unfold wrap64; omega
 have w4 : wrap64 ((n : Int) - (top : Int)) = (n : Int) - top := by unfold wrap64; omega
 unfold belowI
 obtain ⟨tt, htt⟩ : ∃ tt, tt = top - 16 := ⟨_, rfl⟩
 rw [← htt] at w1 ⊢
 by_cases h : tt < n
 ·rw [if_pos h]
  have d1 : decide ((tt : Int) < (n : Int)) = true := decide_eq_true (by omega)
  have Ht := hY ht
  have Hn := hY hn
  have Htt := hY htt
  clear ht hn htt
  go_enter Tryz.func69, Tryz.ntmps69
  go_wp2
  go_ret
  exact ⟨congrArg (fun x => Ending.returned (Value.int .i64 x)) w4, Chg.refl _ _⟩
 ·rw [if_neg h]
  have d1 : decide ((tt : Int) < (n : Int)) = false := decide_eq_false (by omega)
  have Ht := hY ht
  have Hn := hY hn
  have Htt := hY htt
  clear ht hn htt
  go_enter Tryz.func69, Tryz.ntmps69
  go_wp2
  go_ret
  exact ⟨congrArg (fun x => Ending.returned (Value.int .i64 x)) w2, Chg.refl _ _⟩
theorem rordinal_any (n : Int) (m : Img) (w : World) : Calls Tryz.prog 26 #[.int .i64 n, imgL.val m] w fun e w' => e = .returned (.bool (ordB n m.deps.n)) ∧ Chg [] w w' := by
 unfold ordB
 by_cases h1 : -3 ≤ n
 ·have d1 : decide (-3 ≤ n) = true := by simpa using h1
  rw [d1]
  have H1 := hY h1
  clear h1
  go_enter Tryz.func26, Tryz.ntmps26
  go_wp2_with ((with_reducible refine Lay.bxQ (L := imgL) 32 m ?_ ?_); exact rfl)
  refine hY fun W1 bm ebm cbm xbm => ?_
  have x5 := Img.c_deps xbm.out
  go_wp2
  go_ret
  exact ⟨rfl, cbm.out⟩
 ·have d1 : decide (-3 ≤ n) = false := by simpa using h1
  rw [d1]
  have H1 := hY h1
  clear h1
  go_enter Tryz.func26, Tryz.ntmps26
  go_wp2_with ((with_reducible refine Lay.bxQ (L := imgL) 32 m ?_ ?_); exact rfl)
  refine hY fun W1 bm ebm cbm xbm => ?_
  go_wp2
  go_ret
  exact ⟨rfl, cbm.out⟩
theorem WN_sub (B : List UInt8) (p n q k : Nat) (h : q + k ≤ n) : WN ((B.drop p).take n) q k = WN B (p + q) k := by
 unfold WN
 congr 1
 rw [List.drop_take, List.take_take, List.drop_drop, Nat.min_eq_left (by omega)]
theorem leNum_app (a b : List UInt8) : leNum (a ++ b) = leNum a + 256 ^ a.length * leNum b := by
 induction a with
 | nil => simp [leNum]
 | cons x r ih =>
  show x.toNat + 256 * leNum (r ++ b) = x.toNat + 256 * leNum r + _
  rw [ih, List.length_cons, Nat.pow_succ, Nat.mul_add, Nat.mul_comm (256 ^ r.length) 256, Nat.mul_assoc]
  omega
theorem WN_8 (B : List UInt8) (p : Nat) (h : p + 8 ≤ B.length) : WN B p 8 = WN B p 4 + 4294967296 * WN B (p + 4) 4 := by
 unfold WN
 have e : (B.drop p).take 8 = (B.drop p).take 4 ++ (B.drop (p + 4)).take 4 := by
  rw [show (8 : Nat) = 4 + 4 from rfl, List.take_add, List.drop_drop]
 rw [e, leNum_app]
 have hl : ((B.drop p).take 4).length = 4 := by rw [List.length_take, List.length_drop]; omega
 rw [hl]
theorem rawS_sub {fm : Int} {B : List UInt8} {p : Nat} (h : p + isz fm ≤ B.length) : rawS fm (cs ((B.drop p).take (isz fm)) 0) = rawS fm (cs B p) := by
 have hl : ((B.drop p).take (isz fm)).length = isz fm := by rw [List.length_take, List.length_drop]; omega
 unfold rawS
 split
 ·rename_i h3
  have e : isz fm = 16 := by unfold isz; rw [if_pos h3]
  rw [e] at h hl ⊢
  rw [show ((8 : Int)) = ((8 : Nat) : Int) from rfl, numV (by decide) (by omega), numS (by decide) (by omega), numV (by decide) (by omega), numV (by decide) (by omega), numS (by decide) (by omega), numV (by decide) (by omega), WN_sub B p 16 0 8 (by omega), WN_sub B p 16 (0 + 8) 8 (by omega)]
  rfl
 ·rename_i h3
  split
  ·rename_i h2
   have e : isz fm = 8 := by unfold isz; rw [if_neg h3, if_pos h2]
   rw [e] at h hl ⊢
   rw [show ((4 : Int)) = ((4 : Nat) : Int) from rfl, numV (by decide) (by omega), numS (by decide) (by omega), numV (by decide) (by omega), numV (by decide) (by omega), numS (by decide) (by omega), numV (by decide) (by omega), WN_sub B p 8 0 4 (by omega), WN_sub B p 8 (0 + 4) 4 (by omega)]
   rfl
  ·rename_i h2
   have e : isz fm = 4 := by unfold isz; rw [if_neg h3, if_neg h2]
   rw [e] at h hl ⊢
   rw [show ((4 : Int)) = ((4 : Nat) : Int) from rfl, numV (by decide) (by omega), numV (by decide) (by omega), WN_sub B p 4 0 4 (by omega)]
   rfl
theorem wrap64_32 (z : Int) : wrap64 (wrap32 z) = wrap32 z := by
 have h1 : -2147483648 ≤ wrap32 z ∧ wrap32 z ≤ 2147483647 := by unfold wrap32; omega
 generalize wrap32 z = y at *
 unfold wrap64
 omega
theorem wrap_i32e (z : Int) : IntKind.i32.wrap z = wrap32 z := by
 rw [IntKind.wrap_i32]
 unfold wrap32
 rfl
def OneP (w : World) (x : Raw) (e : Ending) (w' : World) : Prop := e = .returned (.tuple #[impL.val ⟨x.ord, x.weak, ⟨#[]⟩, x.add⟩, .int .u64 x.name]) ∧ Chg [] w w'
set_option maxHeartbeats 4000000 in
theorem one3_any (l : List UInt8) (hl : l.length = 16) (v : Value) (w : World) (rd : byteL.Rd w v l) :
  Calls Tryz.prog 32 #[v, .int .i64 3] w (OneP w (rawS 3 (cs l 0))) := by
 have hx : rawS 3 (cs l 0) = wideR (WN l 0 8) (WN l 8 8) := by
  unfold rawS
  rw [if_pos rfl, show ((8 : Int)) = ((8 : Nat) : Int) from rfl, numV (by decide) (by omega), numS (by decide) (by omega), numV (by decide) (by omega)]
 rw [hx, WN_8 l 0 (by omega)]
 have ha : WN l 0 4 < 4294967296 := WN_lt l 0 4
 have hb : WN l (0 + 4) 4 < 4294967296 := WN_lt l (0 + 4) 4
 have HA := hY (fun W (h : Chg [] w W) => get15_any l (by omega) v W (rd.frame h) 0 4 (.inr (.inl rfl)) (by omega))
 have HBq := hY (fun W (h : Chg [] w W) => get15_any l (by omega) v W (rd.frame h) 4 4 (.inr (.inl rfl)) (by omega))
 have HC := hY (fun W (h : Chg [] w W) => get15_any l (by omega) v W (rd.frame h) 8 8 (.inr (.inr rfl)) (by omega))
 obtain ⟨a, haa⟩ : ∃ a, a = WN l 0 4 := ⟨_, rfl⟩
 obtain ⟨b, hbb⟩ : ∃ b, b = WN l (0 + 4) 4 := ⟨_, rfl⟩
 have hbb4 : b = WN l 4 4 := hbb
 obtain ⟨c, hcc⟩ : ∃ c, c = WN l 8 8 := ⟨_, rfl⟩
 rw [← haa] at HA ha ⊢
 rw [← hbb] at hb ⊢
 rw [← hbb4] at HBq
 rw [← hcc] at HC ⊢
 have fR : IntKind.u64.wrap ((a : Int).tmod 65536) = ((a % 65536 : Nat) : Int) := by rw [Int.tmod_eq_emod_of_nonneg (by omega), IntKind.wrap_u64]; omega
 have fR' : (a : Int).tmod 65536 = ((a % 65536 : Nat) : Int) := by rw [Int.tmod_eq_emod_of_nonneg (by omega)]; omega
 have fQ : IntKind.u64.wrap ((a : Int).tdiv 65536) = ((a / 65536 : Nat) : Int) := by rw [Int.tdiv_eq_ediv_of_nonneg (by omega), IntKind.wrap_u64]; omega
 have fQ2 : IntKind.u64.wrap ((a : Int) / 65536) = ((a / 65536 : Nat) : Int) := by rw [IntKind.wrap_u64]; omega
 obtain ⟨aq, haq⟩ : ∃ aq, aq = a / 65536 := ⟨_, rfl⟩
 rw [← haq] at fQ fQ2
 have fS : IntKind.u64.wrap ((aq : Int).tmod 2) = ((aq % 2 : Nat) : Int) := by rw [Int.tmod_eq_emod_of_nonneg (by omega), IntKind.wrap_u64]; omega
 have fS' : (aq : Int).tmod 2 = ((aq % 2 : Nat) : Int) := by rw [Int.tmod_eq_emod_of_nonneg (by omega)]; omega
 obtain ⟨ar, har⟩ : ∃ ar, ar = a % 65536 := ⟨_, rfl⟩
 rw [← har] at fR fR'
 obtain ⟨as_, has_⟩ : ∃ as_, as_ = aq % 2 := ⟨_, rfl⟩
 rw [← has_] at fS fS'
 obtain ⟨wb, hwb⟩ : ∃ wb, wb = ((as_ : Int) == 1) := ⟨_, rfl⟩
 have hwb2 : (as_ == 1) = wb := by rw [hwb, Bool.eq_iff_iff, beq_iff_eq, beq_iff_eq]; omega
 have hwb3 : ((as_ : Int) == 1) = wb := hwb.symm
 have HSG := hY (fun W => signed_any ar 65536 (.inr rfl) (by omega) W)
 have HXX : Hid (wideR (a + 4294967296 * b) c = ⟨belowI ar 65536, wb, ⟨#[]⟩, wrap64 (c : Int), ((b : Nat) : Int)⟩) := by
  refine hY ?_
  have e1 : (a + 4294967296 * b) % 65536 = ar := by rw [har]; omega
  have e2 : (a + 4294967296 * b) / 65536 % 2 = as_ := by rw [has_, haq]; omega
  have e3 : (a + 4294967296 * b) / 4294967296 = b := by omega
  unfold wideR
  rw [e1, e2, e3, hwb2]
 rw [HXX.out]
 obtain ⟨y, hy⟩ : ∃ y, y = belowI ar 65536 := ⟨_, rfl⟩
 rw [← hy] at HSG ⊢
 obtain ⟨ad, had⟩ : ∃ ad, wrap64 (c : Int) = ad := ⟨_, rfl⟩
 rw [had]
 have Rd := hY rd
 have Haa := hY haa
 have Hbb := hY hbb
 have Hbb4 := hY hbb4
 have Hcc := hY hcc
 have Ha := hY ha
 have Hb := hY hb
 have Haq := hY haq
 have Har := hY har
 have Has_ := hY has_
 have Hwb := hY hwb
 have Hy := hY hy
 have Hx := hY hx
 have Hl := hY hl
 clear rd haa hbb hbb4 hcc ha hb haq har has_ hwb hy hx hl
 go_enter Tryz.func32, Tryz.ntmps32
 go_wp2_with (with_reducible refine Lay.alQ Tryz.tImp ?_)
 refine hY fun W1 b4 eb4 cb4 xb4 => ?_
 go_wp2_with fail
 refine (HA.out _ cb4.out).mono ?_
 rintro e W2 ⟨rfl, hc⟩
 have C2 := hY (cb4.out.then hc)
 have X2 := hY (xb4.out.frame hc)
 clear hc
 go_wp2_with fail
 refine (HSG.out _).mono ?_
 rintro e W3 ⟨rfl, hc⟩
 have C3 := hY (C2.out.then hc)
 have X3 := hY (X2.out.frame hc)
 clear hc C2 X2
 go_wp2_with fail
 refine (HC.out _ C3.out).mono ?_
 rintro e W4 ⟨rfl, hc⟩
 have C4 := hY (C3.out.then hc)
 have X4 := hY (X3.out.frame hc)
 clear hc C3 X3
 go_wp2_with fail
 refine (HBq.out _ C4.out).mono ?_
 rintro e W5 ⟨rfl, hc⟩
 have C5 := hY (C4.out.then hc)
 have X5 := hY (X4.out.frame hc)
 clear hc C4 X4
 go_wp2_with ((with_reducible refine Lay.stQ Tryz.tImp (⟨y, wb, ⟨#[]⟩, ad⟩ : Imp) (X5.out) ?_ ?_ ?_); exact rfl; exact rfl)
 refine hY fun WZ cWZ xWZ => ?_
 go_wp2
 refine Lay.ret2 Tryz.tImp Tryz.results32 xWZ.out rfl rfl ?_
 exact ⟨rfl, C5.out.new cWZ.out (by rw [eb4.out]; exact Nat.le_refl _)⟩
set_option maxHeartbeats 4000000 in
theorem one12_any (fm : Int) (hf : fm = 1 ∨ fm = 2) (l : List UInt8) (hl : l.length = isz fm) (v : Value) (w : World) (rd : byteL.Rd w v l) :
  Calls Tryz.prog 32 #[v, .int .i64 fm] w (OneP w (rawS fm (cs l 0))) := by
 have h4 : 4 ≤ l.length := by rw [hl]; unfold isz; split; omega; split <;> omega
 have hl16 : l.length ≤ 16 := by rw [hl]; unfold isz; split; omega; split <;> omega
 have ha : WN l 0 4 < 4294967296 := WN_lt l 0 4
 have HA := hY (fun W (h : Chg [] w W) => get15_any l (by omega) v W (rd.frame h) 0 4 (.inr (.inl rfl)) (by omega))
 obtain ⟨a, haa⟩ : ∃ a, a = WN l 0 4 := ⟨_, rfl⟩
 have hx1 : fm = 1 → rawS fm (cs l 0) = shortR a := by
  intro h
  unfold rawS
  rw [if_neg (by omega), if_neg (by omega), show ((4 : Int)) = ((4 : Nat) : Int) from rfl, numV (by decide) (by omega), haa]
 have hx2 : fm = 2 → 8 ≤ l.length ∧ rawS fm (cs l 0) = longR a (WN l 4 4) := by
  intro h
  have h8 : l.length = 8 := by rw [hl]; unfold isz; rw [if_neg (by omega), if_pos h]
  refine ⟨by omega, ?_⟩
  unfold rawS
  rw [if_neg (by omega), if_pos h, show ((4 : Int)) = ((4 : Nat) : Int) from rfl, numV (by decide) (by omega), numS (by decide) (by omega), numV (by decide) (by omega), haa]
 rw [← haa] at HA ha
 have fR : IntKind.u64.wrap ((a : Int).tmod 256) = ((a % 256 : Nat) : Int) := by rw [Int.tmod_eq_emod_of_nonneg (by omega), IntKind.wrap_u64]; omega
 have fR' : (a : Int).tmod 256 = ((a % 256 : Nat) : Int) := by rw [Int.tmod_eq_emod_of_nonneg (by omega)]; omega
 have fQ : IntKind.u64.wrap ((a : Int).tdiv 256) = ((a / 256 : Nat) : Int) := by rw [Int.tdiv_eq_ediv_of_nonneg (by omega), IntKind.wrap_u64]; omega
 have fQ2 : IntKind.u64.wrap ((a : Int) / 256) = ((a / 256 : Nat) : Int) := by rw [IntKind.wrap_u64]; omega
 obtain ⟨aq, haq⟩ : ∃ aq, aq = a / 256 := ⟨_, rfl⟩
 rw [← haq] at fQ fQ2
 have fS : IntKind.u64.wrap ((aq : Int).tmod 2) = ((aq % 2 : Nat) : Int) := by rw [Int.tmod_eq_emod_of_nonneg (by omega), IntKind.wrap_u64]; omega
 have fS' : (aq : Int).tmod 2 = ((aq % 2 : Nat) : Int) := by rw [Int.tmod_eq_emod_of_nonneg (by omega)]; omega
 obtain ⟨ar, har⟩ : ∃ ar, ar = a % 256 := ⟨_, rfl⟩
 rw [← har] at fR fR'
 obtain ⟨as_, has_⟩ : ∃ as_, as_ = aq % 2 := ⟨_, rfl⟩
 rw [← has_] at fS fS'
 obtain ⟨wb, hwb⟩ : ∃ wb, wb = ((as_ : Int) == 1) := ⟨_, rfl⟩
 have hwb2 : (as_ == 1) = wb := by rw [hwb, Bool.eq_iff_iff, beq_iff_eq, beq_iff_eq]; omega
 have hwb3 : ((as_ : Int) == 1) = wb := hwb.symm
 have HSG := hY (fun W => signed_any ar 256 (.inl rfl) (by omega) W)
 have f5 : IntKind.u64.wrap ((a : Int).tdiv 512) = ((a / 512 : Nat) : Int) := by rw [Int.tdiv_eq_ediv_of_nonneg (by omega), IntKind.wrap_u64]; omega
 have f5' : IntKind.u64.wrap ((a : Int) / 512) = ((a / 512 : Nat) : Int) := by rw [IntKind.wrap_u64]; omega
 obtain ⟨an, han⟩ : ∃ an, an = a / 512 := ⟨_, rfl⟩
 rw [← han] at f5 f5'
 obtain ⟨y, hy⟩ : ∃ y, y = belowI ar 256 := ⟨_, rfl⟩
 rw [← hy] at HSG
 rcases hf with rfl | rfl
 ·have HXX : Hid (rawS 1 (cs l 0) = ⟨y, wb, ⟨#[]⟩, 0, ((an : Nat) : Int)⟩) := by
   refine hY ?_
   rw [hx1 rfl]
   unfold shortR
   rw [← har, ← haq, ← has_, hwb2, ← hy, ← han]
  rw [HXX.out]
  have Rd := hY rd
  have Haa := hY haa
  have Ha := hY ha
  have Haq := hY haq
  have Har := hY har
  have Has_ := hY has_
  have Hwb := hY hwb
  have Hy := hY hy
  have Hl := hY hl
  have H4 := hY h4
  have Hl16 := hY hl16
  have Hx1 := hY hx1
  have Hx2 := hY hx2
  have Han := hY han
  clear rd haa ha haq har has_ hwb hy hl h4 hl16 hx1 hx2 han
  go_enter Tryz.func32, Tryz.ntmps32
  go_wp2_with (with_reducible refine Lay.alQ Tryz.tImp ?_)
  refine hY fun W1 b4 eb4 cb4 xb4 => ?_
  go_wp2_with fail
  refine (HA.out _ cb4.out).mono ?_
  rintro e W2 ⟨rfl, hc⟩
  have C2 := hY (cb4.out.then hc)
  have X2 := hY (xb4.out.frame hc)
  clear hc
  go_wp2_with fail
  refine (HSG.out _).mono ?_
  rintro e W3 ⟨rfl, hc⟩
  have C3 := hY (C2.out.then hc)
  have X3 := hY (X2.out.frame hc)
  clear hc C2 X2
  go_wp2_with (with_reducible refine Lay.alQ Tryz.tImp ?_)
  refine hY fun W4 b8 eb8 cb8 xb8 => ?_
  go_wp2_with ((with_reducible refine Lay.stQ Tryz.tImp (⟨y, wb, ⟨#[]⟩, 0⟩ : Imp) (xb8.out) ?_ ?_ ?_); exact rfl; exact rfl)
  refine hY fun W5 cW5 xW5 => ?_
  have K5 : Hid (Chg [] W3 W5) := hY (cb8.out.new cW5.out (by rw [eb8.out]; exact Nat.le_refl _))
  have C5 := hY (C3.out.then K5.out)
  have X5 := hY (X3.out.frame K5.out)
  have Y5 := hY (xW5.out)
  clear C3 X3 K5 eb8 cb8 xb8 cW5 xW5
  go_wp2_with ((with_reducible refine Lay.ldQ Tryz.tImp (⟨y, wb, ⟨#[]⟩, 0⟩ : Imp) (Y5.out.in) ?_ ?_); exact rfl)
  refine hY ?_
  go_wp2_with ((with_reducible refine Lay.stQ Tryz.tImp (⟨y, wb, ⟨#[]⟩, 0⟩ : Imp) (X5.out) ?_ ?_ ?_); exact rfl; exact rfl)
  refine hY fun WZ cWZ xWZ => ?_
  go_wp2
  refine Lay.ret2 Tryz.tImp Tryz.results32 xWZ.out rfl rfl ?_
  exact ⟨rfl, C5.out.new cWZ.out (by rw [eb4.out]; exact Nat.le_refl _)⟩
 ·obtain ⟨h8, hx⟩ := hx2 rfl
  have HC := hY (fun W (h : Chg [] w W) => get15_any l (by omega) v W (rd.frame h) 4 4 (.inr (.inl rfl)) (by omega))
  obtain ⟨c, hcc⟩ : ∃ c, c = WN l 4 4 := ⟨_, rfl⟩
  rw [← hcc] at HC hx
  obtain ⟨ad, had⟩ : ∃ ad, wrap32 (c : Int) = ad := ⟨_, rfl⟩
  have HXX : Hid (rawS 2 (cs l 0) = ⟨y, wb, ⟨#[]⟩, ad, ((an : Nat) : Int)⟩) := by
   refine hY ?_
   rw [hx]
   unfold longR
   rw [← har, ← haq, ← has_, hwb2, ← hy, ← han, had]
  have had2 : IntKind.i32.wrap (c : Int) = ad := by rw [wrap_i32e]; exact had
  have had3 : wrap64 ad = ad := by rw [← had]; exact wrap64_32 _
  rw [HXX.out]
  have Rd := hY rd
  have Haa := hY haa
  have Ha := hY ha
  have Haq := hY haq
  have Har := hY har
  have Has_ := hY has_
  have Hwb := hY hwb
  have Hy := hY hy
  have Hl := hY hl
  have H4 := hY h4
  have Hl16 := hY hl16
  have Hx1 := hY hx1
  have Hx2 := hY hx2
  have Han := hY han
  have Hcc := hY hcc
  have H8 := hY h8
  have Hx := hY hx
  clear rd haa ha haq har has_ hwb hy hl h4 hl16 hx1 hx2 han hcc h8 hx
  go_enter Tryz.func32, Tryz.ntmps32
  go_wp2_with (with_reducible refine Lay.alQ Tryz.tImp ?_)
  refine hY fun W1 b4 eb4 cb4 xb4 => ?_
  go_wp2_with fail
  refine (HA.out _ cb4.out).mono ?_
  rintro e W2 ⟨rfl, hc⟩
  have C2 := hY (cb4.out.then hc)
  have X2 := hY (xb4.out.frame hc)
  clear hc
  go_wp2_with fail
  refine (HSG.out _).mono ?_
  rintro e W3 ⟨rfl, hc⟩
  have C3 := hY (C2.out.then hc)
  have X3 := hY (X2.out.frame hc)
  clear hc C2 X2
  go_wp2_with (with_reducible refine Lay.alQ Tryz.tImp ?_)
  refine hY fun W4 b8 eb8 cb8 xb8 => ?_
  go_wp2_with ((with_reducible refine Lay.stQ Tryz.tImp (⟨y, wb, ⟨#[]⟩, 0⟩ : Imp) (xb8.out) ?_ ?_ ?_); exact rfl; exact rfl)
  refine hY fun W5 cW5 xW5 => ?_
  have hb8 : W3.heap.size ≤ b8 := by rw [eb8.out]; exact Nat.le_refl _
  have K5 : Hid (Chg [] W3 W5) := hY (cb8.out.new cW5.out hb8)
  have C5 := hY (C3.out.then K5.out)
  have X5 := hY (X3.out.frame K5.out)
  have Y5 := hY (xW5.out)
  have B48 : Hid (b4 < b8) := hY (Nat.lt_of_lt_of_le X3.out.lt hb8)
  clear C3 X3 K5 eb8 cb8 xb8 cW5 xW5 hb8
  go_wp2_with fail
  refine (HC.out _ C5.out).mono ?_
  rintro e W6 ⟨rfl, hc⟩
  have C6 := hY (C5.out.then hc)
  have X6 := hY (X5.out.frame hc)
  have Y6 := hY (Y5.out.frame hc)
  clear hc C5 X5 Y5
  have y3 := Imp.c_add Y6.out
  have z3 := Y6.out.frozen 3
  go_upto_region 8 with fail
  refine Lay.with_world (fun W' => impL.Box W' b8 ⟨y, wb, ⟨#[]⟩, ad⟩ ∧ impL.Box W' b4 impL.d ∧ Chg [] w W') ?_ (fun W7 hW => ?_)
  ·have kk : Chg [b8] W6 (W6.setCell ⟨b8, 3, none⟩ (.int .i64 ad)) := (Chg.refl [b8] _).setCell _ _ (.inl (List.mem_singleton.2 rfl))
   have hlt := B48.out
   exact ⟨Imp.set_add Y6.out ad, X6.out.frameS kk (by rw [List.mem_singleton]; omega), C6.out.new kk (by rw [eb4.out] at hlt; omega)⟩
  obtain ⟨h1, h2, h3⟩ := hW
  clear y3 z3 C6 X6 Y6
  have Y7 := hY h1
  have X7 := hY h2
  have C7 := hY h3
  clear h1 h2 h3
  go_wp2_with ((with_reducible refine Lay.ldQ Tryz.tImp (⟨y, wb, ⟨#[]⟩, ad⟩ : Imp) (Y7.out.in) ?_ ?_); exact rfl)
  refine hY ?_
  go_wp2_with ((with_reducible refine Lay.stQ Tryz.tImp (⟨y, wb, ⟨#[]⟩, ad⟩ : Imp) (X7.out) ?_ ?_ ?_); exact rfl; exact rfl)
  refine hY fun WZ cWZ xWZ => ?_
  go_wp2
  refine Lay.ret2 Tryz.tImp Tryz.results32 xWZ.out rfl rfl ?_
  exact ⟨rfl, C7.out.new cWZ.out (by rw [eb4.out]; exact Nat.le_refl _)⟩
end Go.Proofs.YtiljokmkiolpgaaGreatDoor
