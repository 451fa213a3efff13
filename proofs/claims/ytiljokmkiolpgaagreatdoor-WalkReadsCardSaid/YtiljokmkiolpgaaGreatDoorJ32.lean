/- Lemmas, laid together: part 32 of 42. Conditions: none but each lemma's own. -/
import Derived.Test.YtiljokmkiolpgaaGreatDoorJ31
import Derived.Test.YtiljokmkiolpgaaGreatDoorJ1
namespace Go.Proofs.YtiljokmkiolpgaaGreatDoor
open Go.RowKit
set_option maxRecDepth 100000
theorem app_imp {acc : List Imp} {k n : Nat} (h : acc.length = k) (hk : k < n) (hn : n ≤ 4096) (z : Imp) : (acc.length + [z].length) * 40 ≤ 140737488355328 ∧ acc.length + [z].length ≤ 9223372036854775807 := by
 rw [h, List.length_singleton]
 omega
theorem StsRd.frameS {w w' : World} {xs : List Sta} {ss : List StP} (h : StsRd w xs ss) {S : List Nat} (k : Chg S w w') (hn : ∀ i, i < xs.length → ∀ j, (Value.slice (xs.getD i .zero).begins.a (xs.getD i .zero).begins.n (xs.getD i .zero).begins.cap).ownBlock = some j → j ∉ S) : StsRd w' xs ss :=
 ⟨h.1, fun i hi => ⟨(h.2 i hi).seg, (h.2 i hi).page, (h.2 i hi).fmt, (h.2 i hi).bg.frameS k (hn i hi)⟩⟩
theorem nin_two {j a b : Nat} (h : a < j ∧ j < b) (hm : j ∈ [b, a]) : False := by
 simp only [List.mem_cons, List.not_mem_nil, or_false] at hm
 omega
theorem name_st (B : List UInt8) (q : Nat) (hq : q ≤ B.length) : (∃ sy, nameC B q = some sy ∧ textOk (cs B q) 255 = true ∧ textL (cs B q) 255 = sy ∧ sy.length ≠ 0) ∨ (nameC B q = none ∧ textOk (cs B q) 255 = false) ∨ (nameC B q = none ∧ textOk (cs B q) 255 = true ∧ textL (cs B q) 255 = []) := by
 cases ht : textOk (cs B q) 255 with
 | true =>
  by_cases hl : (textL (cs B q) 255).length = 0
  ·refine .inr (.inr ⟨?_, rfl, List.eq_nil_of_length_eq_zero hl⟩)
   unfold nameC
   rw [if_neg (fun h => h.2.2 hl)]
  ·refine .inl ⟨_, ?_, rfl, rfl, hl⟩
   unfold nameC
   rw [if_pos ⟨hq, ht, hl⟩]
 | false =>
  refine .inr (.inl ⟨?_, rfl⟩)
  unfold nameC
  rw [if_neg (fun h => by rw [ht] at h; exact absurd h.2.1 (by decide))]
theorem kz_b {k z N : Nat} (hk : k < N) (hN : N ≤ 4096) (hz : z = 4 ∨ z = 8 ∨ z = 16) : k * z ≤ 65536 := by
 rcases hz with rfl | rfl | rfl <;> omega
theorem wQ_of {q L : Nat} (h : q ≤ L) (hL : L ≤ 2147483647) : wrap64 (q : Int) = (q : Int) := by unfold wrap64; omega
set_option maxHeartbeats 16000000 in
theorem rcread_main (B : List UInt8) (hl1 : 28 ≤ B.length) (hl2 : B.length ≤ 2147483647) (hz : WN B 0 4 = 0 ∧ WN B 24 4 = 0) (hf : WN B 20 4 = 1 ∨ WN B 20 4 = 2 ∨ WN B 20 4 = 3) (hN : WN B 16 4 ≤ 4096) (m : Img) (ls : List Seg) (R : ChR (List StP × List Imp))
   (hR : R = (startsC B ls (WN B 4 4)).then fun s => (impC B m.deps.n (WN B 20 4 : Nat) (WN B 12 4) (WN B 16 4) (WN B 8 4) []).then fun l => .ok (s, l))
   (hls : SegsB ls) (hend : ∀ k, k < ls.length → (ls.getD k .zero).size ≤ 140737488355328) (hn1 : ls.length ≤ 1048576) (v : Value) (w : World) (rd : byteL.Rd w v B) (rdS : segL.Rd w m.segs.v ls) :
    Calls Tryz.prog 20 #[v, imgL.val m] w (ChP w R) := by
  have HBL : Hid (B.length ≤ 140737488355328) := hY (by omega)
  have HGT := hY (fun W (h : Chg [] w W) q hq => get15_any B (by omega) v W (rd.frame h) q 4 (.inr (.inl rfl)) hq)
  have HG0 := hY (fun W h => HGT.out W h 0 (by omega))
  have HG24 := hY (fun W h => HGT.out W h 24 (by omega))
  have HG20 := hY (fun W h => HGT.out W h 20 (by omega))
  have HG16 := hY (fun W h => HGT.out W h 16 (by omega))
  have HG4 := hY (fun W h => HGT.out W h 4 (by omega))
  have HG8 := hY (fun W h => HGT.out W h 8 (by omega))
  have HG12 := hY (fun W h => HGT.out W h 12 (by omega))
  have hb1 : WN B 4 4 < 4294967296 := WN_lt B 4 4
  have hb2 : WN B 8 4 < 4294967296 := WN_lt B 8 4
  have hb3 : WN B 12 4 < 4294967296 := WN_lt B 12 4
  have hb5 : WN B 20 4 < 4294967296 := WN_lt B 20 4
  obtain ⟨n0, hw0⟩ : ∃ n, WN B 0 4 = n := ⟨_, rfl⟩
  obtain ⟨at_, hw1⟩ : ∃ n, WN B 4 4 = n := ⟨_, rfl⟩
  obtain ⟨ims, hw2⟩ : ∃ n, WN B 8 4 = n := ⟨_, rfl⟩
  obtain ⟨nms, hw3⟩ : ∃ n, WN B 12 4 = n := ⟨_, rfl⟩
  obtain ⟨N, hw4⟩ : ∃ n, WN B 16 4 = n := ⟨_, rfl⟩
  obtain ⟨n5, hw5⟩ : ∃ n, WN B 20 4 = n := ⟨_, rfl⟩
  obtain ⟨n6, hw6⟩ : ∃ n, WN B 24 4 = n := ⟨_, rfl⟩
  rw [hw0] at HG0 hz
  rw [hw1] at HG4 hb1 hR
  rw [hw2] at HG8 hb2 hR
  rw [hw3] at HG12 hb3 hR
  rw [hw4] at HG16 hN hR
  rw [hw5] at HG20 hf hb5 hR
  rw [hw6] at HG24 hz
  obtain ⟨fm, hfm⟩ : ∃ fm : Int, wrap64 (n5 : Int) = fm := ⟨_, rfl⟩
  have hfm2 : fm = (n5 : Int) := by rw [← hfm]; unfold wrap64; omega
  rw [← hfm2] at hR
  have hf2 : fm = 3 ∨ fm = 1 ∨ fm = 2 := by omega
  obtain ⟨hs, hs3⟩ := isz_R hf
  rw [← hfm2] at hs hs3
  have HSZ := hY (fun W => rsize_any fm W)
  rw [hs] at HSZ
  have HONE : Hid (∀ (l : List UInt8) (hl : l.length = isz fm) (v : Value) (w : World) (rd : byteL.Rd w v l), Calls Tryz.prog 32 #[v, .int .i64 fm] w (OneP w (rawS fm (cs l 0)))) := by
    refine hY ?_
    intro l hl v w rd
    rcases hf2 with h | h
    · subst h
      exact one3_any l hl v w rd
    · exact one12_any fm h l hl v w rd
  have HRS := hY (fun p (h : p + isz fm ≤ B.length) => @rawS_sub fm B p h)
  obtain ⟨z, hzz⟩ : ∃ z, z = isz fm := ⟨_, rfl⟩
  have ds : (((z : Nat) : Int) == 0) = false := by rw [beq_eq_false_iff_ne]; omega
  rw [← hzz] at HSZ HONE HRS hs3
  have dN : decide ((4096 : Int) < (N : Int)) = false := decide_eq_false (by omega)
  have dN' : ¬ 4096 < N := by omega
  have d0 : ((n0 : Int) != 0) = false := by rw [hz.1]; rfl
  have d6 : ((n6 : Int) != 0) = false := by rw [hz.2]; rfl
  obtain ⟨d, hd⟩ : ∃ d, d = m.deps.n := ⟨_, rfl⟩
  rw [← hd] at hR
  have HORD := hY (fun n W => rordinal_any n m W)
  rw [← hd] at HORD
  have HSTS := hY (fun W (h : Chg [] w W) => rstarts_any B hl2 v at_ hb1 m ls hls hend hn1 W (rd.frame h) (rdS.frame h))
  have HRD := hY (fun W (h : Chg [] w W) => rd.frame h)
  obtain ⟨av, cap, rfl, hc1, hc2⟩ := rd.shape
  have d28 : decide ((B.length : Int) < 28) = false := decide_eq_false (by omega)
  generalize hL : B.length = L at *
  have HL := hY hL
  have Rd := hY rd
  have HR := hY hR
  have Hz := hY hz
  have Hf := hY hf
  have HN := hY hN
  have Hls := hY hls
  have Hend := hY hend
  have RdS := hY rdS
  have Hw0 := hY hw0
  have Hw1 := hY hw1
  have Hw2 := hY hw2
  have Hw3 := hY hw3
  have Hw4 := hY hw4
  have Hw5 := hY hw5
  have Hw6 := hY hw6
  have Hfm2 := hY hfm2
  have Hf2 := hY hf2
  have Hs := hY hs
  have Hs3 := hY hs3
  have Hzz := hY hzz
  have Hb1 := hY hb1
  have Hb2 := hY hb2
  have Hb3 := hY hb3
  have Hb5 := hY hb5
  have Hd := hY hd
  clear hL rd hR hz hf hN hls hend rdS hw0 hw1 hw2 hw3 hw4 hw5 hw6 hfm2 hf2 hs hs3 hzz hb1 hb2 hb3 hb5 hd
  go_enter Tryz.func20, Tryz.ntmps20
  go_wp2_with ((with_reducible refine Lay.bxQ (L := imgL) 32 m ?_ ?_); exact rfl)
  refine hY fun W1 bm ebm cbm xbm => ?_
  go_wp2_with (with_reducible refine Lay.alQ Tryz.tChn ?_)
  refine hY fun W2 b4 eb4 cb4 xb4 => ?_
  have S2 : Hid (RcW w W2 bm b4 m) := hY (⟨xbm.out.frame cb4.out, xb4.out, cbm.out.then cb4.out, by rw [ebm.out]; exact Nat.le_refl _, by rw [eb4.out]; exact xbm.out.lt⟩)
  clear ebm cbm xbm eb4 cb4 xb4
  go_wp2_with fail
  refine (HG0.out _ S2.out.cg).mono ?_
  rintro e W3 ⟨rfl, hc⟩
  have S3 := hY (S2.out.pure hc)
  clear hc
  go_wp2_with fail
  refine (HG24.out _ S3.out.cg).mono ?_
  rintro e W4 ⟨rfl, hc⟩
  have S4 := hY (S3.out.pure hc)
  clear hc
  go_wp2_with fail
  refine (HG20.out _ S4.out.cg).mono ?_
  rintro e W5 ⟨rfl, hc⟩
  have S5 := hY (S4.out.pure hc)
  clear hc
  go_wp2_with fail
  refine (HSZ.out _).mono ?_
  rintro e W6 ⟨rfl, hc⟩
  have S6 := hY (S5.out.pure hc)
  clear hc
  go_wp2_with fail
  refine (HG16.out _ S6.out.cg).mono ?_
  rintro e W7 ⟨rfl, hc⟩
  have S7 := hY (S6.out.pure hc)
  clear hc
  clear S2 S3 S4 S5 S6
  go_upto_region 11 with fail
  have hsts := HSTS.out
  unfold RSsP at hsts
  cases hsc : startsC B ls at_ with
  | bad n9 =>
    rw [hsc] at hsts
    have HB : Hid (R = .bad n9) := hY (by rw [HR.out, hsc]; rfl)
    have hne : (n9 != 0) = true := by rw [bne_iff_ne]; exact startsC_ne hsc
    have Hsts := hY hsts
    have Hsc := hY hsc
    clear hsts hsc
    refine wp_region_noPanic ?_
    refine wp_region_held_drew (S := fun w' => Chg [] W7 w') (by kernel_rfl) ((Chg.refl [] W7).drew) (fun hHeld => ?_)
    refine tkr 0 ?_ hHeld ?_ ?_
    rotate_left
    · intro w hSw
      go_simp
      try with_reducible rfl
    try simp only [Act.put, aS, aZ, aC]
    refine tkr 1 ?_ hHeld ?_ ?_
    rotate_left
    · intro w hSw
      go_simp
      try with_reducible rfl
    try simp only [Act.put, aS, aZ, aC]
    refine tkr 3 ?_ hHeld ?_ ?_
    rotate_left
    · intro w hSw
      refine Lay.read_ld Tryz.tImg ((S7.out.im.frame hSw).in) ?_ ?_
      exact rfl
      exact rfl
    try simp only [Act.put, aS, aZ, aC]
    refine wpAnyH_ready (rs := [2]) (by kernel_rfl) (by simp) ?_
    refine AllReadyH.cons rfl (fun K hK => ?_) AllReadyH.nil
    go_simp
    refine (HG4.out _ (S7.out.cg.then hHeld)).mono ?_
    rintro e WE ⟨rfl, hc⟩
    have K2 := hY (hHeld.then hc)
    clear hc
    refine hK.out _ _ K2.out ?_
    clear hK hHeld K
    intro hHeld
    try (unfold Act.put; simp only [aS, aZ, aC])
    refine wpAnyH_ready (rs := [4]) (by kernel_rfl) (by simp) ?_
    refine AllReadyH.cons rfl (fun K hK => ?_) AllReadyH.nil
    go_simp
    refine (Hsts.out _ (S7.out.cg.then hHeld)).mono ?_
    rintro e W8 ⟨hg, rfl⟩
    have K4 := hY (hHeld.then hg)
    clear hg
    refine hK.out _ _ K4.out ?_
    clear hK hHeld K
    intro hHeld
    try (unfold Act.put; simp only [aS, aZ, aC])
    refine tkr 5 ?_ hHeld ?_ ?_
    rotate_left
    · intro w hSw
      go_simp
      try with_reducible rfl
    try simp only [Act.put, aS, aZ, aC]
    refine tkr 6 ?_ hHeld ?_ ?_
    rotate_left
    · intro w hSw
      go_simp
      try with_reducible rfl
    try simp only [Act.put, aS, aZ, aC]
    refine tkr 7 ?_ hHeld ?_ ?_
    rotate_left
    · intro w hSw
      go_simp
      try with_reducible rfl
    try simp only [Act.put, aS, aZ, aC]
    refine tkr 8 ?_ hHeld ?_ ?_
    rotate_left
    · intro w hSw
      go_simp
      try with_reducible rfl
    try simp only [Act.put, aS, aZ, aC]
    refine tkr 9 ?_ hHeld ?_ ?_
    rotate_left
    · intro w hSw
      go_simp
      try with_reducible rfl
    try simp only [Act.put, aS, aZ, aC]
    refine wpAnyH_done (by kernel_rfl) ?_ _
    refine NoPanic.normal ?_
    have S8 := hY (S7.out.pure hHeld)
    go_upto_region 13 with fail
    go_wp2_with ((with_reducible refine Lay.stQ Tryz.tChn Chn.zero (S8.out.r4) ?_ ?_ ?_); exact rfl; exact rfl)
    refine hY fun WZ cWZ xWZ => ?_
    go_step
    go_step
    rename_i hK0
    refine hK0 _ _ ?_
    refine wpList_nil ?_
    rename_i hKK _
    refine hKK _ _ ?_
    try (unfold Act.put; simp only [aS, aZ, aC])
    refine wp_ret ?_
    show bodyPost _ _ _ .ret _ _
    refine Lay.ret2 Tryz.tChn Tryz.results20 xWZ.out rfl rfl ?_
    exact chP_bad HB.out (S8.out.cg.new cWZ.out S8.out.l4)
  | ok ss =>
  rw [hsc] at hsts
  have hr := HR.out
  clear HR
  rw [hsc] at hr
  have hr2 : R = (impC B d fm nms N ims []).then fun l => .ok (ss, l) := hr
  clear hr
  have Hsts := hY hsts
  have Hsc := hY hsc
  have HR := hY hr2
  clear hsts hsc hr2
  refine wp_region_noPanic ?_
  refine wp_region_held_drew (S := fun w' => Chg [] W7 w') (by kernel_rfl) ((Chg.refl [] W7).drew) (fun hHeld => ?_)
  refine tkr 0 ?_ hHeld ?_ ?_
  rotate_left
  · intro w hSw
    go_simp
    try with_reducible rfl
  try simp only [Act.put, aS, aZ, aC]
  refine tkr 1 ?_ hHeld ?_ ?_
  rotate_left
  · intro w hSw
    go_simp
    try with_reducible rfl
  try simp only [Act.put, aS, aZ, aC]
  refine tkr 3 ?_ hHeld ?_ ?_
  rotate_left
  · intro w hSw
    refine Lay.read_ld Tryz.tImg ((S7.out.im.frame hSw).in) ?_ ?_
    exact rfl
    exact rfl
  try simp only [Act.put, aS, aZ, aC]
  refine wpAnyH_ready (rs := [2]) (by kernel_rfl) (by simp) ?_
  refine AllReadyH.cons rfl (fun K hK => ?_) AllReadyH.nil
  go_simp
  refine (HG4.out _ (S7.out.cg.then hHeld)).mono ?_
  rintro e WE ⟨rfl, hc⟩
  have K2 := hY (hHeld.then hc)
  clear hc
  refine hK.out _ _ K2.out ?_
  clear hK hHeld K
  intro hHeld
  try (unfold Act.put; simp only [aS, aZ, aC])
  refine wpAnyH_ready (rs := [4]) (by kernel_rfl) (by simp) ?_
  refine AllReadyH.cons rfl (fun K hK => ?_) AllReadyH.nil
  go_simp
  refine (Hsts.out _ (S7.out.cg.then hHeld)).mono ?_
  rintro e W8 ⟨hg, sl, xs, rfl, hbu, hsi⟩
  have K4 := hY (hHeld.then hg)
  clear hg
  refine hK.out _ _ K4.out ?_
  clear hK hHeld K
  intro hHeld
  try (unfold Act.put; simp only [aS, aZ, aC])
  refine tkr 5 ?_ hHeld ?_ ?_
  rotate_left
  · intro w hSw
    go_simp
    try with_reducible rfl
  try simp only [Act.put, aS, aZ, aC]
  refine tkr 6 ?_ hHeld ?_ ?_
  rotate_left
  · intro w hSw
    go_simp
    try with_reducible rfl
  try simp only [Act.put, aS, aZ, aC]
  refine tkr 7 ?_ hHeld ?_ ?_
  rotate_left
  · intro w hSw
    go_simp
    try with_reducible rfl
  try simp only [Act.put, aS, aZ, aC]
  refine tkr 8 ?_ hHeld ?_ ?_
  rotate_left
  · intro w hSw
    go_simp
    try with_reducible rfl
  try simp only [Act.put, aS, aZ, aC]
  refine tkr 9 ?_ hHeld ?_ ?_
  rotate_left
  · intro w hSw
    go_simp
    try with_reducible rfl
  try simp only [Act.put, aS, aZ, aC]
  refine wpAnyH_done (by kernel_rfl) ?_ _
  refine NoPanic.normal ?_
  have S8 := hY (S7.out.pure hHeld)
  have B8 := hY (hbu)
  have I8 := hY (hsi)
  have BLO := hY ((S7.out.pure K2.out).r4.lt)
  clear hbu hsi S7 K2 K4 hHeld
  go_upto_region 14 with fail
  go_wp2_with (with_reducible refine Lay.alQ Tryz.tChn ?_)
  refine hY fun W9 b10 eb10 cb10 xb10 => ?_
  go_wp2_with ((with_reducible refine Lay.stQ Tryz.tChn (⟨sl, ⟨none, 0, 0⟩⟩ : Chn) (xb10.out) ?_ ?_ ?_); exact rfl; exact rfl)
  refine hY fun W0 cW0 xW0 => ?_
  have K0 : Hid (Chg [] W8 W0) := hY (cb10.out.new cW0.out (by rw [eb10.out]; exact Nat.le_refl _))
  have B410 : Hid (b4 < b10) := hY (by rw [eb10.out]; exact S8.out.r4.lt)
  have S0 := hY (S8.out.pure K0.out)
  have ST0 : Hid (staL.Rd W0 (.slice sl.a sl.n sl.cap) xs ∧ StsRd W0 xs ss) := hY (⟨(B8.out.pure K0.out).rd, (I8.out.pure K0.out).rd⟩)
  have STB : Hid (∀ j, (Value.slice sl.a sl.n sl.cap).ownBlock = some j → b4 < j ∧ j < b10) := hY (fun j hj => by rw [eb10.out]; exact ⟨Nat.lt_of_lt_of_le BLO.out (B8.out.lt j hj).1, (B8.out.lt j hj).2⟩)
  have SIB : Hid (∀ i, i < xs.length → ∀ j, (Value.slice (xs.getD i .zero).begins.a (xs.getD i .zero).begins.n (xs.getD i .zero).begins.cap).ownBlock = some j → b4 < j ∧ j < b10) := hY (fun i hi j hj => by rw [eb10.out]; exact ⟨Nat.lt_of_lt_of_le BLO.out ((I8.out.2 i hi).bg.lt j hj).1, ((I8.out.2 i hi).bg.lt j hj).2⟩)
  have X0 := hY (xW0.out)
  have U10 : Hid (b10 < W0.heap.size) := hY (xW0.out.lt)
  clear S8 B8 I8 K0 eb10 cb10 xb10 cW0 xW0
  go_wp2_with fail
  go_loopw [11] (fun s11 wr => ∃ (k : Nat) (acc : List Imp) (sl2 : SlV), k ≤ N ∧ s11 = .int .u64 (k : Int) ∧ impC B d fm nms (N - k) (ims + k * z) acc = impC B d fm nms N ims [] ∧ RcW w wr bm b4 m ∧ chnL.Box wr b10 ⟨sl, sl2⟩ ∧ impL.Buf 59 wr W0.heap.size (.slice sl2.a sl2.n sl2.cap) acc ∧ acc.length = k ∧ W0.heap.size ≤ wr.heap.size ∧ Chg [b10] W0 wr) (fun s11 _ => N - (intOf s11).toNat)
  case atStart => exact ⟨0, [], ⟨none, 0, 0⟩, Nat.zero_le _, rfl, by rw [Nat.zero_mul]; rfl, S0.out, X0.out, Lay.Buf.nil _ _, rfl, Nat.le_refl _, Chg.refl _ _⟩
  case round =>
    obtain ⟨k, acc, sl2, hk, rfl, him, hsw, hbx, hbu, hal, hsz, hkw⟩ := hrel
    by_cases hlt : k < N
    · have hwk : IntKind.u64.wrap ((k : Int) + 1) = (k : Int) + 1 := by have := HN.out; rw [IntKind.wrap_u64]; omega
      obtain ⟨r, hr⟩ : ∃ r, N - k = r + 1 := ⟨N - k - 1, by omega⟩
      rw [hr, impC_succ] at him
      have hr2 : N - (k + 1) = r := by omega
      have hkz := kz_b hlt HN.out Hs3.out
      have hb2 := Hb2.out
      have hz3 := Hs3.out
      have hml : k * z + z = (k + 1) * z := by rw [Nat.add_mul, Nat.one_mul]
      have hmi : ((k * z : Nat) : Int) = (k : Int) * (z : Int) := Int.natCast_mul ..
      obtain ⟨kz, hkzd⟩ : ∃ kz, kz = k * z := ⟨_, rfl⟩
      rw [← hkzd] at him hkz hml hmi
      have wZ : IntKind.u64.wrap (z : Int) = (z : Int) := by rw [IntKind.wrap_u64]; omega
      have wM : IntKind.u64.wrap ((k : Int) * (z : Int)) = (kz : Int) := by rw [← hmi, IntKind.wrap_u64]; omega
      obtain ⟨p, hp⟩ : ∃ p, p = ims + kz := ⟨_, rfl⟩
      have wP : IntKind.u64.wrap ((ims : Int) + (kz : Int)) = (p : Int) := by rw [IntKind.wrap_u64]; omega
      have wPz : IntKind.u64.wrap ((p : Int) + (z : Int)) = ((p + z : Nat) : Int) := by rw [IntKind.wrap_u64]; omega
      have wL : IntKind.u64.wrap (L : Int) = (L : Int) := by rw [IntKind.wrap_u64]; omega
      rw [← hp] at him
      have hpn : ims + (k + 1) * z = p + z := by omega
      by_cases h2 : p + z ≤ L
      case neg =>
        have HB : Hid (R = .bad 3) := hY (by rw [HR.out, ← him, ← Hzz.out, if_neg (by rw [HL.out]; exact h2)]; rfl)
        have d3 : decide (L < p + z) = true := decide_eq_true (by omega)
        have d3' : L < p + z := by omega
        have Him := hY him
        have Hsw := hY hsw
        have Hbx := hY hbx
        have Hbu := hY hbu
        have Hal := hY hal
        have Hsz := hY hsz
        have Hkw := hY hkw
        have Hr := hY hr
        have Hr2 := hY hr2
        have Hkz := hY hkz
        have Hkzd := hY hkzd
        have Hb2 := hY hb2
        have Hz3 := hY hz3
        have Hml := hY hml
        have Hmi := hY hmi
        have Hp := hY hp
        have Hpn := hY hpn
        clear him hsw hbx hbu hal hsz hkw hr hr2 hkz hkzd hb2 hz3 hml hmi hp hpn
        go_wp2_with fail
        refine (HG8.out _ Hsw.out.cg).mono ?_
        rintro e W10 ⟨rfl, hc⟩
        have S10 := hY (Hsw.out.pure hc)
        clear hc
        go_wp2_with fail
        refine (HSZ.out _).mono ?_
        rintro e W11 ⟨rfl, hc⟩
        have S11 := hY (S10.out.pure hc)
        clear hc
        go_wp2_with fail
        refine (HSZ.out _).mono ?_
        rintro e W12 ⟨rfl, hc⟩
        have S12 := hY (S11.out.pure hc)
        clear hc
        go_upto_region 20 with fail
        go_wp2_with ((with_reducible refine Lay.stQ Tryz.tChn Chn.zero (S12.out.r4) ?_ ?_ ?_); exact rfl; exact rfl)
        refine hY fun WZ cWZ xWZ => ?_
        go_step
        go_step
        rename_i hK0
        refine hK0 _ _ ?_
        refine wpList_nil ?_
        rename_i hKK _
        refine hKK _ _ ?_
        try (unfold Act.put; simp only [aS, aZ, aC])
        refine wp_ret ?_
        show bodyPost _ _ _ .ret _ _
        refine Lay.ret2 Tryz.tChn Tryz.results20 xWZ.out rfl rfl ?_
        exact chP_bad HB.out (S12.out.cg.new cWZ.out S12.out.l4)
      case pos =>
      rw [← Hzz.out, if_pos (by rw [HL.out]; exact h2)] at him
      have d3' : ¬ L < p + z := by omega
      have d3 : decide (L < p + z) = false := decide_eq_false d3'
      have hrw := HRD.out wr hsw.cg
      obtain ⟨dd, off, rfl, _⟩ := hrw.at (by rw [HL.out]; omega)
      obtain ⟨nm, hnm, hnb, hsy⟩ := rawS_nm (fm := fm) (B := B) (p := p) (by rw [← Hzz.out, HL.out]; exact h2)
      have hrs := HRS.out p h2
      obtain ⟨x, hx⟩ : ∃ x, x = rawS fm (cs B p) := ⟨_, rfl⟩
      rw [← hx] at him hnm hsy hrs
      obtain ⟨xo, xw, xs2, xa, xn⟩ := x
      dsimp only at hnm hsy him
      subst hnm hsy
      rw [Int.toNat_natCast] at him
      have hll : ((B.drop p).take z).length = z := by rw [List.length_take, List.length_drop, HL.out]; omega
      have HON : Hid (∀ W, Chg [] w W → Calls Tryz.prog 32 #[.slice (some ⟨dd, off + p, none⟩) z (cap - p), .int .i64 fm] W (OneP W ⟨xo, xw, ⟨#[]⟩, xa, (nm : Int)⟩)) := by
        refine hY ?_
        intro W hW
        have h := HONE.out ((B.drop p).take z) hll (.slice (some ⟨dd, off + p, none⟩) z (cap - p)) W (Rd_sub (HRD.out W hW) p z (cap - p) (by rw [HL.out]; omega) (by omega) (by unfold maxLen; omega))
        rw [hrs] at h
        exact h
      have hord := HORD.out xo
      obtain ⟨q3, hq3⟩ : ∃ q3, q3 = nms + nm := ⟨_, rfl⟩
      rw [← hq3] at him
      have hb3 := Hb3.out
      have wN : IntKind.u64.wrap ((nm : Int) + (nms : Int)) = (q3 : Int) := by rw [IntKind.wrap_u64]; omega
      have hcp : ¬ (cap - p = 0) := by omega
      have hcz : ¬ (p + z - p = 0) := by omega
      obtain ⟨ad, nd, cd⟩ := sl2
      obtain ⟨_, _, he, _, _⟩ := hbu.rd.shape
      cases he
      have Him := hY him
      have Hsw := hY hsw
      have Hbx := hY hbx
      have Hbu := hY hbu
      have Hal := hY hal
      have Hsz := hY hsz
      have Hkw := hY hkw
      have Hr := hY hr
      have Hr2 := hY hr2
      have Hkz := hY hkz
      have Hkzd := hY hkzd
      have Hb2 := hY hb2
      have Hz3 := hY hz3
      have Hml := hY hml
      have Hmi := hY hmi
      have Hp := hY hp
      have Hpn := hY hpn
      have Hrw := hY hrw
      have Hrs := hY hrs
      have Hx := hY hx
      have Hnb := hY hnb
      have Hll := hY hll
      have Hb3 := hY hb3
      have Hq3 := hY hq3
      have Hord := hY hord
      clear him hsw hbx hbu hal hsz hkw hr hr2 hkz hkzd hb2 hz3 hml hmi hp hpn hrw hrs hx hnb hll hb3 hq3 hord
      go_wp2_with fail
      refine (HG8.out _ Hsw.out.cg).mono ?_
      rintro e W10 ⟨rfl, hc⟩
      have S10 := hY (Hsw.out.pure hc)
      have J10 := hY (((Chg.refl [] wr)).then hc)
      clear hc
      go_wp2_with fail
      refine (HSZ.out _).mono ?_
      rintro e W11 ⟨rfl, hc⟩
      have S11 := hY (S10.out.pure hc)
      have J11 := hY ((J10.out).then hc)
      clear hc
      go_wp2_with fail
      refine (HSZ.out _).mono ?_
      rintro e W12 ⟨rfl, hc⟩
      have S12 := hY (S11.out.pure hc)
      have J12 := hY ((J11.out).then hc)
      clear hc
      go_wp2_with fail
      refine (HSZ.out _).mono ?_
      rintro e W13 ⟨rfl, hc⟩
      have S13 := hY (S12.out.pure hc)
      have J13 := hY ((J12.out).then hc)
      clear hc
      go_wp2_with fail
      refine (HON.out W13 S13.out.cg).mono ?_
      rintro e W14 ⟨rfl, hc⟩
      have S14 := hY (S13.out.pure hc)
      have J14 := hY (J13.out.then hc)
      clear hc S10 S11 S12 S13 J10 J11 J12 J13 wM wP wPz wZ
      go_wp2_with (with_reducible refine Lay.alQ Tryz.tImp ?_)
      refine hY fun W15 b13 eb13 cb13 xb13 => ?_
      go_wp2_with ((with_reducible refine Lay.stQ Tryz.tImp (⟨xo, xw, ⟨#[]⟩, xa⟩ : Imp) (xb13.out) ?_ ?_ ?_); exact rfl; exact rfl)
      refine hY fun W16 cW16 xW16 => ?_
      have hb13 : W14.heap.size ≤ b13 := by rw [eb13.out]; exact Nat.le_refl _
      have K16 : Hid (Chg [] W14 W16) := hY (cb13.out.new cW16.out hb13)
      have J16 := hY (J14.out.then K16.out)
      have S16 := hY (S14.out.pure K16.out)
      have X16 := hY (Hbx.out.frame J16.out)
      have U16 := hY (Hbu.out.pure J16.out)
      have Z16 := hY (Nat.le_trans Hsz.out J16.out.size)
      have KW16 := hY (Hkw.out.then J16.out)
      have Y16 := hY (xW16.out)
      have G13 : Hid (W0.heap.size ≤ b13) := hY (Nat.le_trans (Nat.le_trans Hsz.out J14.out.size) hb13)
      have NOB : Hid (∀ j, (Value.slice ad acc.length cd).ownBlock = some j → j < b13) := hY (fun j hj => Nat.lt_of_lt_of_le (Hbu.out.lt j hj).2 (Nat.le_trans J14.out.size hb13))
      clear S14 J14 K16 J16 Hsw Hbx Hbu Hsz Hkw eb13 cb13 xb13 cW16 xW16 hb13
      have x0 := Imp.c_ord Y16.out
      go_wp2_with ((with_reducible refine Lay.ldQ Tryz.tImg m (S16.out.im.in) ?_ ?_); exact rfl)
      refine hY ?_
      go_wp2_with fail
      refine (Hord.out _).mono ?_
      rintro e W17 ⟨rfl, hc⟩
      have S17 := hY (S16.out.pure hc)
      have J17 := hY (hc)
      clear hc x0 S16
      by_cases hor : ordB xo d = true
      case neg =>
        have hor2 : ordB xo d = false := by simpa using hor
        have HB : Hid (R = .bad 22) := hY (by rw [HR.out, ← Him.out, if_neg hor]; rfl)
        have Hor := hY hor
        clear hor
        go_upto_region 23 with fail
        go_wp2_with ((with_reducible refine Lay.stQ Tryz.tChn Chn.zero (S17.out.r4) ?_ ?_ ?_); exact rfl; exact rfl)
        refine hY fun WZ cWZ xWZ => ?_
        go_step
        go_step
        rename_i hK0
        refine hK0 _ _ ?_
        refine wpList_nil ?_
        rename_i hKK _
        refine hKK _ _ ?_
        try (unfold Act.put; simp only [aS, aZ, aC])
        refine wp_ret ?_
        show bodyPost _ _ _ .ret _ _
        refine Lay.ret2 Tryz.tChn Tryz.results20 xWZ.out rfl rfl ?_
        exact chP_bad HB.out (S17.out.cg.new cWZ.out S17.out.l4)
      case pos =>
      have him2 := Him.out
      rw [if_pos hor] at him2
      have Him2 := hY him2
      clear him2
      go_wp2_with fail
      refine (HG12.out _ S17.out.cg).mono ?_
      rintro e W18 ⟨rfl, hc⟩
      have S18 := hY (S17.out.pure hc)
      have J18 := hY ((J17.out).then hc)
      clear hc
      clear S17 J17 hor
      by_cases h5 : q3 ≤ L
      case neg =>
        have hnn : nameC B q3 = none := by unfold nameC; rw [if_neg (fun h => h5 (by rw [← HL.out]; exact h.1))]
        have HB : Hid (R = .bad 10) := hY (by rw [HR.out, ← Him2.out, hnn]; rfl)
        have d5 : decide (L < q3) = true := decide_eq_true (by omega)
        have d5' : L < q3 := by omega
        have H5 := hY h5
        have Hnn := hY hnn
        clear h5 hnn
        go_upto_region 26 with fail
        go_wp2_with ((with_reducible refine Lay.stQ Tryz.tChn Chn.zero (S18.out.r4) ?_ ?_ ?_); exact rfl; exact rfl)
        refine hY fun WZ cWZ xWZ => ?_
        go_step
        go_step
        rename_i hK0
        refine hK0 _ _ ?_
        refine wpList_nil ?_
        rename_i hKK _
        refine hKK _ _ ?_
        try (unfold Act.put; simp only [aS, aZ, aC])
        refine wp_ret ?_
        show bodyPost _ _ _ .ret _ _
        refine Lay.ret2 Tryz.tChn Tryz.results20 xWZ.out rfl rfl ?_
        exact chP_bad HB.out (S18.out.cg.new cWZ.out S18.out.l4)
      case pos =>
      have d5 : decide (L < q3) = false := decide_eq_false (by omega)
      have d5' : ¬ L < q3 := by omega
      have hbl : B.length ≤ 140737488355328 := by rw [HL.out]; exact HBL.out
      have hqb : q3 ≤ B.length := by rw [HL.out]; exact h5
      have hns := name_st B q3 hqb
      have HTXT := hY (fun c W h rd => RText_at c (some ⟨dd, off, none⟩) B hbl cap q3 (.bool false) W h rd hqb)
      rw [HL.out] at HTXT
      have wQ := wQ_of h5 hl2
      have Hbl := hY hbl
      have Hqb := hY hqb
      have Hns := hY hns
      have H5 := hY h5
      clear hbl hqb hns h5
      go_wp2_with fail
      obtain ⟨w1, hw1⟩ : ∃ x, x = W18.alloc (.cells #[.slice (some ⟨dd, off, none⟩) L cap, .int .i64 (q3 : Nat), .bool false, .bool false] 133) := ⟨_, rfl⟩
      obtain ⟨c, hc⟩ : ∃ x, x = W18.heap.size := ⟨_, rfl⟩
      have HBK : Hid (w1.heap[c]? = some (.cells #[.slice (some ⟨dd, off, none⟩) L cap, .int .i64 (q3 : Nat), .bool false, .bool false] 133 (0, 0))) := hY (by rw [hw1, hc]; exact heap_alloc_eq _ _)
      have JW1 : Hid (Chg [] W18 w1) := hY (by rw [hw1]; exact (Chg.refl _ _).alloc _)
      have CS : Hid (W18.heap.size ≤ c) := hY (Nat.le_of_eq hc.symm)
      rw [← hc, ← hw1]
      clear hc hw1
      refine (HTXT.out c w1 HBK.out (HRD.out w1 (S18.out.cg.then JW1.out))).mono ?_
      rintro e W19 ⟨rfl, hb3c, hc⟩
      have J19 : Hid (Chg [] W18 W19) := hY (JW1.out.new hc CS.out)
      have S19 := hY (S18.out.pure J19.out)
      have L19 := hY (J18.out.then J19.out)
      have Y19 := hY (Y16.out.frame L19.out)
      have BAD3 := hY hb3c
      clear hb3c
      have hcb13 : b13 ≠ c := Nat.ne_of_lt (Nat.lt_of_lt_of_le (Y16.out.frame J18.out).lt CS.out)
      clear hc S18 J18 J19 JW1 CS HBK Y16 wQ
      obtain ⟨sy, hsy⟩ : ∃ sy, sy = (⟨(textL (cs B q3) 255).toArray⟩ : ByteArray) := ⟨_, rfl⟩
      rw [← hsy]
      have HSY := hY hsy
      clear hsy
      have y2 := Imp.c_sym Y19.out
      have z2 := Y19.out.frozen 2
      go_upto_region 29 with fail
      refine Lay.with_world (fun W' => impL.Box W' b13 ⟨xo, xw, sy, xa⟩ ∧ Chg [b13] W19 W') ⟨Imp.set_sym Y19.out sy, (Chg.refl [b13] _).setCell _ _ (.inl (List.mem_singleton.2 rfl))⟩ (fun WA hWA => ?_)
      have YA := hY (hWA.1)
      have CA := hY (hWA.2)
      have badA := CA.out.cell BAD3.out (fun hm => hcb13 (List.mem_singleton.1 hm).symm)
      clear hWA y2 z2 Y19 BAD3
      have B4L : Hid (b4 < b13) := hY (Nat.lt_of_lt_of_le (Nat.lt_trans B410.out U10.out) G13.out)
      have B10L : Hid (b10 < b13) := hY (Nat.lt_of_lt_of_le U10.out G13.out)
      have SA := hY (S19.out.high CA.out (gt_one B4L.out))
      have XA := hY ((X16.out.frame L19.out).frameS CA.out (fun hm => Nat.lt_irrefl _ (Nat.lt_of_lt_of_le B10L.out (Nat.le_of_eq (List.mem_singleton.1 hm).symm))))
      have UA := hY ((U16.out.pure L19.out).frame CA.out (fun j hj hm => Nat.lt_irrefl _ (Nat.lt_of_lt_of_le (NOB.out j hj) (Nat.le_of_eq (List.mem_singleton.1 hm).symm))))
      have ZA := hY (Nat.le_trans (Nat.le_trans Z16.out L19.out.size) CA.out.size)
      have KWA := hY ((KW16.out.then L19.out).trans CA.out (fun i hi hw => absurd hw (Nat.not_lt.2 (by rw [List.mem_singleton.1 hi]; exact G13.out))))
      clear S19 X16 U16 Z16 KW16 L19 CA NOB
      rcases Hns.out with ⟨sx, hn, hok, htl, hne⟩ | ⟨hn, hok⟩ | ⟨hn, hok, htl⟩
      · have him3 := Him2.out
        rw [hn] at him3
        dsimp only at him3
        have hsy := HSY.out
        rw [htl] at hsy
        rw [← hsy] at him3
        rw [hok] at badA
        have e5n : ¬ sy.toList = [] := by
          rw [hsy, Lib.toList_data]
          intro e
          exact hne (by rw [show sx = [] from e]; rfl)
        have e5e : sy.toList.isEmpty = false := by cases e : sy.toList with | nil => exact absurd e e5n | cons a b => rfl
        have Him3 := hY him3
        have Hn := hY hn
        have Hok := hY hok
        have Htl := hY htl
        have Hne := hY hne
        have HSY2 := hY hsy
        have BADA := hY badA
        clear him3 hn hok htl hne hsy badA
        have badA := BADA.out
        have badA2 : WA.cell? ⟨c, 3, none⟩ = some (.bool false) := badA
        clear badA
        have y2 := Imp.c_sym YA.out
        go_upto_region 31 with fail
        clear y2 badA2 e5n e5e
        obtain ⟨xi, hxi⟩ : ∃ xi : Imp, xi = ⟨xo, xw, sy, xa⟩ := ⟨_, rfl⟩
        rw [← hxi] at YA
        have Hxi := hY hxi
        clear hxi
        have y1 := Chn.c_imps XA.out
        go_wp2_with ((with_reducible refine Lay.ldQ Tryz.tImp xi (YA.out.in) ?_ ?_); exact rfl)
        refine hY ?_
        go_wp2_with ((with_reducible refine bs1 (xi) ((imp_built xi)) ?_ ?_ ?_); exact rfl; exact rfl; intro VA va cva rva; replace cva := hY cva; replace rva := hY rva; refine Hid.out ?_)
        refine hY ?_
        have UV := hY (UA.out.pure cva.out)
        go_wp2_with (at_builtin; go_must (refine Lay.app (L := impL) Tryz.infoImp rfl _ _ rfl W0.heap.size (.slice ad acc.length cd) acc rfl UV.out _ rfl [xi] rva.out (app_imp Hal.out hlt HN.out xi).1 (app_imp Hal.out hlt HN.out xi).2 (Nat.le_trans ZA.out cva.out.size) ?_); intro vb VB hov hgv hlc; refine Hid.out ?_)
        refine hY ?_
        have DB : Hid (Chg (Value.slice ad acc.length cd).ownBlock.toList WA VB) := hY (cva.out.add.same (Lay.chg_grown hgv))
        have SB : Hid (∀ i ∈ (Value.slice ad acc.length cd).ownBlock.toList, W0.heap.size ≤ i) := hY (fun i hi => (UA.out.lt i (Option.mem_toList.1 hi)).1)
        obtain ⟨ab, cb, rfl, hb1, hb2⟩ := hov.rd.shape
        have hlen1 : (acc ++ [xi]).length = k + 1 := by rw [List.length_append, Hal.out]; rfl
        rw [hlen1] at hov ⊢
        have UB := hY hov
        have Hlen1 := hY hlen1
        clear hov hlen1
        clear hgv hlc y1 UA UV cva rva hb1 hb2 YA
        have XB := hY (XA.out.frameS DB.out (nin_own U10.out SB.out))
        have SWB := hY (SA.out.high DB.out (gt_own (Nat.lt_trans B410.out U10.out) SB.out))
        have HZB := hY (Nat.le_trans ZA.out DB.out.size)
        have KWB := hY (KWA.out.trans DB.out (fun i hi hw => absurd hw (Nat.not_lt.2 (SB.out i hi))))
        clear XA SA ZA KWA DB SB
        have y1 := Chn.c_imps XB.out
        have z1 := XB.out.frozen 1
        go_wp2
        go_roundw
        case rel =>
          have kk : Chg [b10] VB (VB.setCell ⟨b10, 1, none⟩ (.slice ab (k + 1) cb)) := (Chg.refl [b10] _).setCell _ _ (.inl (List.mem_singleton.2 rfl))
          exact ⟨k + 1, acc ++ [xi], ⟨ab, k + 1, cb⟩, hlt, by first | rfl | exact congrArg (Value.int .u64) hwk | go_num, by rw [Hr2.out, Hpn.out, Hxi.out]; exact Him3.out, SWB.out.high kk (gt_one B410.out), Chn.set_imps XB.out ⟨ab, k + 1, cb⟩, UB.out.frame kk (fun b hb hm => absurd (UB.out.lt b hb).1 (nle_one U10.out hm)), Hlen1.out, Nat.le_trans HZB.out kk.size, KWB.out.trans kk (fun i hi hw => hi)⟩
        case measure => first | exact measR_u hwk hlt | exact measR_d hlt
      · have HB : Hid (R = .bad 10) := hY (by rw [HR.out, ← Him2.out, hn]; rfl)
        rw [hok] at badA
        have badA2 : WA.cell? ⟨c, 3, none⟩ = some (.bool true) := badA
        clear badA
        have Hn := hY hn
        have Hok := hY hok
        clear hn hok
        have y2 := Imp.c_sym YA.out
        go_upto_region 30 with fail
        go_wp2_with ((with_reducible refine Lay.stQ Tryz.tChn Chn.zero (SA.out.r4) ?_ ?_ ?_); exact rfl; exact rfl)
        refine hY fun WZ cWZ xWZ => ?_
        go_step
        go_step
        rename_i hK0
        refine hK0 _ _ ?_
        refine wpList_nil ?_
        rename_i hKK _
        refine hKK _ _ ?_
        try (unfold Act.put; simp only [aS, aZ, aC])
        refine wp_ret ?_
        show bodyPost _ _ _ .ret _ _
        refine Lay.ret2 Tryz.tChn Tryz.results20 xWZ.out rfl rfl ?_
        exact chP_bad HB.out (SA.out.cg.new cWZ.out SA.out.l4)
      · have HB : Hid (R = .bad 10) := hY (by rw [HR.out, ← Him2.out, hn]; rfl)
        rw [hok] at badA
        have badA2 : WA.cell? ⟨c, 3, none⟩ = some (.bool false) := badA
        have hsy := HSY.out
        rw [htl] at hsy
        have e5n : sy.toList = [] := by rw [hsy, Lib.toList_data]
        have e5e : sy.toList.isEmpty = true := by rw [e5n]; rfl
        clear badA
        have Hn := hY hn
        have Hok := hY hok
        have Htl := hY htl
        have Hsy := hY hsy
        clear hn hok htl hsy
        have y2 := Imp.c_sym YA.out
        go_upto_region 30 with fail
        go_wp2_with ((with_reducible refine Lay.stQ Tryz.tChn Chn.zero (SA.out.r4) ?_ ?_ ?_); exact rfl; exact rfl)
        refine hY fun WZ cWZ xWZ => ?_
        go_step
        go_step
        rename_i hK0
        refine hK0 _ _ ?_
        refine wpList_nil ?_
        rename_i hKK _
        refine hKK _ _ ?_
        try (unfold Act.put; simp only [aS, aZ, aC])
        refine wp_ret ?_
        show bodyPost _ _ _ .ret _ _
        refine Lay.ret2 Tryz.tChn Tryz.results20 xWZ.out rfl rfl ?_
        exact chP_bad HB.out (SA.out.cg.new cWZ.out SA.out.l4)
    · obtain rfl : k = N := by omega
      rw [Nat.sub_self] at him
      have HBO : Hid (R = .ok (ss, acc)) := hY (by rw [HR.out, ← him]; rfl)
      have Him := hY him
      have Hsw := hY hsw
      have Hbx := hY hbx
      have Hbu := hY hbu
      have Hal := hY hal
      have Hsz := hY hsz
      have Hkw := hY hkw
      clear him hsw hbx hbu hal hsz hkw
      go_upto_region 32 with fail
      go_wp2_with ((with_reducible refine Lay.ldQ Tryz.tChn (⟨sl, sl2⟩ : Chn) (Hbx.out.in) ?_ ?_); exact rfl)
      refine hY ?_
      go_wp2_with ((with_reducible refine Lay.stQ Tryz.tChn (⟨sl, sl2⟩ : Chn) (Hsw.out.r4) ?_ ?_ ?_); exact rfl; exact rfl)
      refine hY fun WZ cWZ xWZ => ?_
      go_step
      go_step
      rename_i hK0
      refine hK0 _ _ ?_
      refine wpList_nil ?_
      rename_i hKK _
      refine hKK _ _ ?_
      try (unfold Act.put; simp only [aS, aZ, aC])
      refine wp_ret ?_
      refine Lay.ret2 Tryz.tChn Tryz.results20 xWZ.out rfl rfl ?_
      rw [HBO.out]
      have hl4 := Hsw.out.l4
      have h410 := B410.out
      have hu := U10.out
      have kz2 : Chg [b10, b4] W0 WZ := (Hkw.out.mono (fun i hi _ => by rw [List.mem_singleton] at hi; rw [hi]; exact List.mem_cons_self ..)).trans cWZ.out (fun i hi _ => by rw [List.mem_singleton] at hi; rw [hi]; exact List.mem_cons_of_mem _ (List.mem_cons_self ..))
      refine ⟨Hsw.out.cg.new cWZ.out hl4, ⟨sl, sl2⟩, rfl, xs, ⟨?_, ?_, (Hbu.out.frame cWZ.out (fun j hj hm => by have := (Hbu.out.lt j hj).1; rw [List.mem_singleton] at hm; omega)).rd⟩, fun j hj => Nat.le_trans hl4 (Nat.le_of_lt (STB.out j hj).1), fun i hi j hj => Nat.le_trans hl4 (Nat.le_of_lt (SIB.out i hi j hj).1), fun j hj => Nat.le_trans (by omega) (Hbu.out.lt j hj).1⟩
      · exact ST0.out.1.frameS kz2 (fun j hj hm => nin_two (STB.out j hj) hm)
      · exact ST0.out.2.frameS kz2 (fun i hi j hj hm => nin_two (SIB.out i hi j hj) hm)
theorem rcread_gen (B : List UInt8) (hl2 : B.length ≤ 2147483647) (m : Img) (ls : List Seg) (hls : SegsB ls) (hend : ∀ k, k < ls.length → (ls.getD k .zero).size ≤ 140737488355328) (hn1 : ls.length ≤ 1048576) (v : Value) (w : World) (rd : byteL.Rd w v B) (rdS : segL.Rd w m.segs.v ls) :
  Calls Tryz.prog 20 #[v, imgL.val m] w (ChP w (readC B ls m.deps.n)) := by
 by_cases h1 : 28 ≤ B.length
 ·by_cases h2 : WN B 0 4 = 0 ∧ WN B 24 4 = 0
  ·by_cases h3 : WN B 20 4 = 1 ∨ WN B 20 4 = 2 ∨ WN B 20 4 = 3
   ·by_cases h4 : WN B 16 4 ≤ 4096
    ·exact rcread_main B h1 hl2 h2 h3 h4 m ls _ (by unfold readC; rw [if_pos h1, if_pos h2, if_pos h3, if_pos h4]) hls hend hn1 v w rd rdS
    ·exact rcread_head B h1 hl2 _ (.inr ⟨h2, .inr ⟨h3, h4, by unfold readC; rw [if_pos h1, if_pos h2, if_pos h3, if_neg h4]⟩⟩) m v w rd
   ·exact rcread_head B h1 hl2 _ (.inr ⟨h2, .inl ⟨h3, by unfold readC; rw [if_pos h1, if_pos h2, if_neg h3]⟩⟩) m v w rd
  ·exact rcread_head B h1 hl2 _ (.inl ⟨h2, by unfold readC; rw [if_pos h1, if_neg h2]⟩) m v w rd
 ·exact rcread_short B (by omega) _ (by unfold readC; rw [if_neg h1]) m v w rd
end Go.Proofs.YtiljokmkiolpgaaGreatDoor
