/- Lemmas, laid together: part 29 of 42. Conditions: none but each lemma's own. -/
import Derived.Test.YtiljokmkiolpgaaGreatDoorJ28
import Derived.Test.YtiljokmkiolpgaaGreatDoorJ15
import Derived.Test.YtiljokmkiolpgaaGreatDoorJ4
import Derived.Test.YtiljokmkiolpgaaGreatDoorJ1
namespace Go.Proofs.YtiljokmkiolpgaaGreatDoor
open Go.RowKit
set_option maxRecDepth 100000
theorem measR_d {L k : Nat} (h : k < L) : L - (intOf (.int .u64 ((k : Int) + 1))).toNat < L - (intOf (.int .u64 (k : Int))).toNat := by
 show L - ((k : Int) + 1).toNat < L - (k : Int).toNat
 omega
theorem app_len {acc : List Int} {k n : Nat} (h : acc.length = k) (hk : k < n) (hn : n < 65536) (z : Int) : (acc.length + [z].length) * 8 ≤ 140737488355328 ∧ acc.length + [z].length ≤ 9223372036854775807 := by
 rw [h, List.length_singleton]
 omega
theorem nin_own {b n : Nat} {S : List Nat} (h : b < n) (hS : ∀ i ∈ S, n ≤ i) : b ∉ S := fun hm => by have := hS b hm; omega
theorem gt_own {b n : Nat} {S : List Nat} (h : b < n) (hS : ∀ i ∈ S, n ≤ i) : ∀ i ∈ S, b < i := fun i hi => by have := hS i hi; omega
theorem gt_one {b c : Nat} (h : b < c) : ∀ i ∈ [c], b < i := fun i hi => by rw [List.mem_singleton] at hi; omega
theorem nle_one {b c n : Nat} (h : c < n) (hm : b ∈ [c]) : ¬ n ≤ b := by rw [List.mem_singleton] at hm; omega
def RStP (w : World) (r : ChR StP) (e : Ending) (w' : World) : Prop :=
 Chg [] w w' ∧ match r with
 | .ok s => ∃ x, e = .returned (.tuple #[staL.val x, .int .i64 0]) ∧ StaIn w' w.heap.size x s
 | .bad n => e = .returned (.tuple #[staL.val .zero, .int .i64 n])
structure RsW (w W : World) (bm b8 : Nat) (m : Img) : Prop where
 im : imgL.Box W bm m
 r8 : staL.Box W b8 .zero
 cg : Chg [] w W
 lo : w.heap.size ≤ bm
 hi : bm < b8
theorem RsW.l8 {w W : World} {bm b8 : Nat} {m : Img} (h : RsW w W bm b8 m) : w.heap.size ≤ b8 := by have := h.lo; have := h.hi; omega
theorem RsW.high {w W W' : World} {bm b8 : Nat} {m : Img} (h : RsW w W bm b8 m) {S : List Nat} (k : Chg S W W') (hS : ∀ i ∈ S, b8 < i) : RsW w W' bm b8 m := by
 have h2 := h.lo
 have h3 := h.hi
 exact ⟨h.im.frameS k (fun hm => by have := hS _ hm; omega), h.r8.frameS k (fun hm => by have := hS _ hm; omega), h.cg.trans k (fun i hi hw => by have := hS i hi; omega), h2, h3⟩
theorem RsW.pure {w W W' : World} {bm b8 : Nat} {m : Img} (h : RsW w W bm b8 m) (k : Chg [] W W') : RsW w W' bm b8 m := h.high k (fun _ hi => by cases hi)
set_option maxHeartbeats 8000000 in
theorem start15_any (B : List UInt8) (hB : B.length ≤ 2147483647) (v : Value) (q : Nat) (hq : q < 8589934592) (m : Img) (ls : List Seg) (hls : SegsB ls) (hend : ∀ k, k < ls.length → (ls.getD k .zero).size ≤ 140737488355328) (i : Nat) (hi : i < ls.length) (w : World) (rdB : byteL.Rd w v B) (rd : segL.Rd w m.segs.v ls) :
    Calls Tryz.prog 96 #[v, .int .u64 q, imgL.val m, .int .i64 i] w (RStP w (startC B ls i q)) := by
  obtain ⟨R, hR⟩ : ∃ R, R = startC B ls i q := ⟨_, rfl⟩
  rw [← hR]
  unfold startC at hR
  obtain ⟨av, capv, rfl, hv1, hv2⟩ := rdB.shape
  have HGN := hY (fun W (h : Chg [] w W) q m hm hq2 hq => Get15_no B (by omega) _ W (rdB.frame h) q m hm hq2 hq)
  have HGY := hY (fun W (h : Chg [] w W) q m hm hq => Get15_yes B (by omega) _ W (rdB.frame h) q m hm hq)
  have HGT := hY (fun W (h : Chg [] w W) q m hm hq => get15_any B (by omega) _ W (rdB.frame h) q m hm hq)
  have w20 : IntKind.u64.wrap ((q : Int) + 20) = ((q + 20 : Nat) : Int) := by rw [IntKind.wrap_u64]; omega
  by_cases h22 : q + 22 ≤ B.length
  case neg =>
    have HB : Hid (R = .bad 3) := hY (by rw [hR, if_neg h22])
    have HG := hY (fun W h => HGN.out W h (q + 20) 2 (.inl rfl) (by omega) (by omega))
    generalize hL : B.length = L at *
    have HL := hY hL
    have HR := hY hR
    have RdB := hY rdB
    have Rd := hY rd
    have H22 := hY h22
    have Hls := hY hls
    have Hend := hY hend
    clear hL hR rdB rd h22 hls hend
    go_enter Tryz.func96, Tryz.ntmps96
    go_wp2_with ((with_reducible refine Lay.bxQ (L := imgL) 32 m ?_ ?_); exact rfl)
    refine hY fun W1 bm ebm cbm xbm => ?_
    go_wp2_with (with_reducible refine Lay.alQ Tryz.tSta ?_)
    refine hY fun W2 b8 eb8 cb8 xb8 => ?_
    have S2 : Hid (RsW w W2 bm b8 m) := hY (⟨xbm.out.frame cb8.out, xb8.out, cbm.out.then cb8.out, by rw [ebm.out]; exact Nat.le_refl _, by rw [eb8.out]; exact xbm.out.lt⟩)
    clear ebm cbm xbm eb8 cb8 xb8
    go_wp2_with fail
    refine (HG.out _ S2.out.cg).mono ?_
    rintro e W3 ⟨rfl, hc⟩
    have S3 := hY (S2.out.pure hc)
    clear hc
    go_wp2_with ((with_reducible refine Lay.stQ Tryz.tSta Sta.zero (S3.out.r8) ?_ ?_ ?_); exact rfl; exact rfl)
    refine hY fun WZ cWZ xWZ => ?_
    go_step
    go_step
    rename_i hK0
    refine hK0 _ _ ?_
    refine wpList_nil ?_
    rename_i hKK _
    refine hKK _ _ ?_
    try (unfold Act.put; simp only [aS, aZ, aC])
    refine wp_ret ?_
    refine Lay.ret2 Tryz.tSta Tryz.results96 xWZ.out rfl rfl ?_
    rw [HB.out]
    exact ⟨S3.out.cg.new cWZ.out S3.out.l8, rfl⟩
  case pos =>
  rw [if_pos h22] at hR
  have b1 := WN_lt B q 4
  have b2 := WN_lt B (q + 4) 2
  have b3 := WN_lt B (q + 6) 2
  have b6' := WN_lt B (q + 20) 2
  obtain ⟨sg, hsg⟩ : ∃ sg, sg = ls.getD i .zero := ⟨_, rfl⟩
  have hsB := hls i hi
  have hsE := hend i hi
  rw [← hsg] at hsB hsE
  have HG0 := hY (fun W h => HGY.out W h (q + 20) 2 (.inl rfl) (by omega))
  have HGP := hY (fun W h => HGT.out W h (q + 4) 2 (.inl rfl) (by omega))
  have HGF := hY (fun W h => HGT.out W h (q + 6) 2 (.inl rfl) (by omega))
  have HG4 := hY (fun W h => HGT.out W h (q + 8) 8 (.inr (.inr rfl)) (by omega))
  have HG6 := hY (fun W h => HGT.out W h (q + 20) 2 (.inl rfl) (by omega))
  have HG1 := hY (fun W h => HGT.out W h q 4 (.inr (.inl rfl)) (by omega))
  obtain ⟨n1, e1⟩ : ∃ n1, n1 = WN B q 4 := ⟨_, rfl⟩
  obtain ⟨n2, e2⟩ : ∃ n2, n2 = WN B (q + 4) 2 := ⟨_, rfl⟩
  obtain ⟨n3, e3⟩ : ∃ n3, n3 = WN B (q + 6) 2 := ⟨_, rfl⟩
  obtain ⟨n4, e4⟩ : ∃ n4, n4 = WN B (q + 8) 8 := ⟨_, rfl⟩
  obtain ⟨n6, e6⟩ : ∃ n6, n6 = WN B (q + 20) 2 := ⟨_, rfl⟩
  rw [← e1] at HG1 b1
  rw [← e2] at HGP b2
  rw [← e3] at HGF b3
  rw [← e4] at HG4
  rw [← e6] at HG6 HG0 b6'
  rw [← e1, ← e2, ← e3, ← e4, ← e6, ← hsg] at hR
  obtain ⟨P, hP⟩ : ∃ P : Int, wrap64 (n2 : Int) = P := ⟨_, rfl⟩
  obtain ⟨F, hF⟩ : ∃ F : Int, wrap64 (n3 : Int) = F := ⟨_, rfl⟩
  have hP2 : P = (n2 : Int) := by rw [← hP]; unfold wrap64; omega
  have hF2 : F = (n3 : Int) := by rw [← hF]; unfold wrap64; omega
  have hPb : 0 ≤ P ∧ P < 65536 := by omega
  rw [← hP2, ← hF2] at hR
  have hpn : (n2 = 4096 ∨ n2 = 16384) ↔ (P = 4096 ∨ P = 16384) := by rw [hP2]; omega
  simp only [hpn] at hR
  obtain ⟨L, hL⟩ : ∃ L, L = lowS ls := ⟨_, rfl⟩
  rw [← hL] at hR
  obtain ⟨st, hst⟩ : ∃ st, st = strideF F := ⟨_, rfl⟩
  rw [← hst] at hR
  have HLO : Hid (∀ W, Chg [] w W → Calls Tryz.prog 31 #[imgL.val m] W fun e w' => e = .returned (.int .u64 L) ∧ Chg [] W w') := hY (fun W h => by rw [hL]; exact refLow_any m ls W (rd.frame h))
  have HHO := hY (fun W => refHole_any sg W)
  have HST := hY (fun W => rstride_any F W)
  rw [← hst] at HST
  have HPG := hY (fun W (h : P = 4096 ∨ P = 16384) => rpages_any sg hsB.2.1.1 hsE P h W)
  obtain ⟨pg, hpgs⟩ : ∃ pg, pg = pagesC sg.size P := ⟨_, rfl⟩
  rw [← hpgs] at HPG hR
  obtain ⟨sa, sn, sc, hse⟩ : ∃ a n c, m.segs = ⟨a, n, c⟩ := ⟨_, _, _, rfl⟩
  have hsa : m.segs.a = sa := by rw [hse]
  have hsn : m.segs.n = sn := by rw [hse]
  have hsc : m.segs.cap = sc := by rw [hse]
  obtain ⟨_, _, hv, hc1, hc2⟩ := rd.shape
  rw [hse] at hv
  unfold SlV.v at hv
  cases hv
  have hHSG : ∀ W, Chg [] w W → ∃ bS off, sa = some ⟨bS, off, none⟩ ∧ segL.In W bS (off + i * 7) sg := by
    intro W hW
    have h := rd.frame hW
    rw [hse] at h
    obtain ⟨bS, off, e, _, hcell⟩ := Lay.Rd.at h (by omega)
    exact ⟨bS, off, e, by rw [hsg]; exact hcell i hi⟩
  have HSG := hY (hHSG)
  have w4 : IntKind.u64.wrap ((q : Int) + 4) = ((q + 4 : Nat) : Int) := by rw [IntKind.wrap_u64]; omega
  have w6 : IntKind.u64.wrap ((q : Int) + 6) = ((q + 6 : Nat) : Int) := by rw [IntKind.wrap_u64]; omega
  have w8 : IntKind.u64.wrap ((q : Int) + 8) = ((q + 8 : Nat) : Int) := by rw [IntKind.wrap_u64]; omega
  have w9 : IntKind.u64.wrap (2 * (n6 : Int)) = 2 * (n6 : Int) := by rw [IntKind.wrap_u64]; omega
  have w9b : IntKind.u64.wrap (22 + 2 * (n6 : Int)) = 22 + 2 * (n6 : Int) := by rw [IntKind.wrap_u64]; omega
  have hN6 : n6 < 65536 := b6'
  have hQl : q + 22 ≤ B.length := h22
  generalize hLL : B.length = LL at *
  have HLL := hY hLL
  have RdB := hY rdB
  have Rd := hY rd
  have NB1 := hY b1
  have NB2 := hY b2
  have NB3 := hY b3
  have NB6 := hY b6'
  have HN6 := hY hN6
  have Hsg := hY hsg
  have HsB := hY hsB
  have HsE := hY hsE
  have HR := hY hR
  have Hls := hY hls
  have Hend := hY hend
  have E1 := hY e1
  have E2 := hY e2
  have E3 := hY e3
  have E4 := hY e4
  have E6 := hY e6
  have HP2 := hY hP2
  have HF2 := hY hF2
  have HPb := hY hPb
  have Hpn := hY hpn
  have HL := hY hL
  have Hst := hY hst
  have Hpgs := hY hpgs
  have Hse := hY hse
  have Hc1 := hY hc1
  have Hc2 := hY hc2
  have HHSG := hY hHSG
  have H22 := hY h22
  clear hLL rdB rd b1 b2 b3 b6' hN6 hsg hsB hsE hR hls hend e1 e2 e3 e4 e6 hP2 hF2 hPb hpn hL hst hpgs hse hc1 hc2 hHSG h22
  go_enter Tryz.func96, Tryz.ntmps96
  go_wp2_with ((with_reducible refine Lay.bxQ (L := imgL) 32 m ?_ ?_); exact rfl)
  refine hY fun W1 bm ebm cbm xbm => ?_
  go_wp2_with (with_reducible refine Lay.alQ Tryz.tSta ?_)
  refine hY fun W2 b8 eb8 cb8 xb8 => ?_
  have S2 : Hid (RsW w W2 bm b8 m) := hY (⟨xbm.out.frame cb8.out, xb8.out, cbm.out.then cb8.out, by rw [ebm.out]; exact Nat.le_refl _, by rw [eb8.out]; exact xbm.out.lt⟩)
  clear ebm cbm xbm eb8 cb8 xb8
  go_wp2_with fail
  refine (HG0.out _ S2.out.cg).mono ?_
  rintro e W3 ⟨rfl, hc⟩
  have S3 := hY (S2.out.pure hc)
  clear hc S2
  go_wp2_with fail
  refine (HGP.out _ S3.out.cg).mono ?_
  rintro e W3a ⟨rfl, hc⟩
  have S3a := hY (S3.out.pure hc)
  clear hc S3
  go_wp2_with fail
  refine (HGF.out _ S3a.out.cg).mono ?_
  rintro e W3b ⟨rfl, hc⟩
  have S3b := hY (S3a.out.pure hc)
  clear hc S3a
  go_wp2_with (with_reducible refine Lay.alQ Tryz.tSta ?_)
  refine hY fun W3c b12 eb12 cb12 xb12 => ?_
  go_wp2_with ((with_reducible refine Lay.stQ Tryz.tSta (⟨(i : Int), P, F, ⟨none, 0, 0⟩⟩ : Sta) (xb12.out) ?_ ?_ ?_); exact rfl; exact rfl)
  refine hY fun W4 cW4 xW4 => ?_
  have hb12 : b8 < b12 := by rw [eb12.out]; exact S3b.out.r8.lt
  have S4 := hY ((S3b.out.pure cb12.out).high cW4.out (by simp; omega))
  have X4 := hY (xW4.out)
  clear S3b cb12 eb12 xb12 cW4 xW4
  have x4 := Img.c_segs S4.out.im
  rw [hsa, hsn, hsc] at x4
  obtain ⟨bS, off, rfl, hsi⟩ := HSG.out W4 S4.out.cg
  have HI := hY hsi
  clear hsi
  go_wp2_with ((with_reducible refine Lay.ldQ Tryz.tSeg sg (HI.out) ?_ ?_); exact rfl)
  refine hY ?_
  go_wp2_with (with_reducible refine Lay.alQ Tryz.tSeg ?_)
  refine hY fun W4b b13 eb13 cb13 xb13 => ?_
  go_wp2_with ((with_reducible refine Lay.stQ Tryz.tSeg sg (xb13.out) ?_ ?_ ?_); exact rfl; exact rfl)
  refine hY fun W5 cW5 xW5 => ?_
  have hb13 : b12 < b13 := by rw [eb13.out]; exact X4.out.lt
  have S5 := hY ((S4.out.pure cb13.out).high cW5.out (by simp; omega))
  have X5 := hY ((X4.out.frame cb13.out).frameS cW5.out (by simp; omega))
  have X13 := hY (xW5.out)
  clear S4 X4 cb13 eb13 xb13 cW5 xW5 x4
  go_upto_region 6 with fail
  by_cases hok : holeS sg = false ∧ (n4 : Int) = IntKind.u64.wrap (sg.addr - L)
  case neg =>
    have HB : Hid (R = .bad 8) := hY (by rw [HR.out, if_neg hok])
    cases hh : holeS sg with
    | true =>
      rw [hh] at HHO
      have Hok := hY hok
      have Hh := hY hh
      clear hok hh
      refine wp_region_noPanic ?_
      refine wp_region_held_drew (S := fun w' => Chg [] W5 w') (by kernel_rfl) ((Chg.refl [] W5).drew) (fun hHeld => ?_)
      refine tkr 0 ?_ hHeld ?_ ?_
      rotate_left
      · intro w hSw
        refine Lay.read_ld Tryz.tSeg ((X13.out.frame hSw).in) ?_ ?_
        exact rfl
        exact rfl
      try simp only [Act.put, aS, aZ, aC]
      refine wpAnyH_ready (rs := [1]) (by kernel_rfl) (by simp) ?_
      refine AllReadyH.cons rfl (fun K hK => ?_) AllReadyH.nil
      go_simp
      refine (HHO.out _).mono ?_
      rintro e WE ⟨rfl, hc⟩
      have K1 := hY (hHeld.then hc)
      clear hc
      refine hK.out _ _ K1.out ?_
      clear hK hHeld K
      intro hHeld
      try (unfold Act.put; simp only [aS, aZ, aC])
      refine tkr 2 ?_ hHeld ?_ ?_
      rotate_left
      · intro w hSw
        go_simp
        try with_reducible rfl
      try simp only [Act.put, aS, aZ, aC]
      refine tkr 3 ?_ hHeld ?_ ?_
      rotate_left
      · intro w hSw
        go_simp
        try with_reducible rfl
      try simp only [Act.put, aS, aZ, aC]
      refine tkr 4 ?_ hHeld ?_ ?_
      rotate_left
      · intro w hSw
        go_simp
        try with_reducible rfl
      try simp only [Act.put, aS, aZ, aC]
      refine tkr 5 ?_ hHeld ?_ ?_
      rotate_left
      · intro w hSw
        go_simp
        try with_reducible rfl
      try simp only [Act.put, aS, aZ, aC]
      refine tkr 7 ?_ hHeld ?_ ?_
      rotate_left
      · intro w hSw
        go_simp
        try with_reducible rfl
      try simp only [Act.put, aS, aZ, aC]
      refine tkr 8 ?_ hHeld ?_ ?_
      rotate_left
      · intro w hSw
        go_simp
        try with_reducible rfl
      try simp only [Act.put, aS, aZ, aC]
      refine tkr 9 ?_ hHeld ?_ ?_
      rotate_left
      · intro w hSw
        go_simp
        try with_reducible rfl
      try simp only [Act.put, aS, aZ, aC]
      refine wpAnyH_ready (rs := [6]) (by kernel_rfl) (by simp) ?_
      refine AllReadyH.cons rfl (fun K hK => ?_) AllReadyH.nil
      go_simp
      refine hK.out _ _ hHeld ?_
      clear hK hHeld K
      intro hHeld
      try (unfold Act.put; simp only [aS, aZ, aC])
      refine wpAnyH_ready (rs := [10]) (by kernel_rfl) (by simp) ?_
      refine AllReadyH.cons rfl (fun K hK => ?_) AllReadyH.nil
      go_simp
      refine hK.out _ _ hHeld ?_
      clear hK hHeld K
      intro hHeld
      try (unfold Act.put; simp only [aS, aZ, aC])
      refine tkr 11 ?_ hHeld ?_ ?_
      rotate_left
      · intro w hSw
        go_simp
        try with_reducible rfl
      try simp only [Act.put, aS, aZ, aC]
      refine tkr 12 ?_ hHeld ?_ ?_
      rotate_left
      · intro w hSw
        go_simp
        try with_reducible rfl
      try simp only [Act.put, aS, aZ, aC]
      refine tkr 13 ?_ hHeld ?_ ?_
      rotate_left
      · intro w hSw
        go_simp
        try with_reducible rfl
      try simp only [Act.put, aS, aZ, aC]
      refine wpAnyH_done (by kernel_rfl) ?_ _
      refine NoPanic.normal ?_
      have SE := hY (S5.out.pure hHeld)
      go_upto_region 7 with fail
      go_wp2_with ((with_reducible refine Lay.stQ Tryz.tSta Sta.zero (SE.out.r8) ?_ ?_ ?_); exact rfl; exact rfl)
      refine hY fun WZ cWZ xWZ => ?_
      go_step
      go_step
      rename_i hK0
      refine hK0 _ _ ?_
      refine wpList_nil ?_
      rename_i hKK _
      refine hKK _ _ ?_
      try (unfold Act.put; simp only [aS, aZ, aC])
      refine wp_ret ?_
      show bodyPost _ _ _ .ret _ _
      refine Lay.ret2 Tryz.tSta Tryz.results96 xWZ.out rfl rfl ?_
      rw [HB.out]
      exact ⟨SE.out.cg.new cWZ.out SE.out.l8, rfl⟩
    | false =>
      have p3 : ((n4 : Int) != IntKind.u64.wrap (sg.addr - L)) = true := by rw [bne_iff_ne]; exact fun e => hok ⟨hh, e⟩
      rw [hh] at HHO
      have Hok := hY hok
      have Hh := hY hh
      clear hok hh
      refine wp_region_noPanic ?_
      refine wp_region_held_drew (S := fun w' => Chg [] W5 w') (by kernel_rfl) ((Chg.refl [] W5).drew) (fun hHeld => ?_)
      refine tkr 0 ?_ hHeld ?_ ?_
      rotate_left
      · intro w hSw
        refine Lay.read_ld Tryz.tSeg ((X13.out.frame hSw).in) ?_ ?_
        exact rfl
        exact rfl
      try simp only [Act.put, aS, aZ, aC]
      refine wpAnyH_ready (rs := [1]) (by kernel_rfl) (by simp) ?_
      refine AllReadyH.cons rfl (fun K hK => ?_) AllReadyH.nil
      go_simp
      refine (HHO.out _).mono ?_
      rintro e WE ⟨rfl, hc⟩
      have K1 := hY (hHeld.then hc)
      clear hc
      refine hK.out _ _ K1.out ?_
      clear hK hHeld K
      intro hHeld
      try (unfold Act.put; simp only [aS, aZ, aC])
      refine tkr 2 ?_ hHeld ?_ ?_
      rotate_left
      · intro w hSw
        go_simp
        try with_reducible rfl
      try simp only [Act.put, aS, aZ, aC]
      refine tkr 3 ?_ hHeld ?_ ?_
      rotate_left
      · intro w hSw
        go_simp
        try with_reducible rfl
      try simp only [Act.put, aS, aZ, aC]
      refine tkr 4 ?_ hHeld ?_ ?_
      rotate_left
      · intro w hSw
        go_simp
        try with_reducible rfl
      try simp only [Act.put, aS, aZ, aC]
      refine tkr 5 ?_ hHeld ?_ ?_
      rotate_left
      · intro w hSw
        go_simp
        try with_reducible rfl
      try simp only [Act.put, aS, aZ, aC]
      refine tkr 7 ?_ hHeld ?_ ?_
      rotate_left
      · intro w hSw
        go_simp
        try with_reducible rfl
      try simp only [Act.put, aS, aZ, aC]
      refine tkr 8 ?_ hHeld ?_ ?_
      rotate_left
      · intro w hSw
        have y1 := Seg.c_addr (X13.out.frame hSw)
        go_simp
        try with_reducible rfl
      try simp only [Act.put, aS, aZ, aC]
      refine tkr 9 ?_ hHeld ?_ ?_
      rotate_left
      · intro w hSw
        refine Lay.read_ld Tryz.tImg ((S5.out.im.frame hSw).in) ?_ ?_
        exact rfl
        exact rfl
      try simp only [Act.put, aS, aZ, aC]
      refine wpAnyH_ready (rs := [6]) (by kernel_rfl) (by simp) ?_
      refine AllReadyH.cons rfl (fun K hK => ?_) AllReadyH.nil
      go_simp
      refine (HG4.out _ (S5.out.cg.then hHeld)).mono ?_
      rintro e WE ⟨rfl, hc⟩
      have K6 := hY (hHeld.then hc)
      clear hc
      refine hK.out _ _ K6.out ?_
      clear hK hHeld K
      intro hHeld
      try (unfold Act.put; simp only [aS, aZ, aC])
      refine wpAnyH_ready (rs := [10]) (by kernel_rfl) (by simp) ?_
      refine AllReadyH.cons rfl (fun K hK => ?_) AllReadyH.nil
      go_simp
      refine (HLO.out _ (S5.out.cg.then hHeld)).mono ?_
      rintro e WE ⟨rfl, hc⟩
      have K10 := hY (hHeld.then hc)
      clear hc
      refine hK.out _ _ K10.out ?_
      clear hK hHeld K
      intro hHeld
      try (unfold Act.put; simp only [aS, aZ, aC])
      refine tkr 11 ?_ hHeld ?_ ?_
      rotate_left
      · intro w hSw
        go_simp
        try with_reducible rfl
      try simp only [Act.put, aS, aZ, aC]
      refine tkr 12 ?_ hHeld ?_ ?_
      rotate_left
      · intro w hSw
        go_simp
        try with_reducible rfl
      try simp only [Act.put, aS, aZ, aC]
      refine tkr 13 ?_ hHeld ?_ ?_
      rotate_left
      · intro w hSw
        go_simp
        try with_reducible rfl
      try simp only [Act.put, aS, aZ, aC]
      refine wpAnyH_done (by kernel_rfl) ?_ _
      refine NoPanic.normal ?_
      have SE := hY (S5.out.pure hHeld)
      go_upto_region 7 with fail
      go_wp2_with ((with_reducible refine Lay.stQ Tryz.tSta Sta.zero (SE.out.r8) ?_ ?_ ?_); exact rfl; exact rfl)
      refine hY fun WZ cWZ xWZ => ?_
      go_step
      go_step
      rename_i hK0
      refine hK0 _ _ ?_
      refine wpList_nil ?_
      rename_i hKK _
      refine hKK _ _ ?_
      try (unfold Act.put; simp only [aS, aZ, aC])
      refine wp_ret ?_
      show bodyPost _ _ _ .ret _ _
      refine Lay.ret2 Tryz.tSta Tryz.results96 xWZ.out rfl rfl ?_
      rw [HB.out]
      exact ⟨SE.out.cg.new cWZ.out SE.out.l8, rfl⟩
  case pos =>
  have p3 : ((n4 : Int) != IntKind.u64.wrap (sg.addr - L)) = false := by rw [bne_eq_false_iff_eq]; exact hok.2
  rw [hok.1] at HHO
  replace HR := hY (HR.out.trans (if_pos hok))
  have Hok := hY hok
  clear hok
  refine wp_region_noPanic ?_
  refine wp_region_held_drew (S := fun w' => Chg [] W5 w') (by kernel_rfl) ((Chg.refl [] W5).drew) (fun hHeld => ?_)
  refine tkr 0 ?_ hHeld ?_ ?_
  rotate_left
  · intro w hSw
    refine Lay.read_ld Tryz.tSeg ((X13.out.frame hSw).in) ?_ ?_
    exact rfl
    exact rfl
  try simp only [Act.put, aS, aZ, aC]
  refine wpAnyH_ready (rs := [1]) (by kernel_rfl) (by simp) ?_
  refine AllReadyH.cons rfl (fun K hK => ?_) AllReadyH.nil
  go_simp
  refine (HHO.out _).mono ?_
  rintro e WE ⟨rfl, hc⟩
  have K1 := hY (hHeld.then hc)
  clear hc
  refine hK.out _ _ K1.out ?_
  clear hK hHeld K
  intro hHeld
  try (unfold Act.put; simp only [aS, aZ, aC])
  refine tkr 2 ?_ hHeld ?_ ?_
  rotate_left
  · intro w hSw
    go_simp
    try with_reducible rfl
  try simp only [Act.put, aS, aZ, aC]
  refine tkr 3 ?_ hHeld ?_ ?_
  rotate_left
  · intro w hSw
    go_simp
    try with_reducible rfl
  try simp only [Act.put, aS, aZ, aC]
  refine tkr 4 ?_ hHeld ?_ ?_
  rotate_left
  · intro w hSw
    go_simp
    try with_reducible rfl
  try simp only [Act.put, aS, aZ, aC]
  refine tkr 5 ?_ hHeld ?_ ?_
  rotate_left
  · intro w hSw
    go_simp
    try with_reducible rfl
  try simp only [Act.put, aS, aZ, aC]
  refine tkr 7 ?_ hHeld ?_ ?_
  rotate_left
  · intro w hSw
    go_simp
    try with_reducible rfl
  try simp only [Act.put, aS, aZ, aC]
  refine tkr 8 ?_ hHeld ?_ ?_
  rotate_left
  · intro w hSw
    have y1 := Seg.c_addr (X13.out.frame hSw)
    go_simp
    try with_reducible rfl
  try simp only [Act.put, aS, aZ, aC]
  refine tkr 9 ?_ hHeld ?_ ?_
  rotate_left
  · intro w hSw
    refine Lay.read_ld Tryz.tImg ((S5.out.im.frame hSw).in) ?_ ?_
    exact rfl
    exact rfl
  try simp only [Act.put, aS, aZ, aC]
  refine wpAnyH_ready (rs := [6]) (by kernel_rfl) (by simp) ?_
  refine AllReadyH.cons rfl (fun K hK => ?_) AllReadyH.nil
  go_simp
  refine (HG4.out _ (S5.out.cg.then hHeld)).mono ?_
  rintro e WE ⟨rfl, hc⟩
  have K6 := hY (hHeld.then hc)
  clear hc
  refine hK.out _ _ K6.out ?_
  clear hK hHeld K
  intro hHeld
  try (unfold Act.put; simp only [aS, aZ, aC])
  refine wpAnyH_ready (rs := [10]) (by kernel_rfl) (by simp) ?_
  refine AllReadyH.cons rfl (fun K hK => ?_) AllReadyH.nil
  go_simp
  refine (HLO.out _ (S5.out.cg.then hHeld)).mono ?_
  rintro e WE ⟨rfl, hc⟩
  have K10 := hY (hHeld.then hc)
  clear hc
  refine hK.out _ _ K10.out ?_
  clear hK hHeld K
  intro hHeld
  try (unfold Act.put; simp only [aS, aZ, aC])
  refine tkr 11 ?_ hHeld ?_ ?_
  rotate_left
  · intro w hSw
    go_simp
    try with_reducible rfl
  try simp only [Act.put, aS, aZ, aC]
  refine tkr 12 ?_ hHeld ?_ ?_
  rotate_left
  · intro w hSw
    go_simp
    try with_reducible rfl
  try simp only [Act.put, aS, aZ, aC]
  refine tkr 13 ?_ hHeld ?_ ?_
  rotate_left
  · intro w hSw
    go_simp
    try with_reducible rfl
  try simp only [Act.put, aS, aZ, aC]
  refine wpAnyH_done (by kernel_rfl) ?_ _
  refine NoPanic.normal ?_
  have SF := hY (S5.out.pure hHeld)
  have XF := hY (X5.out.frame hHeld)
  have XsF := hY (X13.out.frame hHeld)
  clear hHeld S5 X5 X13 p3 HHO
  go_upto_region 8 with fail
  go_wp2_with fail
  refine (HG6.out _ SF.out.cg).mono ?_
  rintro e WG ⟨rfl, hc⟩
  have SG := hY (SF.out.pure hc)
  have XG := hY (XF.out.frame hc)
  have XsG := hY (XsF.out.frame hc)
  clear hc SF XF XsF
  go_upto_region 9 with fail
  have y1 := Sta.c_page XG.out
  have y2 := Sta.c_fmt XG.out
  have hst2 : st = 0 ∨ 0 < st := by
    rw [Hst.out]
    unfold strideF
    (repeat' split) <;> simp
  obtain ⟨bz, hbz⟩ : ∃ bz, bz = !(decide ((P = 4096 ∨ P = 16384) ∧ 0 < st) && decide (22 + 2 * n6 ≤ n1 ∧ (n6 : Int) ≤ pg)) := ⟨_, rfl⟩
  go_cut [94] (fun s94 wx => s94 = .bool bz ∧ Chg [] WG wx)
  case first =>
    have hc0 : (P ≠ 4096 ∧ P ≠ 16384) ∨ P = 4096 ∨ (P ≠ 4096 ∧ P = 16384) := by omega
    have hc : (P ≠ 4096 ∧ P ≠ 16384) ∨ (P = 4096 ∧ True) ∨ (P ≠ 4096 ∧ P = 16384) := hc0.imp id (fun h => h.imp (fun h => ⟨h, trivial⟩) id)
    clear hc0
    rcases hc with ⟨p1, p2⟩ | ⟨p1, p2⟩ | ⟨p1, p2⟩
    · have q1 : (P != 4096) = true := by rw [bne_iff_ne]; exact p1
      have q2 : (P != 16384) = true := by rw [bne_iff_ne]; exact p2
      have HBZ : Hid (true = bz) := hY (by rw [hbz, decide_eq_false (p := (P = 4096 ∨ P = 16384) ∧ 0 < st) (fun h => by omega)]; rfl)
      have KH : Hid (Chg [] WG WG) := hY (Chg.refl _ _)
      have P1 := hY p1
      have P2 := hY p2
      have Hst2 := hY hst2
      have Hbz := hY hbz
      clear p1 p2 hst2 hbz
      go_wp2_with fail
      go_meet
      exact ⟨congrArg Value.bool HBZ.out, KH.out⟩
    all_goals
      have hpg : P = 4096 ∨ P = 16384 := by first | exact .inl p1 | exact .inr p2
      first
        | have q1 : (P != 4096) = false := by rw [bne_eq_false_iff_eq]; exact p1
        | (have q1 : (P != 4096) = true := by rw [bne_iff_ne]; exact p1
           have q1b : (P != 16384) = false := by rw [bne_eq_false_iff_eq]; exact p2)
      clear p1 p2
      rcases hst2 with hs0 | hs0
      · have q3 : (st == 0) = true := by rw [hs0]; rfl
        have HBZ : Hid (true = bz) := hY (by rw [hbz, decide_eq_false (p := (P = 4096 ∨ P = 16384) ∧ 0 < st) (fun h => by omega)]; rfl)
        have Hpg := hY hpg
        have Hs0 := hY hs0
        have Hbz := hY hbz
        clear hpg hs0 hbz
        go_wp2_with fail
        refine (HST.out _).mono ?_
        rintro e WH ⟨rfl, hc⟩
        have KH : Hid (Chg [] WG WH) := hY (hc)
        clear hc
        go_wp2_with fail
        go_meet
        exact ⟨congrArg Value.bool HBZ.out, KH.out⟩
      · have q3 : (st == 0) = false := by rw [beq_eq_false_iff_ne]; omega
        by_cases hn1 : 22 + 2 * n6 ≤ n1
        · have q4 : decide ((n1 : Int) < 22 + 2 * (n6 : Int)) = false := decide_eq_false (by omega)
          by_cases hn2 : (n6 : Int) ≤ pg
          · have q5 : decide (pg < (n6 : Int)) = false := decide_eq_false (by omega)
            have HBZ : Hid (false = bz) := hY (by rw [hbz, decide_eq_true (p := (P = 4096 ∨ P = 16384) ∧ 0 < st) ⟨hpg, hs0⟩, decide_eq_true (p := 22 + 2 * n6 ≤ n1 ∧ (n6 : Int) ≤ pg) ⟨hn1, hn2⟩]; rfl)
            replace HPG := hY (fun W => HPG.out W hpg)
            have Hpg := hY hpg
            have Hs0 := hY hs0
            have Hbz := hY hbz
            have Hn1 := hY hn1
            have Hn2 := hY hn2
            clear hpg hs0 hbz hn1 hn2
            go_wp2_with fail
            refine (HST.out _).mono ?_
            rintro e WH ⟨rfl, hc⟩
            have KH : Hid (Chg [] WG WH) := hY (hc)
            clear hc
            go_wp2_with fail
            refine (HG1.out _ (SG.out.cg.then KH.out)).mono ?_
            rintro e WI ⟨rfl, hc⟩
            have KI := hY (KH.out.then hc)
            clear hc
            have y1b := Sta.c_page (XG.out.frame KI.out)
            go_wp2_with ((with_reducible refine Lay.ldG2 Tryz.tSeg sg ((XsG.out.frame KI.out).in) ?_ ?_ ?_); exact rfl; exact rfl; refine Hid.out ?_)
            refine hY ?_
            go_wp2_with fail
            refine (HPG.out _).mono ?_
            rintro e WJ ⟨rfl, hc⟩
            have KJ := hY (KI.out.then hc)
            clear hc
            go_wp2_with fail
            go_meet
            exact ⟨congrArg Value.bool HBZ.out, KJ.out⟩
          · have q5 : decide (pg < (n6 : Int)) = true := decide_eq_true (by omega)
            have HBZ : Hid (true = bz) := hY (by rw [hbz, decide_eq_false (p := 22 + 2 * n6 ≤ n1 ∧ (n6 : Int) ≤ pg) (fun h => hn2 h.2), Bool.and_false]; rfl)
            replace HPG := hY (fun W => HPG.out W hpg)
            have Hpg := hY hpg
            have Hs0 := hY hs0
            have Hbz := hY hbz
            have Hn1 := hY hn1
            have Hn2 := hY hn2
            clear hpg hs0 hbz hn1 hn2
            go_wp2_with fail
            refine (HST.out _).mono ?_
            rintro e WH ⟨rfl, hc⟩
            have KH : Hid (Chg [] WG WH) := hY (hc)
            clear hc
            go_wp2_with fail
            refine (HG1.out _ (SG.out.cg.then KH.out)).mono ?_
            rintro e WI ⟨rfl, hc⟩
            have KI := hY (KH.out.then hc)
            clear hc
            have y1b := Sta.c_page (XG.out.frame KI.out)
            go_wp2_with ((with_reducible refine Lay.ldG2 Tryz.tSeg sg ((XsG.out.frame KI.out).in) ?_ ?_ ?_); exact rfl; exact rfl; refine Hid.out ?_)
            refine hY ?_
            go_wp2_with fail
            refine (HPG.out _).mono ?_
            rintro e WJ ⟨rfl, hc⟩
            have KJ := hY (KI.out.then hc)
            clear hc
            go_wp2_with fail
            go_meet
            exact ⟨congrArg Value.bool HBZ.out, KJ.out⟩
        · have q4 : decide ((n1 : Int) < 22 + 2 * (n6 : Int)) = true := decide_eq_true (by omega)
          have HBZ : Hid (true = bz) := hY (by rw [hbz, decide_eq_false (p := 22 + 2 * n6 ≤ n1 ∧ (n6 : Int) ≤ pg) (fun h => hn1 h.1), Bool.and_false]; rfl)
          have Hpg := hY hpg
          have Hs0 := hY hs0
          have Hbz := hY hbz
          have Hn1 := hY hn1
          clear hpg hs0 hbz hn1
          go_wp2_with fail
          refine (HST.out _).mono ?_
          rintro e WH ⟨rfl, hc⟩
          have KH : Hid (Chg [] WG WH) := hY (hc)
          clear hc
          go_wp2_with fail
          refine (HG1.out _ (SG.out.cg.then KH.out)).mono ?_
          rintro e WI ⟨rfl, hc⟩
          have KI := hY (KH.out.then hc)
          clear hc
          go_wp2_with fail
          go_meet
          exact ⟨congrArg Value.bool HBZ.out, KI.out⟩
  case rest =>
  obtain ⟨hsx, hcx⟩ := hcut
  subst hsx
  obtain ⟨W0, rfl⟩ : ∃ W, W = wc := ⟨_, rfl⟩
  have S0 := hY (SG.out.pure hcx)
  have X0 := hY (XG.out.frame hcx)
  clear hcx SG XG XsG y1 y2 w4 w6 w8 w9 w9b
  cases hbv : bz with
  | true =>
    have HB : Hid (R = .bad 15) := by
      refine hY ?_
      rw [HR.out]
      by_cases h1 : (P = 4096 ∨ P = 16384) ∧ 0 < st
      · rw [if_pos h1]
        by_cases h2 : 22 + 2 * n6 ≤ n1 ∧ (n6 : Int) ≤ pg
        · rw [hbz, decide_eq_true h1, decide_eq_true h2] at hbv; exact absurd hbv (by decide)
        · rw [if_neg h2]
      · rw [if_neg h1]
    subst hbv
    have Hbz := hY hbz
    have Hst2 := hY hst2
    clear hbz hst2
    go_upto_region 10 with fail
    go_wp2_with ((with_reducible refine Lay.stQ Tryz.tSta Sta.zero (S0.out.r8) ?_ ?_ ?_); exact rfl; exact rfl)
    refine hY fun WZ cWZ xWZ => ?_
    go_step
    go_step
    rename_i hK0
    refine hK0 _ _ ?_
    refine wpList_nil ?_
    rename_i hKK _
    refine hKK _ _ ?_
    try (unfold Act.put; simp only [aS, aZ, aC])
    refine wp_ret ?_
    show bodyPost _ _ _ .ret _ _
    refine Lay.ret2 Tryz.tSta Tryz.results96 xWZ.out rfl rfl ?_
    rw [HB.out]
    exact ⟨S0.out.cg.new cWZ.out S0.out.l8, rfl⟩
  | false =>
  have hall : ((P = 4096 ∨ P = 16384) ∧ 0 < st) ∧ 22 + 2 * n6 ≤ n1 ∧ (n6 : Int) ≤ pg := by
    by_cases h1 : (P = 4096 ∨ P = 16384) ∧ 0 < st
    · by_cases h2 : 22 + 2 * n6 ≤ n1 ∧ (n6 : Int) ≤ pg
      · exact ⟨h1, h2⟩
      · rw [hbz, decide_eq_false h2, Bool.and_false] at hbv
        exact absurd hbv (by decide)
    · rw [hbz, decide_eq_false h1, Bool.false_and] at hbv
      exact absurd hbv (by decide)
  replace HR := hY ((HR.out.trans (if_pos hall.1)).trans (if_pos hall.2))
  have hst3 := hall.1.2
  subst hbv
  have HB12 : Hid (b8 < b12 ∧ b12 < W0.heap.size) := hY (⟨hb12, X0.out.lt⟩)
  have Hbz := hY hbz
  have Hst2 := hY hst2
  have Hall := hY hall
  clear hbz hst2 hall
  go_wp2_with fail
  go_loopw [15] (fun s15 wr => ∃ (k : Nat) (acc : List Int) (sl : SlV), k ≤ n6 ∧ s15 = .int .u64 (k : Int) ∧ begC B P st (n6 - k) (q + 22 + 2 * k) acc = begC B P st n6 (q + 22) [] ∧ acc.length = k ∧ RsW w wr bm b8 m ∧ staL.Box wr b12 ⟨(i : Int), P, F, sl⟩ ∧ i64L.Buf 3 wr W0.heap.size (.slice sl.a sl.n sl.cap) acc ∧ W0.heap.size ≤ wr.heap.size) (fun s15 _ => n6 - (intOf s15).toNat)
  case atStart => exact ⟨0, [], ⟨none, 0, 0⟩, Nat.zero_le _, rfl, rfl, rfl, S0.out, X0.out, Lay.Buf.nil _ _, Nat.le_refl _⟩
  case round =>
    obtain ⟨k, acc, sl, hk, rfl, hbe, hal, hsw, hbx, hbu, hsz⟩ := hrel
    by_cases hlt : k < n6
    · have hwk : IntKind.u64.wrap ((k : Int) + 1) = (k : Int) + 1 := by have := HN6.out; rw [IntKind.wrap_u64]; omega
      obtain ⟨r, hr⟩ : ∃ r, n6 - k = r + 1 := ⟨n6 - k - 1, by omega⟩
      rw [hr, begC_succ] at hbe
      obtain ⟨ad, nd, cd⟩ := sl
      obtain ⟨_, _, he, _, _⟩ := hbu.rd.shape
      cases he
      have hN6k := HN6.out
      have wA : IntKind.u64.wrap ((q : Int) + 22) = (q : Int) + 22 := by rw [IntKind.wrap_u64]; omega
      have wB : IntKind.u64.wrap (2 * (k : Int)) = 2 * (k : Int) := by rw [IntKind.wrap_u64]; omega
      have wC : IntKind.u64.wrap ((q : Int) + 22 + 2 * (k : Int)) = ((q + 22 + 2 * k : Nat) : Int) := by rw [IntKind.wrap_u64]; omega
      obtain ⟨p, hp⟩ : ∃ p, p = q + 22 + 2 * k := ⟨_, rfl⟩
      rw [← hp] at hbe wC
      have hq2 : q + 22 + 2 * (k + 1) = p + 2 := by omega
      have hr2 : n6 - (k + 1) = r := by omega
      by_cases h2 : p + 2 ≤ B.length
      case neg =>
        have HB : Hid (R = .bad 3) := by
          refine hY ?_
          rw [HR.out, ← hbe, if_neg h2]
          rfl
        have HGX := hY (fun W h => HGN.out W h p 2 (.inl rfl) (by omega) (by rw [← HLL.out]; omega))
        have Hbe := hY hbe
        have Hsw := hY hsw
        have Hbx := hY hbx
        have Hbu := hY hbu
        have Hsz := hY hsz
        have Hal := hY hal
        have Hr := hY hr
        have Hp := hY hp
        have Hq2 := hY hq2
        have Hr2 := hY hr2
        have H2 := hY h2
        have HN6k := hY hN6k
        clear hbe hsw hbx hbu hsz hal hr hp hq2 hr2 h2 hN6k
        go_wp2_with fail
        refine (HGX.out _ Hsw.out.cg).mono ?_
        rintro e W6 ⟨rfl, hc⟩
        have S6 := hY (Hsw.out.pure hc)
        clear hc wA wB wC
        go_upto_region 16 with fail
        go_wp2_with ((with_reducible refine Lay.stQ Tryz.tSta Sta.zero (S6.out.r8) ?_ ?_ ?_); exact rfl; exact rfl)
        refine hY fun WZ cWZ xWZ => ?_
        go_step
        go_step
        rename_i hK0
        refine hK0 _ _ ?_
        refine wpList_nil ?_
        rename_i hKK _
        refine hKK _ _ ?_
        try (unfold Act.put; simp only [aS, aZ, aC])
        refine wp_ret ?_
        show bodyPost _ _ _ .ret _ _
        refine Lay.ret2 Tryz.tSta Tryz.results96 xWZ.out rfl rfl ?_
        rw [HB.out]
        exact ⟨S6.out.cg.new cWZ.out S6.out.l8, rfl⟩
      case pos =>
      rw [if_pos h2] at hbe
      have HGX := hY (fun W h => HGY.out W h p 2 (.inl rfl) (by rw [← HLL.out]; omega))
      have hvb : WN B p 2 < 65536 := WN_lt B p 2
      obtain ⟨v, hv⟩ : ∃ v, v = WN B p 2 := ⟨_, rfl⟩
      rw [← hv] at HGX hvb hbe
      have Hsw := hY hsw
      have Hbx := hY hbx
      have Hbu := hY hbu
      have Hsz := hY hsz
      have Hal := hY hal
      have Hr := hY hr
      have Hp := hY hp
      have Hv := hY hv
      have Hq2 := hY hq2
      have Hr2 := hY hr2
      have Hvb := hY hvb
      have H2 := hY h2
      have HN6k := hY hN6k
      clear hsw hbx hbu hsz hal hr hp hv hq2 hr2 hvb h2 hN6k
      go_wp2_with fail
      refine (HGX.out _ Hsw.out.cg).mono ?_
      rintro e W6 ⟨rfl, hc⟩
      have S2 := hY (Hsw.out.pure hc)
      have X2 := hY (Hbx.out.frame hc)
      have U2 := hY (Hbu.out.pure hc)
      have HZ2 := hY (Nat.le_trans Hsz.out hc.size)
      clear hc wA wB wC Hsw Hbx Hbu Hsz
      have hvb := Hvb.out
      by_cases hvn : v = 65535
      · have d2 : ((v : Int) == 65535) = true := by rw [beq_iff_eq, hvn]; rfl
        have HBE : Hid (begC B P st (n6 - (k + 1)) (q + 22 + 2 * (k + 1)) (acc ++ [-1]) = begC B P st n6 (q + 22) []) := hY (by rw [Hr2.out, Hq2.out, ← hbe, if_pos hvn])
        have Hbe := hY hbe
        have Hvn := hY hvn
        have Hvb := hY hvb
        clear hbe hvn hvb
        have y3 := Sta.c_begins X2.out
        go_wp2_with ((with_reducible refine bsV ((-1)) _ ((int_built (-1))) ?_ ?_ ?_); exact rfl; exact rfl; intro VA va cva rva; replace cva := hY cva; replace rva := hY rva; refine Hid.out ?_)
        refine hY ?_
        have UA := hY (U2.out.pure cva.out)
        go_wp2_with (at_builtin; go_must (refine Lay.app (L := i64L) Tryz.infoInt rfl _ _ rfl W0.heap.size (.slice ad acc.length cd) acc rfl UA.out _ rfl [(-1 : Int)] rva.out (app_len Hal.out hlt HN6.out (-1)).1 (app_len Hal.out hlt HN6.out (-1)).2 (Nat.le_trans HZ2.out cva.out.size) ?_); intro vb VB hov hgv hlc; refine Hid.out ?_)
        refine hY ?_
        have DB : Hid (Chg (Value.slice ad acc.length cd).ownBlock.toList W6 VB) := hY (cva.out.add.same (Lay.chg_grown hgv))
        have SB : Hid (∀ i ∈ (Value.slice ad acc.length cd).ownBlock.toList, W0.heap.size ≤ i) := hY (fun i hi => (UA.out.lt i (Option.mem_toList.1 hi)).1)
        obtain ⟨ab, cb, rfl, hb1, hb2⟩ := hov.rd.shape
        have hlen1 : (acc ++ [(-1 : Int)]).length = k + 1 := by rw [List.length_append, Hal.out]; rfl
        rw [hlen1] at hov ⊢
        have UB := hY hov
        have Hlen1 := hY hlen1
        clear hov hlen1
        clear hgv hlc y3 UA cva rva hb1 hb2
        have XB := hY (X2.out.frameS DB.out (nin_own HB12.out.2 SB.out))
        have SWB := hY (S2.out.high DB.out (gt_own (Nat.lt_trans HB12.out.1 HB12.out.2) SB.out))
        have HZB := hY (Nat.le_trans HZ2.out DB.out.size)
        clear X2 S2 U2 HZ2 DB SB
        have y3 := Sta.c_begins XB.out
        have z3 := XB.out.frozen 3
        go_wp2
        go_roundw
        case rel =>
          have kk : Chg [b12] VB (VB.setCell ⟨b12, 3, none⟩ (.slice ab (k + 1) cb)) := (Chg.refl [b12] _).setCell _ _ (.inl (List.mem_singleton.2 rfl))
          have h8 := HB12.out
          exact ⟨k + 1, acc ++ [(-1 : Int)], ⟨ab, k + 1, cb⟩, hlt, by first | rfl | exact congrArg (Value.int .u64) hwk | go_num, HBE.out, Hlen1.out, SWB.out.high kk (gt_one h8.1), Sta.set_begins XB.out ⟨ab, k + 1, cb⟩, UB.out.frame kk (fun b hb hm => absurd (UB.out.lt b hb).1 (nle_one h8.2 hm)), Nat.le_trans HZB.out kk.size⟩
        case measure => first | exact measR_u hwk hlt | exact measR_d hlt
      · have d2 : ((v : Int) == 65535) = false := by rw [beq_eq_false_iff_ne]; omega
        rw [if_neg hvn] at hbe
        have hwv : wrap64 (v : Int) = (v : Int) := by unfold wrap64; omega
        have hv0 : (0 : Int) ≤ (v : Int) := Int.natCast_nonneg v
        obtain ⟨rm, hrm⟩ : ∃ rm, rm = (v : Int) % st := ⟨_, rfl⟩
        have hm : (v : Int).tmod st = rm := by rw [hrm]; exact Int.tmod_eq_emod_of_nonneg hv0
        clear hv0
        have hne : ¬ st = 0 := fun e => by rw [e] at hst3; exact absurd hst3 (by decide)
        have yp := Sta.c_page X2.out
        have yf := Sta.c_fmt X2.out
        by_cases hok : (v : Int) < P ∧ (v : Int) % st = 0
        · have HBE : Hid (begC B P st (n6 - (k + 1)) (q + 22 + 2 * (k + 1)) (acc ++ [(v : Int)]) = begC B P st n6 (q + 22) []) := hY (by rw [Hr2.out, Hq2.out, ← hbe, if_pos hok])
          have d3 : decide (P ≤ (v : Int)) = false := decide_eq_false (Int.not_le.2 hok.1)
          have d4 : (rm != 0) = false := by rw [hrm, hok.2]; rfl
          have Hbe := hY hbe
          have Hvn := hY hvn
          have Hok := hY hok
          have Hvb := hY hvb
          have Hrm := hY hrm
          clear hbe hvn hok hvb hrm
          go_wp2_with fail
          refine (HST.out _).mono ?_
          rintro e W7 ⟨rfl, hc⟩
          replace S2 := hY (S2.out.pure hc)
          replace X2 := hY (X2.out.frame hc)
          replace U2 := hY (U2.out.pure hc)
          replace HZ2 := hY (Nat.le_trans HZ2.out hc.size)
          clear hc yp yf
          have y3 := Sta.c_begins X2.out
          go_wp2_with ((with_reducible refine bsV ((wrap64 ((v : Int)))) _ ((int_built (wrap64 ((v : Int))))) ?_ ?_ ?_); exact rfl; exact rfl; intro VA va cva rva; replace cva := hY cva; replace rva := hY rva; refine Hid.out ?_)
          refine hY ?_
          have rv9 : i64L.Rd VA va [((v : Int))] := by
            have h := rva.out
            rw [hwv] at h
            exact h
          replace rva := hY rv9
          clear rv9
          have UA := hY (U2.out.pure cva.out)
          go_wp2_with (at_builtin; go_must (refine Lay.app (L := i64L) Tryz.infoInt rfl _ _ rfl W0.heap.size (.slice ad acc.length cd) acc rfl UA.out _ rfl [((v : Int) : Int)] rva.out (app_len Hal.out hlt HN6.out ((v : Int))).1 (app_len Hal.out hlt HN6.out ((v : Int))).2 (Nat.le_trans HZ2.out cva.out.size) ?_); intro vb VB hov hgv hlc; refine Hid.out ?_)
          refine hY ?_
          have DB : Hid (Chg (Value.slice ad acc.length cd).ownBlock.toList W7 VB) := hY (cva.out.add.same (Lay.chg_grown hgv))
          have SB : Hid (∀ i ∈ (Value.slice ad acc.length cd).ownBlock.toList, W0.heap.size ≤ i) := hY (fun i hi => (UA.out.lt i (Option.mem_toList.1 hi)).1)
          obtain ⟨ab, cb, rfl, hb1, hb2⟩ := hov.rd.shape
          have hlen1 : (acc ++ [((v : Int) : Int)]).length = k + 1 := by rw [List.length_append, Hal.out]; rfl
          rw [hlen1] at hov ⊢
          have UB := hY hov
          have Hlen1 := hY hlen1
          clear hov hlen1
          clear hgv hlc y3 UA cva rva hb1 hb2
          have XB := hY (X2.out.frameS DB.out (nin_own HB12.out.2 SB.out))
          have SWB := hY (S2.out.high DB.out (gt_own (Nat.lt_trans HB12.out.1 HB12.out.2) SB.out))
          have HZB := hY (Nat.le_trans HZ2.out DB.out.size)
          clear X2 S2 U2 HZ2 DB SB
          have y3 := Sta.c_begins XB.out
          have z3 := XB.out.frozen 3
          go_wp2
          go_roundw
          case rel =>
            have kk : Chg [b12] VB (VB.setCell ⟨b12, 3, none⟩ (.slice ab (k + 1) cb)) := (Chg.refl [b12] _).setCell _ _ (.inl (List.mem_singleton.2 rfl))
            have h8 := HB12.out
            exact ⟨k + 1, acc ++ [((v : Int) : Int)], ⟨ab, k + 1, cb⟩, hlt, by first | rfl | exact congrArg (Value.int .u64) hwk | go_num, HBE.out, Hlen1.out, SWB.out.high kk (gt_one h8.1), Sta.set_begins XB.out ⟨ab, k + 1, cb⟩, UB.out.frame kk (fun b hb hm => absurd (UB.out.lt b hb).1 (nle_one h8.2 hm)), Nat.le_trans HZB.out kk.size⟩
          case measure => first | exact measR_u hwk hlt | exact measR_d hlt
        · have HB : Hid (R = .bad 15) := by
            refine hY ?_
            rw [HR.out, ← hbe, if_neg hok]
            rfl
          by_cases h3 : (v : Int) < P
          · have d3 : decide (P ≤ (v : Int)) = false := decide_eq_false (Int.not_le.2 h3)
            have d4 : (rm != 0) = true := by rw [bne_iff_ne, hrm]; exact fun e => hok ⟨h3, e⟩
            have Hbe := hY hbe
            have Hvn := hY hvn
            have Hok := hY hok
            have Hvb := hY hvb
            have H3 := hY h3
            have Hrm := hY hrm
            clear hbe hvn hok hvb h3 hrm
            go_wp2_with fail
            refine (HST.out _).mono ?_
            rintro e W7 ⟨rfl, hc⟩
            have S7 := hY (S2.out.pure hc)
            clear hc yp yf
            go_upto_region 20 with fail
            go_wp2_with ((with_reducible refine Lay.stQ Tryz.tSta Sta.zero (S7.out.r8) ?_ ?_ ?_); exact rfl; exact rfl)
            refine hY fun WZ cWZ xWZ => ?_
            go_step
            go_step
            rename_i hK0
            refine hK0 _ _ ?_
            refine wpList_nil ?_
            rename_i hKK _
            refine hKK _ _ ?_
            try (unfold Act.put; simp only [aS, aZ, aC])
            refine wp_ret ?_
            show bodyPost _ _ _ .ret _ _
            refine Lay.ret2 Tryz.tSta Tryz.results96 xWZ.out rfl rfl ?_
            rw [HB.out]
            exact ⟨S7.out.cg.new cWZ.out S7.out.l8, rfl⟩
          · have d3 : decide (P ≤ (v : Int)) = true := decide_eq_true (Int.not_lt.1 h3)
            have Hbe := hY hbe
            have Hvn := hY hvn
            have Hok := hY hok
            have Hvb := hY hvb
            have H3 := hY h3
            have Hrm := hY hrm
            clear hbe hvn hok hvb h3 hrm
            go_upto_region 20 with fail
            clear yp yf
            go_wp2_with ((with_reducible refine Lay.stQ Tryz.tSta Sta.zero (S2.out.r8) ?_ ?_ ?_); exact rfl; exact rfl)
            refine hY fun WZ cWZ xWZ => ?_
            go_step
            go_step
            rename_i hK0
            refine hK0 _ _ ?_
            refine wpList_nil ?_
            rename_i hKK _
            refine hKK _ _ ?_
            try (unfold Act.put; simp only [aS, aZ, aC])
            refine wp_ret ?_
            show bodyPost _ _ _ .ret _ _
            refine Lay.ret2 Tryz.tSta Tryz.results96 xWZ.out rfl rfl ?_
            rw [HB.out]
            exact ⟨S2.out.cg.new cWZ.out S2.out.l8, rfl⟩
    · obtain rfl : k = n6 := by omega
      rw [Nat.sub_self] at hbe
      have HBO : Hid (R = .ok ⟨(i : Int), P, F, acc⟩) := by
        refine hY ?_
        rw [HR.out, ← hbe]
        rfl
      have Hbe := hY hbe
      have Hsw := hY hsw
      have Hbx := hY hbx
      have Hbu := hY hbu
      have Hsz := hY hsz
      have Hal := hY hal
      clear hbe hsw hbx hbu hsz hal
      go_upto_region 22 with fail
      go_wp2_with ((with_reducible refine Lay.ldQ Tryz.tSta (⟨(i : Int), P, F, sl⟩ : Sta) (Hbx.out.in) ?_ ?_); exact rfl)
      refine hY ?_
      go_wp2_with ((with_reducible refine Lay.stQ Tryz.tSta (⟨(i : Int), P, F, sl⟩ : Sta) (Hsw.out.r8) ?_ ?_ ?_); exact rfl; exact rfl)
      refine hY fun WZ cWZ xWZ => ?_
      go_step
      go_step
      rename_i hK0
      refine hK0 _ _ ?_
      refine wpList_nil ?_
      rename_i hKK _
      refine hKK _ _ ?_
      try (unfold Act.put; simp only [aS, aZ, aC])
      refine wp_ret ?_
      refine Lay.ret2 Tryz.tSta Tryz.results96 xWZ.out rfl rfl ?_
      rw [HBO.out]
      have h8 := HB12.out
      have hl8 := Hsw.out.l8
      exact ⟨Hsw.out.cg.new cWZ.out hl8, ⟨(i : Int), P, F, sl⟩, rfl, ⟨rfl, rfl, rfl, (Hbu.out.frame cWZ.out (fun j hj hm => by have := (Hbu.out.lt j hj).1; simp at hm; omega)).mono (by omega)⟩⟩
end Go.Proofs.YtiljokmkiolpgaaGreatDoor
