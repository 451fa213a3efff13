/- Lemmas, laid together: part 34 of 42. Conditions: none but each lemma's own. -/
import Derived.Test.YtiljokmkiolpgaaGreatDoorJ25
import Derived.Test.YtiljokmkiolpgaaGreatDoorJ26
import Derived.Test.YtiljokmkiolpgaaGreatDoorJ32
import Derived.Test.YtiljokmkiolpgaaGreatDoorJ33
import Derived.Test.YtiljokmkiolpgaaGreatDoorJ10
import Derived.Test.YtiljokmkiolpgaaGreatDoorJ1
namespace Go.Proofs.YtiljokmkiolpgaaGreatDoor
open Go.RowKit
set_option maxRecDepth 100000
structure RfW (W0 : World) (b10 b11 : Nat) (x : Sta) (sg : Seg) (W : World) : Prop where
 cg : Chg [] W0 W
 st : staL.Box W b10 x
 sg : segL.Box W b11 sg
theorem RfW.own {W0 : World} {b10 b11 : Nat} {x : Sta} {sg : Seg} {W W' : World} (h : RfW W0 b10 b11 x sg W) {T : List Nat} (k : Chg T W W') (hT : ∀ i ∈ T, W0.heap.size ≤ i ∧ i ≠ b10 ∧ i ≠ b11) : RfW W0 b10 b11 x sg W' :=
 ⟨h.cg.trans k (fun i hi hw => absurd hw (Nat.not_lt.2 (hT i hi).1)), h.st.frameS k (fun hm => (hT _ hm).2.1 rfl), h.sg.frameS k (fun hm => (hT _ hm).2.2 rfl)⟩
theorem RfW.pure {W0 : World} {b10 b11 : Nat} {x : Sta} {sg : Seg} {W W' : World} (h : RfW W0 b10 b11 x sg W) (k : Chg [] W W') : RfW W0 b10 b11 x sg W' := h.own k (fun _ hi => by cases hi)
def mesF (v : Value) : Nat := if intOf v < 0 then 0 else (20001 - intOf v).toNat
theorem mesF_end {at_ : Int} (h0 : 0 ≤ at_) (h1 : at_ ≤ 20000) : mesF (.int .i64 (-1)) < mesF (.int .i64 at_) := by
 unfold mesF
 show (if (-1 : Int) < 0 then 0 else (20001 - (-1 : Int)).toNat) < if at_ < 0 then 0 else (20001 - at_).toNat
 rw [if_pos (by decide), if_neg (by omega)]
 omega
theorem mesF_step {at_ st page : Int} (h0 : 0 ≤ at_) (h1 : at_ + 8 ≤ page) (h2 : page ≤ 16384) (h3 : 8 ≤ st) : mesF (.int .i64 (at_ + st)) < mesF (.int .i64 at_) := by
 unfold mesF
 show (if at_ + st < 0 then 0 else (20001 - (at_ + st)).toNat) < if at_ < 0 then 0 else (20001 - at_).toNat
 rw [if_neg (by omega), if_neg (by omega)]
 omega
set_option maxHeartbeats 2000000 in
theorem rfixups_none (v : Value) (m : Img) (RF : ChR (List Fx)) (hRF : RF = .ok []) (hcs : m.chS = 0) (w : World) :
  Calls Tryz.prog 8 #[v, imgL.val m] w (FxsP w RF) := by
 have HRF := hY hRF
 have Hcs := hY hcs
 clear hRF hcs
 go_enter Tryz.func8, Tryz.ntmps8
 go_wp2_with ((with_reducible refine Lay.bxQ (L := imgL) 32 m ?_ ?_); exact rfl)
 refine hY fun W1 bm ebm cbm xbm => ?_
 have y1 := Img.c_chS xbm.out
 rw [Hcs.out] at y1
 go_wp2
 go_ret2
 exact fxsP_ok ⟨none, 0, 0⟩ HRF.out cbm.out (Lay.Buf.nil _ _) (Nat.zero_le _)
set_option linter.unusedSimpArgs false in
set_option maxHeartbeats 16000000 in
theorem rfixups_some (l : List UInt8) (hlen : l.length ≤ 100000000) (v : Value) (m : Img) (ls : List Seg) (hls : SegsB ls) (hend : ∀ k, k < ls.length → (ls.getD k .zero).addr + (ls.getD k .zero).size ≤ 140737488355328) (hn1 : ls.length ≤ 1048576) (off size : Nat) (hco : m.chO = (off : Int)) (hcs : m.chS = (size : Int)) (hof : off < 18446744073709551616) (hsf : size < 18446744073709551616) (h0 : size ≠ 0)
   (w : World) (rd : byteL.Rd w v l) (rdS : segL.Rd w m.segs.v ls) (RF : ChR (List Fx)) (hRF : RF = (readC (partS l off size) ls m.deps.n).then fun c => fixsC l ls c.2 c.1 []) :
    Calls Tryz.prog 8 #[v, imgL.val m] w (FxsP w RF) := by
  obtain ⟨R, hR⟩ : ∃ R, R = readC (partS l off size) ls m.deps.n := ⟨_, rfl⟩
  rw [← hR] at hRF
  have d0 : ((size : Int) == 0) = false := by rw [beq_eq_false_iff_ne]; omega
  have hpl := partS_len l off size
  have HHD : Hid (∀ p, R = .ok p → HeadOk ls p) := hY (fun p h => readC_head (hR.symm.trans h))
  have HNE : Hid (∀ n, R = .bad n → n ≠ 0) := hY (fun n h => readC_in.2 n (hR.symm.trans h))
  have HPT := hY (fun W (h : Chg [] w W) => RPart_any l v off size hof hsf h0 W (rd.frame h) hlen)
  have HRE : Hid (∀ pv W, Chg [] w W → byteL.Rd W pv (partS l off size) → Calls Tryz.prog 20 #[pv, imgL.val m] W (ChP W R)) := by
    refine hY ?_
    intro pv W h rp
    rw [hR]
    exact rcread_gen (partS l off size) (by omega) m ls hls (fun k hk => by have h1 := hend k hk; have h2 := (hls k hk).1.1; omega) hn1 pv W rp (rdS.frame h)
  have hlw := lowS_nn hls
  obtain ⟨low, hlow⟩ : ∃ low, low = (lowS ls).toNat := ⟨_, rfl⟩
  rw [← hlow] at hlw
  have HWO := hY (fun p (hp : p < 18446744073709551616) W (h : Chg [] w W) => rWord_any l v m ls hls hend p hp W (rd.frame h) (rdS.frame h))
  have HLK := hY (fun n (hn : n < 18446744073709551616) fm imps iv W (h : Chg [] w W) (ri : impL.Rd W iv imps) => rlink_any n hn fm m ls low hlw imps iv W (rdS.frame h) ri)
  obtain ⟨sa, sn, sc, hse⟩ : ∃ a n c, m.segs = ⟨a, n, c⟩ := ⟨_, _, _, rfl⟩
  have hsa : m.segs.a = sa := by rw [hse]
  have hsn : m.segs.n = sn := by rw [hse]
  have hsc : m.segs.cap = sc := by rw [hse]
  obtain ⟨_, _, hv, hc1, hc2⟩ := rdS.shape
  rw [hse] at hv
  unfold SlV.v at hv
  cases hv
  have HSG : Hid (∀ g, g < ls.length → ∀ W, Chg [] w W → ∃ bS oS, sa = some ⟨bS, oS, none⟩ ∧ segL.In W bS (oS + g * 7) (ls.getD g .zero)) := by
    refine hY ?_
    intro g hg W hW
    have h := rdS.frame hW
    rw [hse] at h
    obtain ⟨bS, oS, e, _, hcell⟩ := Lay.Rd.at h (by omega)
    exact ⟨bS, oS, e, hcell g hg⟩
  have HRF := hY hRF
  have HR := hY hR
  have Hlen := hY hlen
  have Hpl := hY hpl
  have Hof := hY hof
  have Hsf := hY hsf
  have HCO := hY hco
  have HCS := hY hcs
  have Rd := hY rd
  have RDS := hY rdS
  have Hls := hY hls
  have Hend := hY hend
  have Hn1 := hY hn1
  have H0 := hY h0
  have Hse := hY hse
  have Hc1 := hY hc1
  have Hc2 := hY hc2
  have Hlow := hY hlow
  have Hlw := hY hlw
  clear hRF hR hlen hpl hof hsf hco hcs rd rdS hls hend hn1 h0 hse hc1 hc2 hlow hlw
  go_enter Tryz.func8, Tryz.ntmps8
  go_wp2_with ((with_reducible refine Lay.bxQ (L := imgL) 32 m ?_ ?_); exact rfl)
  refine hY fun W1 bm ebm cbm xbm => ?_
  have CM := hY (cbm.out)
  have BM := hY (xbm.out)
  clear ebm cbm xbm
  have y1 := Img.c_chS BM.out
  rw [HCS.out] at y1
  go_upto_region 3 with fail
  clear y1
  go_cut [6, 7] (fun s6 s7 wx => ∃ (b6 : Nat) (n : Int), s6 = .pointer (some ⟨b6, 0, none⟩) ∧ s7 = .int .i64 n ∧ FxHd W1 bm m R b6 n wx)
  case first =>
    refine wp_region_noPanic ?_
    refine wp_region_held_drew (S := fun w' => Chg [] W1 w') (by kernel_rfl) ((Chg.refl [] W1).drew) (fun hHeld => ?_)
    refine tkr 0 ?_ hHeld ?_ ?_
    rotate_left
    · intro w hSw
      go_simp
      try with_reducible rfl
    try simp only [Act.put, aS, aZ, aC]
    refine tkr 1 ?_ hHeld ?_ ?_
    rotate_left
    · intro w hSw
      go_simp
      try with_reducible rfl
    try simp only [Act.put, aS, aZ, aC]
    refine tkr 2 ?_ hHeld ?_ ?_
    rotate_left
    · intro w hSw
      have y1 := Img.c_chO (BM.out.frame hSw)
      have y2 := Img.c_chS (BM.out.frame hSw)
      rw [HCO.out] at y1
      rw [HCS.out] at y2
      go_simp
      try with_reducible rfl
    try simp only [Act.put, aS, aZ, aC]
    refine tkr 4 ?_ hHeld ?_ ?_
    rotate_left
    · intro w hSw
      refine Lay.read_ld Tryz.tImg ((BM.out.frame hSw).in) ?_ ?_
      exact rfl
      exact rfl
    try simp only [Act.put, aS, aZ, aC]
    refine wpAnyH_ready (rs := [3, 9]) (by kernel_rfl) (by simp) ?_
    refine AllReadyH.cons rfl (fun K hK => ?_) (AllReadyH.cons rfl (fun K hK => ?_) AllReadyH.nil)
    · go_simp
      refine (HPT.out _ (CM.out.then hHeld)).mono ?_
      rintro e WP ⟨⟨pv, rfl, hrp⟩, hc⟩
      try replace XX := hY (XX.out.frame hc)
      have RP := hY (hrp)
      have K3 := hY (hHeld.then hc)
      clear hc hrp
      refine hK.out _ _ K3.out ?_
      clear hK hHeld K
      intro hHeld
      try (unfold Act.put; simp only [aS, aZ, aC])
      refine wpAnyH_ready (rs := [5, 9]) (by kernel_rfl) (by simp) ?_
      refine AllReadyH.cons rfl (fun K hK => ?_) (AllReadyH.cons rfl (fun K hK => ?_) AllReadyH.nil)
      · go_simp
        try have LOW := hY XX.out.lt
        refine (HRE.out _ _ (CM.out.then hHeld) RP.out).mono ?_
        rintro e WR hcp
        obtain ⟨hc, c, n, rfl, hcase⟩ := chP_uni hcp
        try replace XX := hY (XX.out.frame hc)
        have C5 := hY (hcase)
        have K5 := hY (hHeld.then hc)
        clear hc hcase hcp
        refine hK.out _ _ K5.out ?_
        clear hK hHeld K
        intro hHeld
        try (unfold Act.put; simp only [aS, aZ, aC])
        refine tkr 6 ?_ hHeld ?_ ?_
        rotate_left
        · intro w hSw
          go_simp
          try with_reducible rfl
        try simp only [Act.put, aS, aZ, aC]
        refine tkr 7 ?_ hHeld ?_ ?_
        rotate_left
        · intro w hSw
          go_simp
          try with_reducible rfl
        try simp only [Act.put, aS, aZ, aC]
        refine tkr 8 ?_ hHeld ?_ ?_
        rotate_left
        · intro w hSw
          go_simp
          try with_reducible rfl
        try simp only [Act.put, aS, aZ, aC]
        refine wpAnyH_ready (rs := [9]) (by kernel_rfl) (by simp) ?_
        refine AllReadyH.cons (by simp only [gA, gC, gZ]; rfl) (fun K hK => ?_) AllReadyH.nil
        refine Lay.armAl Tryz.tChn rfl rfl (fun WX b6 eb6 hcx hxx => ?_)
        have CX : Hid (Chg [] W1 WX) := hY (hHeld.then hcx)
        have HB6 : Hid (W1.heap.size ≤ b6) := hY (by rw [eb6]; exact hHeld.size)
        try replace RP := hY (RP.out.frame hcx)
        have HXR := hY (And.intro hcx (Nat.le_of_eq eb6.symm))
        have XX := hY (hxx)
        clear eb6 hcx hxx
        refine hK.out _ _ CX.out ?_
        clear hK hHeld K
        intro hHeld
        try (unfold Act.put; simp only [aS, aZ, aC])
        refine wpAnyH_ready (rs := [10]) (by kernel_rfl) (by simp) ?_
        refine AllReadyH.cons (by simp only [gA, gC, gZ]; rfl) (fun K hK => ?_) AllReadyH.nil
        refine Lay.armSt Tryz.tChn rfl _ _ rfl rfl c rfl XX.out (fun WY hcy hxy => ?_)
        have CY : Hid (Chg [] W1 WY) := hY (hHeld.new hcy HB6.out)
        have FIN : Hid (FxHd W1 bm m R b6 n WY) := hY (⟨c, hxy, BM.out.frame CY.out, CY.out, by first | exact fxHd_a C5.out LOW.out hcy | exact fxHd_b C5.out HXR.out hcy⟩)
        clear hcy hxy
        refine hK.out _ _ CY.out ?_
        clear hK hHeld K
        intro hHeld
        try (unfold Act.put; simp only [aS, aZ, aC])
        refine tkr 11 ?_ hHeld ?_ ?_
        rotate_left
        · intro w hSw
          go_simp
          try with_reducible rfl
        try simp only [Act.put, aS, aZ, aC]
        refine wpAnyH_done (by kernel_rfl) ?_ _
        refine NoPanic.normal ?_
        go_wp2_with fail
        go_meet
        exact ⟨b6, n, rfl, rfl, FIN.out⟩
      · refine Lay.armAl Tryz.tChn rfl rfl (fun WX b6 eb6 hcx hxx => ?_)
        have CX : Hid (Chg [] W1 WX) := hY (hHeld.then hcx)
        have HB6 : Hid (W1.heap.size ≤ b6) := hY (by rw [eb6]; exact hHeld.size)
        try replace RP := hY (RP.out.frame hcx)
        have HXR := hY (And.intro hcx (Nat.le_of_eq eb6.symm))
        have XX := hY (hxx)
        clear eb6 hcx hxx
        refine hK.out _ _ CX.out ?_
        clear hK hHeld K
        intro hHeld
        try (unfold Act.put; simp only [aS, aZ, aC])
        refine wpAnyH_ready (rs := [5]) (by kernel_rfl) (by simp) ?_
        refine AllReadyH.cons rfl (fun K hK => ?_) AllReadyH.nil
        go_simp
        try have LOW := hY XX.out.lt
        refine (HRE.out _ _ (CM.out.then hHeld) RP.out).mono ?_
        rintro e WR hcp
        obtain ⟨hc, c, n, rfl, hcase⟩ := chP_uni hcp
        try replace XX := hY (XX.out.frame hc)
        have C5 := hY (hcase)
        have K5 := hY (hHeld.then hc)
        clear hc hcase hcp
        refine hK.out _ _ K5.out ?_
        clear hK hHeld K
        intro hHeld
        try (unfold Act.put; simp only [aS, aZ, aC])
        refine tkr 6 ?_ hHeld ?_ ?_
        rotate_left
        · intro w hSw
          go_simp
          try with_reducible rfl
        try simp only [Act.put, aS, aZ, aC]
        refine tkr 7 ?_ hHeld ?_ ?_
        rotate_left
        · intro w hSw
          go_simp
          try with_reducible rfl
        try simp only [Act.put, aS, aZ, aC]
        refine tkr 8 ?_ hHeld ?_ ?_
        rotate_left
        · intro w hSw
          go_simp
          try with_reducible rfl
        try simp only [Act.put, aS, aZ, aC]
        refine wpAnyH_ready (rs := [10]) (by kernel_rfl) (by simp) ?_
        refine AllReadyH.cons (by simp only [gA, gC, gZ]; rfl) (fun K hK => ?_) AllReadyH.nil
        refine Lay.armSt Tryz.tChn rfl _ _ rfl rfl c rfl XX.out (fun WY hcy hxy => ?_)
        have CY : Hid (Chg [] W1 WY) := hY (hHeld.new hcy HB6.out)
        have FIN : Hid (FxHd W1 bm m R b6 n WY) := hY (⟨c, hxy, BM.out.frame CY.out, CY.out, by first | exact fxHd_a C5.out LOW.out hcy | exact fxHd_b C5.out HXR.out hcy⟩)
        clear hcy hxy
        refine hK.out _ _ CY.out ?_
        clear hK hHeld K
        intro hHeld
        try (unfold Act.put; simp only [aS, aZ, aC])
        refine tkr 11 ?_ hHeld ?_ ?_
        rotate_left
        · intro w hSw
          go_simp
          try with_reducible rfl
        try simp only [Act.put, aS, aZ, aC]
        refine wpAnyH_done (by kernel_rfl) ?_ _
        refine NoPanic.normal ?_
        go_wp2_with fail
        go_meet
        exact ⟨b6, n, rfl, rfl, FIN.out⟩
    · refine Lay.armAl Tryz.tChn rfl rfl (fun WX b6 eb6 hcx hxx => ?_)
      have CX : Hid (Chg [] W1 WX) := hY (hHeld.then hcx)
      have HB6 : Hid (W1.heap.size ≤ b6) := hY (by rw [eb6]; exact hHeld.size)
      try replace RP := hY (RP.out.frame hcx)
      have HXR := hY (And.intro hcx (Nat.le_of_eq eb6.symm))
      have XX := hY (hxx)
      clear eb6 hcx hxx
      refine hK.out _ _ CX.out ?_
      clear hK hHeld K
      intro hHeld
      try (unfold Act.put; simp only [aS, aZ, aC])
      refine wpAnyH_ready (rs := [3]) (by kernel_rfl) (by simp) ?_
      refine AllReadyH.cons rfl (fun K hK => ?_) AllReadyH.nil
      go_simp
      refine (HPT.out _ (CM.out.then hHeld)).mono ?_
      rintro e WP ⟨⟨pv, rfl, hrp⟩, hc⟩
      try replace XX := hY (XX.out.frame hc)
      have RP := hY (hrp)
      have K3 := hY (hHeld.then hc)
      clear hc hrp
      refine hK.out _ _ K3.out ?_
      clear hK hHeld K
      intro hHeld
      try (unfold Act.put; simp only [aS, aZ, aC])
      refine wpAnyH_ready (rs := [5]) (by kernel_rfl) (by simp) ?_
      refine AllReadyH.cons rfl (fun K hK => ?_) AllReadyH.nil
      go_simp
      try have LOW := hY XX.out.lt
      refine (HRE.out _ _ (CM.out.then hHeld) RP.out).mono ?_
      rintro e WR hcp
      obtain ⟨hc, c, n, rfl, hcase⟩ := chP_uni hcp
      try replace XX := hY (XX.out.frame hc)
      have C5 := hY (hcase)
      have K5 := hY (hHeld.then hc)
      clear hc hcase hcp
      refine hK.out _ _ K5.out ?_
      clear hK hHeld K
      intro hHeld
      try (unfold Act.put; simp only [aS, aZ, aC])
      refine tkr 6 ?_ hHeld ?_ ?_
      rotate_left
      · intro w hSw
        go_simp
        try with_reducible rfl
      try simp only [Act.put, aS, aZ, aC]
      refine tkr 7 ?_ hHeld ?_ ?_
      rotate_left
      · intro w hSw
        go_simp
        try with_reducible rfl
      try simp only [Act.put, aS, aZ, aC]
      refine tkr 8 ?_ hHeld ?_ ?_
      rotate_left
      · intro w hSw
        go_simp
        try with_reducible rfl
      try simp only [Act.put, aS, aZ, aC]
      refine wpAnyH_ready (rs := [10]) (by kernel_rfl) (by simp) ?_
      refine AllReadyH.cons (by simp only [gA, gC, gZ]; rfl) (fun K hK => ?_) AllReadyH.nil
      refine Lay.armSt Tryz.tChn rfl _ _ rfl rfl c rfl XX.out (fun WY hcy hxy => ?_)
      have CY : Hid (Chg [] W1 WY) := hY (hHeld.new hcy HB6.out)
      have FIN : Hid (FxHd W1 bm m R b6 n WY) := hY (⟨c, hxy, BM.out.frame CY.out, CY.out, by first | exact fxHd_a C5.out LOW.out hcy | exact fxHd_b C5.out HXR.out hcy⟩)
      clear hcy hxy
      refine hK.out _ _ CY.out ?_
      clear hK hHeld K
      intro hHeld
      try (unfold Act.put; simp only [aS, aZ, aC])
      refine tkr 11 ?_ hHeld ?_ ?_
      rotate_left
      · intro w hSw
        go_simp
        try with_reducible rfl
      try simp only [Act.put, aS, aZ, aC]
      refine wpAnyH_done (by kernel_rfl) ?_ _
      refine NoPanic.normal ?_
      go_wp2_with fail
      go_meet
      exact ⟨b6, n, rfl, rfl, FIN.out⟩
  case rest =>
  obtain ⟨b6, n, rfl, rfl, ⟨s1, s2⟩, hbc, hbm, hch, hcs⟩ := hcut
  obtain ⟨W6, rfl⟩ : ∃ W6, W6 = wc := ⟨_, rfl⟩
  have C6 := hY (CM.out.then hch)
  rcases hcs with ⟨p, hRp, rfl, hrd⟩ | hRb
  case inr =>
    have dn : (n != 0) = true := by rw [bne_iff_ne]; exact HNE.out n hRb
    have HB : Hid (RF = .bad n) := hY (by rw [HRF.out, hRb]; rfl)
    have Hbc := hY hbc
    have Hbm := hY hbm
    have Hch := hY hch
    have HRb := hY hRb
    clear hbc hbm hch hRb
    go_wp2
    go_ret2
    exact fxsP_bad HB.out C6.out
  case inl =>
  obtain ⟨ss, imps⟩ := p
  obtain ⟨xs, rsx, rss, rim⟩ := hrd
  obtain ⟨a1, n1, c1⟩ := s1
  obtain ⟨a2, n2, c2⟩ := s2
  have rsx2 : staL.Rd W6 (.slice a1 n1 c1) xs := rsx
  have rim2 : impL.Rd W6 (.slice a2 n2 c2) imps := rim
  have rss2 : StsRd W6 xs ss := rss
  clear rsx rim rss
  have hhd := HHD.out (ss, imps) hRp
  have HRF2 : Hid (fixsC l ls imps ss [] = RF) := hY (by rw [HRF.out, hRp]; rfl)
  obtain ⟨_, _, he, q1, q2⟩ := rsx2.shape
  cases he
  obtain ⟨_, _, he, q3, q4⟩ := rim2.shape
  cases he
  have Hbc := hY hbc
  have Hbm := hY hbm
  have Hch := hY hch
  have HRp := hY hRp
  have RSX := hY rsx2
  have RIM := hY rim2
  have RSS := hY rss2
  have HDD := hY hhd
  have Q1 := hY q1
  have Q2 := hY q2
  have Q3 := hY q3
  have Q4 := hY q4
  clear hbc hbm hch hRp rsx2 rim2 rss2 hhd q1 q2 q3 q4
  go_wp2_with fail
  go_loopw [9, 8] (fun s9 s8 wr => ∃ (i : Nat) (acc : List Fx) (sl : SlV), i ≤ xs.length ∧ s9 = .int .i64 (i : Int) ∧ s8 = .slice sl.a sl.n sl.cap ∧ fixsC l ls imps (ss.drop i) acc = RF ∧ FB wr W6.heap.size (.slice sl.a sl.n sl.cap) acc ∧ acc.length ≤ 20000 ∧ Chg [] W6 wr) (fun s9 _ _ => xs.length - (intOf s9).toNat)
  case atStart => exact ⟨0, [], ⟨none, 0, 0⟩, Nat.zero_le _, rfl, rfl, HRF2.out, Lay.Buf.nil _ _, Nat.zero_le _, Chg.refl _ _⟩
  case round =>
    obtain ⟨i, acc, sl, hi, rfl, rfl, hfi, hbu, hal, hk⟩ := hrel
    obtain ⟨wo, rfl⟩ : ∃ wo, wo = wr := ⟨_, rfl⟩
    have y1 := Chn.c_starts (Hbc.out.frame hk)
    dsimp only at y1
    by_cases hlt : i < xs.length
    case neg =>
      obtain rfl : i = xs.length := by omega
      rw [RSS.out.1, List.drop_length] at hfi
      have HB : Hid (RF = .ok acc) := hY (hfi.symm)
      have Hfi := hY hfi
      have Hbu := hY hbu
      have Hal := hY hal
      have Hk := hY hk
      clear hfi hbu hal hk
      go_wp2
      go_ret2
      exact fxsP_ok sl HB.out (C6.out.then Hk.out) (Hbu.out.mono C6.out.size) Hal.out
    case pos =>
    have hls2 : i < ss.length := by rw [← RSS.out.1]; exact hlt
    have HWI : Hid (wrap64 ((i : Int) + 1) = (i : Int) + 1) := by
      refine hY ?_
      have h1 := Q1.out
      have h2 := Q2.out
      unfold wrap64
      omega
    obtain ⟨hst, hbg⟩ := HDD.out i hls2
    have hsr := RSS.out.2 i hlt
    rw [drop_getDW StP.zero ss hls2, fixsC_cons] at hfi
    obtain ⟨x, hx⟩ : ∃ x, x = xs.getD i .zero := ⟨_, rfl⟩
    obtain ⟨s, hs⟩ : ∃ s, s = ss.getD i .zero := ⟨_, rfl⟩
    have hs9 : (ss, imps).1.getD i StP.zero = s := hs.symm
    rw [← hx, ← hs] at hsr
    rw [hs9] at hst hbg
    unfold StOk at hst
    unfold BegOk at hbg
    rw [← hs] at hfi
    obtain ⟨dS, oS, rfl, _, hcell⟩ := (RSX.out.frame hk).at (by omega)
    have hin : staL.In wo dS (oS + i * 4) (xs.getD i .zero) := hcell i hlt
    rw [← hx] at hin
    obtain ⟨e1, e2, e3, e4⟩ := hsr
    obtain ⟨g, hgg⟩ : ∃ g : Nat, s.seg.toNat = g := ⟨_, rfl⟩
    have hxg : x.seg = (g : Int) := by rw [e1]; have := hbg.1; omega
    rw [hgg] at hst hfi
    rw [← e2, ← e3] at hfi
    have hpgx : x.page = 4096 ∨ x.page = 16384 := by rw [e2]; exact hst.2.1
    have hgl : g < ls.length := by have := hst.1; omega
    obtain ⟨bgs, hbgs⟩ : ∃ b, b = s.begins := ⟨_, rfl⟩
    rw [← hbgs] at hfi e4
    have hbl : bgs.length ≤ 65535 := by rw [hbgs]; exact hbg.2.1
    have hbv : ∀ b ∈ bgs, -1 ≤ b ∧ b < 65536 := by rw [hbgs]; exact hbg.2.2
    obtain ⟨ba, bn, bcp, hbe⟩ : ∃ a n cap, x.begins = ⟨a, n, cap⟩ := ⟨_, _, _, rfl⟩
    have hba : x.begins.a = ba := by rw [hbe]
    have hbn : x.begins.n = bn := by rw [hbe]
    have hbcp : x.begins.cap = bcp := by rw [hbe]
    rw [hba, hbn, hbcp] at e4
    obtain ⟨_, _, he, q5, q6⟩ := e4.shape
    cases he
    obtain ⟨pg, hpg⟩ : ∃ pg, pg = x.page := ⟨_, rfl⟩
    obtain ⟨fm, hfm⟩ : ∃ fm, fm = x.fmt := ⟨_, rfl⟩
    rw [← hpg, ← hfm] at hfi
    rw [← hpg] at hpgx
    obtain ⟨sg, hsg⟩ : ∃ sg, sg = ls.getD g .zero := ⟨_, rfl⟩
    rw [← hsg] at hfi
    obtain ⟨AD, hAD⟩ : ∃ AD, AD = sg.addr := ⟨_, rfl⟩
    obtain ⟨SZ, hSZ⟩ : ∃ SZ, SZ = sg.size := ⟨_, rfl⟩
    obtain ⟨TP, hTP⟩ : ∃ TP, TP = AD + SZ := ⟨_, rfl⟩
    rw [← hAD, ← hSZ, ← hTP] at hfi
    have hAD0 : 0 ≤ AD ∧ 0 ≤ SZ := by rw [hAD, hSZ, hsg]; exact ⟨(Hls.out g hgl).1.1, (Hls.out g hgl).2.1.1⟩
    have hADe : AD + SZ ≤ 140737488355328 := by rw [hAD, hSZ, hsg]; exact Hend.out g hgl
    have NB : Hid (∀ b, (Value.slice sl.a sl.n sl.cap).ownBlock = some b → b < wo.heap.size) := hY (fun b hb => (hbu.lt b hb).2)
    have Hst := hY hst
    have Hbg := hY hbg
    have Hfi := hY hfi
    have Hbu := hY hbu
    have Hal := hY hal
    have Hk := hY hk
    have Hx := hY hx
    have Hs := hY hs
    have Hs9 := hY hs9
    have Hcell := hY hcell
    have Hin := hY hin
    have E1 := hY e1
    have E2 := hY e2
    have E3 := hY e3
    have BGR := hY e4
    have Hgg := hY hgg
    have Hxg := hY hxg
    have Hpgx := hY hpgx
    have Hbgs := hY hbgs
    have Hbl := hY hbl
    have Hbv := hY hbv
    have Hbe := hY hbe
    have Q5 := hY q5
    have Q6 := hY q6
    have Hpg := hY hpg
    have Hfm := hY hfm
    have Hsg := hY hsg
    have HAD := hY hAD
    have HSZ := hY hSZ
    have HTP := hY hTP
    have HAD0 := hY hAD0
    have HADe := hY hADe
    have Hls2 := hY hls2
    clear hst hbg hfi hbu hal hk hx hs hs9 hcell hin e1 e2 e3 e4 hgg hxg hpgx hbgs hbl hbv hbe q5 q6 hpg hfm hsg hAD hSZ hTP hAD0 hADe hls2
    go_wp2_with ((with_reducible refine Lay.ldQ Tryz.tSta x (Hin.out) ?_ ?_); exact rfl)
    refine hY ?_
    go_wp2_with (with_reducible refine Lay.alQ Tryz.tSta ?_)
    refine hY fun W7 b10 eb10 cb10 xb10 => ?_
    go_wp2_with ((with_reducible refine Lay.stQ Tryz.tSta x (xb10.out) ?_ ?_ ?_); exact rfl; exact rfl)
    refine hY fun W8 cW8 xW8 => ?_
    have K8 : Hid (Chg [] wo W8) := hY (cb10.out.new cW8.out (by rw [eb10.out]; exact Nat.le_refl _))
    have X8 := hY (xW8.out)
    have E10 : Hid (wo.heap.size ≤ b10) := hY (Nat.le_of_eq eb10.out.symm)
    clear eb10 cb10 xb10 cW8 xW8 y1
    have y4 := Img.c_segs (Hbm.out.frame (Hk.out.then K8.out))
    rw [hsa, hsn, hsc] at y4
    have y5 := Sta.c_seg X8.out
    rw [Hxg.out] at y5
    obtain ⟨bS, oS2, rfl, hsi⟩ := HSG.out g hgl W8 (C6.out.then (Hk.out.then K8.out))
    rw [← Hsg.out] at hsi
    have Hsi := hY hsi
    clear hsi
    go_wp2_with ((with_reducible refine Lay.ldQ Tryz.tSeg sg (Hsi.out) ?_ ?_); exact rfl)
    refine hY ?_
    go_wp2_with (with_reducible refine Lay.alQ Tryz.tSeg ?_)
    refine hY fun W9 b11 eb11 cb11 xb11 => ?_
    go_wp2_with ((with_reducible refine Lay.stQ Tryz.tSeg sg (xb11.out) ?_ ?_ ?_); exact rfl; exact rfl)
    refine hY fun WA cWA xWA => ?_
    have KA : Hid (Chg [] W8 WA) := hY (cb11.out.new cWA.out (by rw [eb11.out]; exact Nat.le_refl _))
    have E11 : Hid (wo.heap.size ≤ b11) := hY (by rw [eb11.out]; exact K8.out.size)
    have FA : Hid (RfW W6 b10 b11 x sg WA) := hY (⟨(Hk.out.then K8.out).then KA.out, X8.out.frame KA.out, xWA.out⟩)
    have NE8 : Hid (∀ b, (Value.slice sl.a sl.n sl.cap).ownBlock = some b → b ≠ b10 ∧ b ≠ b11) := hY (fun b hb => by have := NB.out b hb; have h2 := E10.out; have h3 := E11.out; omega)
    clear eb11 cb11 xb11 cWA xWA NB X8 y4 y5 Hsi
    go_wp2_with fail
    go_loopw [12, 8] (fun s12 s8 wq => ∃ (k : Nat) (ac2 : List Fx) (s2 : SlV), k ≤ bgs.length ∧ s12 = .int .i64 (k : Int) ∧ s8 = .slice s2.a s2.n s2.cap ∧ ((pgsC l ls imps AD TP pg fm (bgs.drop k) k ac2).then fun a => fixsC l ls imps (ss.drop (i + 1)) a) = RF ∧ FB wq W6.heap.size (.slice s2.a s2.n s2.cap) ac2 ∧ ac2.length ≤ 20000 ∧ RfW W6 b10 b11 x sg wq ∧ ∀ b, (Value.slice s2.a s2.n s2.cap).ownBlock = some b → b ≠ b10 ∧ b ≠ b11) (fun s12 _ _ => bgs.length - (intOf s12).toNat)
    case atStart => exact ⟨0, acc, sl, Nat.zero_le _, rfl, rfl, Hfi.out, Hbu.out.pure (K8.out.then KA.out), Hal.out, FA.out, NE8.out⟩
    case round =>
      obtain ⟨k, ac2, s2, hk2, rfl, rfl, hpi, hbu2, hal2, hfw, hne2⟩ := hrel
      obtain ⟨wp, rfl⟩ : ∃ wp, wp = wr := ⟨_, rfl⟩
      have y3 := Sta.c_begins hfw.st
      rw [hba, hbn, hbcp] at y3
      by_cases hlt2 : k < bgs.length
      case neg =>
        obtain rfl : k = bgs.length := by omega
        rw [List.drop_length] at hpi
        have hpi2 : fixsC l ls imps (ss.drop (i + 1)) ac2 = RF := hpi
        clear hpi
        have Hpi2 := hY hpi2
        have Hbu2 := hY hbu2
        have Hal2 := hY hal2
        have Hfw := hY hfw
        have Hne2 := hY hne2
        clear hpi2 hbu2 hal2 hfw hne2
        go_wp2_with fail
        go_roundw
        case rel => exact ⟨i + 1, ac2, s2, hlt, by first | rfl | exact congrArg (Value.int .i64) HWI.out, rfl, Hpi2.out, Hbu2.out, Hal2.out, Hfw.out.cg⟩
        case measure => first | exact measW_d hlt | (rw [HWI.out]; exact measW_d hlt)
      case pos =>
      have HWK : Hid (wrap64 ((k : Int) + 1) = (k : Int) + 1) := by
        refine hY ?_
        have h1 := Hbl.out
        unfold wrap64
        omega
      rw [drop_getDW (0 : Int) bgs hlt2, pgsC_cons] at hpi
      obtain ⟨bb, hbb⟩ : ∃ b, b = bgs.getD k 0 := ⟨_, rfl⟩
      have hb2 := Hbv.out bb (by rw [hbb]; exact getD_mem 0 bgs hlt2)
      rw [← hbb] at hpi
      obtain ⟨dB, oB, rfl, _, hcB⟩ := (BGR.out.frame hfw.cg).at (by omega)
      have z1 : wp.cell? ⟨dB, oB + k, none⟩ = some (.int .i64 bb) := by
        have h : wp.cell? ⟨dB, oB + k * 1 + 0, none⟩ = (i64L.f (bgs.getD k 0))[0]? := hcB k hlt2 0 (by decide)
        rw [Nat.mul_one, Nat.add_zero, ← hbb] at h
        exact h
      obtain ⟨hkp0, hkp1⟩ := page_b (k := k) (page := pg) (by have := Hbl.out; omega) Hpgx.out
      obtain ⟨KP, hKP⟩ : ∃ KP, KP = (k : Int) * pg := ⟨_, rfl⟩
      rw [← hKP] at hpi hkp0 hkp1
      obtain ⟨F, hF⟩ : ∃ F, F = AD + KP := ⟨_, rfl⟩
      rw [← hF] at hpi
      obtain ⟨KK, hKK⟩ : ∃ KK : List Fx → ChR (List Fx), KK = fun a => (pgsC l ls imps AD TP pg fm (bgs.drop (k + 1)) (k + 1) a).then fun a => fixsC l ls imps (ss.drop (i + 1)) a := ⟨_, rfl⟩
      have HST : Hid ((0 ≤ bb ∧ bb < 65536 ∧ pg < bb + 8 * ((2049 : Nat) : Int) ∧ (folC l ls imps TP pg fm F 2049 bb ac2).then KK = RF) ∨ (bb = -1 ∧ KK ac2 = RF)) := by
        refine hY ?_
        by_cases hneg : bb < 0
        · rw [if_pos hneg] at hpi
          exact .inr ⟨by omega, by rw [hKK]; exact hpi⟩
        · rw [if_neg hneg] at hpi
          refine .inl ⟨by omega, hb2.2, ?_, ?_⟩
          · have := Hpgx.out; omega
          · rw [hKK, ← hpi]
            cases folC l ls imps TP pg fm F 2049 bb ac2 <;> rfl
      have wK : IntKind.u64.wrap (k : Int) = (k : Int) := by have := Hbl.out; rw [IntKind.wrap_u64]; omega
      have wPg : IntKind.u64.wrap pg = pg := by have := Hpgx.out; rw [IntKind.wrap_u64]; omega
      have wM : IntKind.u64.wrap ((k : Int) * pg) = KP := by rw [← hKP, IntKind.wrap_u64]; omega
      have NB2 : Hid (∀ b, (Value.slice s2.a s2.n s2.cap).ownBlock = some b → b ≠ b10 ∧ b ≠ b11) := hY (hne2)
      have Hpi := hY hpi
      have Hbu2 := hY hbu2
      have Hal2 := hY hal2
      have Hfw := hY hfw
      have Hne2 := hY hne2
      have Hb2 := hY hb2
      have HcB := hY hcB
      have Hbb := hY hbb
      have Hkp0 := hY hkp0
      have Hkp1 := hY hkp1
      have HKP := hY hKP
      have HF := hY hF
      have HKK := hY hKK
      clear hpi hbu2 hal2 hfw hne2 hb2 hcB hbb hkp0 hkp1 hKP hF hKK
      go_wp2_with fail
      clear y3 z1
      go_loopw [13, 8] (fun s13 s8 wq => ∃ (n : Nat) (at_ : Int) (ac3 : List Fx) (s3 : SlV), s13 = .int .i64 at_ ∧ s8 = .slice s3.a s3.n s3.cap ∧ ((0 ≤ at_ ∧ at_ < 65536 ∧ pg < at_ + 8 * (n : Int) ∧ (folC l ls imps TP pg fm F n at_ ac3).then KK = RF) ∨ (at_ = -1 ∧ KK ac3 = RF)) ∧ FB wq W6.heap.size (.slice s3.a s3.n s3.cap) ac3 ∧ ac3.length ≤ 20000 ∧ RfW W6 b10 b11 x sg wq ∧ ∀ b, (Value.slice s3.a s3.n s3.cap).ownBlock = some b → b ≠ b10 ∧ b ≠ b11) (fun s13 _ _ => mesF s13)
      case atStart => exact ⟨2049, bb, ac2, s2, rfl, rfl, HST.out, Hbu2.out, Hal2.out, Hfw.out, NB2.out⟩
      case round =>
        obtain ⟨n, at_, ac3, s3, rfl, rfl, hfo, hbu3, hal3, hfw3, hne3⟩ := hrel
        rcases hfo with ⟨hat0, hat1, hfu, hfo⟩ | ⟨rfl, hko⟩
        case inr =>
          have d9 : decide ((0 : Int) ≤ -1) = false := rfl
          have hko2 := hko
          rw [HKK.out] at hko2
          have hko3 : ((pgsC l ls imps AD TP pg fm (bgs.drop (k + 1)) (k + 1) ac3).then fun a => fixsC l ls imps (ss.drop (i + 1)) a) = RF := hko2
          clear hko hko2
          have Hko3 := hY hko3
          have Hbu3 := hY hbu3
          have Hal3 := hY hal3
          have Hfw3 := hY hfw3
          have Hne3 := hY hne3
          clear hko3 hbu3 hal3 hfw3 hne3
          go_wp2_with fail
          go_roundw
          case rel => exact ⟨k + 1, ac3, s3, hlt2, by first | rfl | exact congrArg (Value.int .i64) HWK.out, rfl, Hko3.out, Hbu3.out, Hal3.out, Hfw3.out, Hne3.out⟩
          case measure => first | exact measW_d hlt2 | (rw [HWK.out]; exact measW_d hlt2)
        case inl =>
        obtain ⟨r, hr⟩ : ∃ r, n = r + 1 ∨ (n = 0 ∧ r = 0) := by
          rcases n with _ | n
          · exact ⟨0, .inr ⟨rfl, rfl⟩⟩
          · exact ⟨n, .inl rfl⟩
        have d9 : decide ((0 : Int) ≤ at_) = true := decide_eq_true hat0
        have hpb : 0 ≤ pg ∧ pg ≤ 16384 := by have := Hpgx.out; omega
        have ha1 := HAD0.out
        have ha2 := HADe.out
        have hkp0 := Hkp0.out
        have hkp1 := Hkp1.out
        have hFF := HF.out
        have hTT := HTP.out
        obtain ⟨OFF, hOFF⟩ : ∃ OFF, OFF = KP + at_ := ⟨_, rfl⟩
        obtain ⟨P, hP⟩ : ∃ P, P = F + at_ := ⟨_, rfl⟩
        have wT : IntKind.u64.wrap at_ = at_ := by rw [IntKind.wrap_u64]; omega
        have wO : IntKind.u64.wrap (KP + at_) = OFF := by rw [← hOFF, IntKind.wrap_u64]; omega
        have wO8 : IntKind.u64.wrap (OFF + 8) = OFF + 8 := by rw [IntKind.wrap_u64]; omega
        have wA8 : wrap64 (at_ + 8) = at_ + 8 := by unfold wrap64; omega
        have hAO : AD + OFF = P := by omega
        have wAO : IntKind.u64.wrap (AD + OFF) = P := by rw [hAO, IntKind.wrap_u64]; omega
        have hPb : P < 18446744073709551616 := by omega
        have y1 := Sta.c_page hfw3.st
        rw [← Hpg.out] at y1
        have y2 := Sta.c_fmt hfw3.st
        rw [← Hfm.out] at y2
        have z1 := Seg.c_addr hfw3.sg
        rw [← HAD.out] at z1
        have z2 := Seg.c_size hfw3.sg
        rw [← HSZ.out] at z2
        by_cases c1 : pg < at_ + 8 ∨ TP < P + 8
        case pos =>
          have HB : Hid (RF = .bad 15) := by
            refine hY ?_
            rw [← hfo]
            rcases hr with h | ⟨h, _⟩
            · rw [h, folC_succ, if_pos (by rw [← hP]; exact c1)]; rfl
            · rw [h]; rfl
          by_cases c2 : pg < at_ + 8
          · have d1 : decide (pg < at_ + 8) = true := decide_eq_true c2
            have Hfo := hY hfo
            have Hat0 := hY hat0
            have Hat1 := hY hat1
            have Hfu := hY hfu
            have Hbu3 := hY hbu3
            have Hal3 := hY hal3
            have Hfw3 := hY hfw3
            have Hne3 := hY hne3
            have Hpb := hY hpb
            have Ha1 := hY ha1
            have Ha2 := hY ha2
            have Hkp0 := hY hkp0
            have Hkp1 := hY hkp1
            have HFF := hY hFF
            have HTT := hY hTT
            have HOFF := hY hOFF
            have HP := hY hP
            have HAO := hY hAO
            have HPb := hY hPb
            have C1 := hY c1
            have C2 := hY c2
            have Hr := hY hr
            clear hfo hat0 hat1 hfu hbu3 hal3 hfw3 hne3 hpb ha1 ha2 hkp0 hkp1 hFF hTT hOFF hP hAO hPb c1 c2 hr
            go_wp2
            go_ret2
            exact fxsP_bad HB.out (C6.out.then Hfw3.out.cg)
          · have d1 : decide (pg < at_ + 8) = false := decide_eq_false c2
            have d2 : decide (SZ < OFF + 8) = true := decide_eq_true (by omega)
            have Hfo := hY hfo
            have Hat0 := hY hat0
            have Hat1 := hY hat1
            have Hfu := hY hfu
            have Hbu3 := hY hbu3
            have Hal3 := hY hal3
            have Hfw3 := hY hfw3
            have Hne3 := hY hne3
            have Hpb := hY hpb
            have Ha1 := hY ha1
            have Ha2 := hY ha2
            have Hkp0 := hY hkp0
            have Hkp1 := hY hkp1
            have HFF := hY hFF
            have HTT := hY hTT
            have HOFF := hY hOFF
            have HP := hY hP
            have HAO := hY hAO
            have HPb := hY hPb
            have C1 := hY c1
            have C2 := hY c2
            have Hr := hY hr
            clear hfo hat0 hat1 hfu hbu3 hal3 hfw3 hne3 hpb ha1 ha2 hkp0 hkp1 hFF hTT hOFF hP hAO hPb c1 c2 hr
            go_wp2
            go_ret2
            exact fxsP_bad HB.out (C6.out.then Hfw3.out.cg)
        case neg =>
        have d1 : decide (pg < at_ + 8) = false := decide_eq_false (fun h => c1 (.inl h))
        have d2 : decide (SZ < OFF + 8) = false := decide_eq_false (fun h => c1 (.inr (by omega)))
        have hr1 : n = r + 1 := by omega
        rw [hr1, folC_succ, ← hP, if_neg c1] at hfo
        by_cases c3 : ac3.length = 20000
        case pos =>
          have HB : Hid (RF = .bad 11) := hY (by rw [← hfo, if_pos c3]; rfl)
          obtain ⟨ad, nd, cd⟩ := s3
          obtain ⟨_, _, he, _, _⟩ := hbu3.rd.shape
          cases he
          have d3 : ((ac3.length : Int) == 20000) = true := by rw [beq_iff_eq]; omega
          have Hfo := hY hfo
          have Hat0 := hY hat0
          have Hat1 := hY hat1
          have Hfu := hY hfu
          have Hbu3 := hY hbu3
          have Hal3 := hY hal3
          have Hfw3 := hY hfw3
          have Hne3 := hY hne3
          have Hpb := hY hpb
          have Ha1 := hY ha1
          have Ha2 := hY ha2
          have Hkp0 := hY hkp0
          have Hkp1 := hY hkp1
          have HFF := hY hFF
          have HTT := hY hTT
          have HOFF := hY hOFF
          have HP := hY hP
          have HAO := hY hAO
          have HPb := hY hPb
          have C1 := hY c1
          have C3 := hY c3
          have Hr := hY hr
          clear hfo hat0 hat1 hfu hbu3 hal3 hfw3 hne3 hpb ha1 ha2 hkp0 hkp1 hFF hTT hOFF hP hAO hPb c1 c3 hr
          go_wp2
          go_ret2
          exact fxsP_bad HB.out (C6.out.then Hfw3.out.cg)
        case neg =>
        rw [if_neg c3] at hfo
        obtain ⟨Z, hZ, hZb⟩ := wordS_b ls l P
        have hwo := HWO.out P hPb wr (C6.out.then hfw3.cg)
        obtain ⟨zE, hzE⟩ : ∃ zE, zE = (wordS ls l P).2 := ⟨_, rfl⟩
        rw [hZ, ← hzE] at hwo
        rw [hZ, Int.toNat_natCast, ← Hlow.out] at hfo
        have hlk := fun W h ri => HLK.out Z hZb fm imps (.slice a2 imps.length c2) W h ri
        simp only [toFx_val] at hlk
        have hsb := step_b low fm Z imps
        obtain ⟨E, hE⟩ : ∃ E, E = linkE low fm Z imps := ⟨_, rfl⟩
        obtain ⟨N, hN⟩ : ∃ N, N = linkN low fm Z imps := ⟨_, rfl⟩
        obtain ⟨X, hX⟩ : ∃ X, X = linkX low fm Z imps := ⟨_, rfl⟩
        have hX2 : toFx (linkF low fm Z imps) = X := hX.symm
        rw [hX2, ← hE, ← hN] at hlk
        rw [← hE, ← hN, ← hX] at hfo
        rw [← hN] at hsb
        have hst3 := fun W => rstride_any fm W
        obtain ⟨st, hstd⟩ : ∃ st, st = strideF fm := ⟨_, rfl⟩
        rw [← hstd] at hfo hsb hst3
        obtain ⟨ST, hST⟩ : ∃ ST, N * st = ST := ⟨_, rfl⟩
        rw [hST] at hfo hsb
        have wS : wrap64 (N * st) = ST := by rw [hST]; unfold wrap64; omega
        obtain ⟨ad, nd, cd⟩ := s3
        obtain ⟨_, _, he, _, _⟩ := hbu3.rd.shape
        cases he
        have hal2 : ac3.length < 20000 := by omega
        have d3 : ((ac3.length : Int) == 20000) = false := by rw [beq_eq_false_iff_ne]; omega
        have hat8 : at_ + 8 ≤ pg := by omega
        have hat9 : at_ ≤ 20000 := by omega
        have wA : ∀ z : Int, 0 ≤ z → z ≤ 32760 → wrap64 (at_ + z) = at_ + z := fun z h1 h2 => by unfold wrap64; omega
        have hrim := RIM.out
        have Hfo := hY hfo
        have Hat0 := hY hat0
        have Hat1 := hY hat1
        have Hfu := hY hfu
        have Hbu3 := hY hbu3
        have Hal3 := hY hal3
        have Hfw3 := hY hfw3
        have Hne3 := hY hne3
        have Hpb := hY hpb
        have Ha1 := hY ha1
        have Ha2 := hY ha2
        have Hkp0 := hY hkp0
        have Hkp1 := hY hkp1
        have HFF := hY hFF
        have HTT := hY hTT
        have HOFF := hY hOFF
        have HP := hY hP
        have HAO := hY hAO
        have HPb := hY hPb
        have C1 := hY c1
        have C3 := hY c3
        have Hr := hY hr
        have Hwo := hY hwo
        have Hlk := hY hlk
        have HE := hY hE
        have HN := hY hN
        have HX := hY hX
        have HX2 := hY hX2
        have Hstd := hY hstd
        have HST := hY hST
        have Hsb := hY hsb
        have HZ := hY hZ
        have HZb := hY hZb
        have HzE := hY hzE
        have Hal2 := hY hal2
        have Hst3 := hY hst3
        have Hat8 := hY hat8
        have Hat9 := hY hat9
        have WA9 := hY wA
        have Hrim := hY hrim
        clear hfo hat0 hat1 hfu hbu3 hal3 hfw3 hne3 hpb ha1 ha2 hkp0 hkp1 hFF hTT hOFF hP hAO hPb c1 c3 hr hwo hlk hE hN hX hX2 hstd hST hsb hZ hZb hzE hal2 hst3 hat8 hat9 wA hrim
        go_upto_region 22 with fail
        clear y1 y2 z2 d1 d2 d3 wT wO wO8 wA8
        go_wp2_with ((with_reducible refine Lay.ldQ Tryz.tImg m ((Hbm.out.frame Hfw3.out.cg).in) ?_ ?_); exact rfl)
        refine hY ?_
        go_wp2_with fail
        refine (Hwo.out).mono ?_
        rintro e V5 ⟨rfl, hc⟩
        have F5 := hY (Hfw3.out.pure hc)
        have U5 := hY (Hbu3.out.pure hc)
        clear hc z1 Hfw3 Hbu3
        have y2 := Sta.c_fmt F5.out.st
        rw [← Hfm.out] at y2
        have y8 := Chn.c_imps (Hbc.out.frame F5.out.cg)
        dsimp only at y8
        go_wp2_with ((with_reducible refine Lay.ldQ Tryz.tImg m ((Hbm.out.frame F5.out.cg).in) ?_ ?_); exact rfl)
        refine hY ?_
        go_wp2_with fail
        refine (Hlk.out V5 (C6.out.then F5.out.cg) (Hrim.out.frame F5.out.cg)).mono ?_
        rintro e V6 ⟨rfl, hc⟩
        have F6 := hY (F5.out.pure hc)
        have U6 := hY (U5.out.pure hc)
        clear hc y2 y8 F5 U5
        go_wp2_with (with_reducible refine Lay.alQ Tryz.tFx ?_)
        refine hY fun V7 b17 eb17 cb17 xb17 => ?_
        go_wp2_with ((with_reducible refine Lay.stQ Tryz.tFx X (xb17.out) ?_ ?_ ?_); exact rfl; exact rfl)
        refine hY fun V8 cV8 xV8 => ?_
        have K8b : Hid (Chg [] V6 V8) := hY (cb17.out.new cV8.out (by rw [eb17.out]; exact Nat.le_refl _))
        have hb17 : V6.heap.size ≤ b17 := by rw [eb17.out]; exact Nat.le_refl _
        have F8 := hY (F6.out.pure K8b.out)
        have U8 := hY (U6.out.pure K8b.out)
        have X8 := hY (xV8.out)
        have N17 : Hid (∀ b, (Value.slice ad ac3.length cd).ownBlock = some b → b ≠ b17) := hY (fun b hb e => by have := (U6.out.lt b hb).2; omega)
        have G17 : Hid (W6.heap.size ≤ b17 ∧ b17 ≠ b10 ∧ b17 ≠ b11) := by
          refine hY ?_
          have h1 := F6.out.cg.size
          have h2 := F6.out.st.lt
          have h3 := F6.out.sg.lt
          omega
        clear eb17 cb17 xb17 cV8 xV8 K8b F6 U6 hb17
        by_cases hE0 : E = 0
        case neg =>
          have dE : (E != 0) = true := by rw [bne_iff_ne]; exact hE0
          have HB : Hid (RF = .bad E) := hY (by rw [← Hfo.out, if_pos hE0]; rfl)
          have HE0 := hY hE0
          clear hE0
          go_wp2
          go_ret2
          exact fxsP_bad HB.out (C6.out.then F8.out.cg)
        case pos =>
        have hfo2 := Hfo.out
        rw [if_neg (fun h => h hE0)] at hfo2
        subst hE0
        have v0 : V8.cell? ⟨b17, 0, none⟩ = some (.int .u64 X.at_) := by have := X8.out.in 0 (by decide); rw [Nat.zero_add] at this; exact this
        have z0 := X8.out.frozen 0
        have z1 := Seg.c_addr F8.out.sg
        rw [← HAD.out] at z1
        obtain ⟨X2, hXX⟩ : ∃ X2 : Fx, X2 = { X with at_ := P } := ⟨_, rfl⟩
        rw [← hXX] at hfo2
        have Hfo2 := hY hfo2
        clear hfo2
        go_upto_region 27 with fail
        refine Lay.with_world (fun W' => fxl.Box W' b17 X2 ∧ RfW W6 b10 b11 x sg W' ∧ FB W' W6.heap.size (.slice ad ac3.length cd) ac3) ?_ (fun V9 hW => ?_)
        · have kk : Chg [b17] V8 (V8.setCell ⟨b17, 0, none⟩ (.int .u64 P)) := (Chg.refl [b17] _).setCell _ _ (.inl (List.mem_singleton.2 rfl))
          have h17 := G17.out
          exact ⟨by rw [hXX]; exact Lay.Box.set X8.out 0 _ _ rfl, F8.out.own kk (fun i hi => by rw [List.mem_singleton] at hi; rw [hi]; exact h17), U8.out.frame kk (fun b hb hm => N17.out b hb (List.mem_singleton.1 hm))⟩
        obtain ⟨hx9, hf9, hu9⟩ := hW
        clear v0 z0 z1 F8 U8 X8
        have X9 := hY hx9
        have F9 := hY hf9
        have U9 := hY hu9
        have HXX := hY hXX
        clear hx9 hf9 hu9 hXX
        go_wp2_with ((with_reducible refine Lay.ldQ Tryz.tFx X2 (X9.out.in) ?_ ?_); exact rfl)
        refine hY ?_
        go_wp2_with ((with_reducible refine bs1 (X2) ((fx_built X2)) ?_ ?_ ?_); exact rfl; exact rfl; intro VA va cva rva; replace cva := hY cva; replace rva := hY rva; refine Hid.out ?_)
        refine hY ?_
        have UA := hY (U9.out.pure cva.out)
        have ZZ9 : Hid (W6.heap.size ≤ VA.heap.size) := hY (Nat.le_trans F9.out.cg.size cva.out.size)
        go_wp2_with (at_builtin; go_must (refine Lay.app (L := fxl) Tryz.infoFxL rfl _ _ rfl W6.heap.size (.slice ad ac3.length cd) ac3 rfl UA.out _ rfl [X2] rva.out (app_fx Hal2.out X2).1 (app_fx Hal2.out X2).2 ZZ9.out ?_); intro vb VB hov hgv hlc; refine Hid.out ?_)
        refine hY ?_
        have hgo := Lay.chg_grown hgv
        have DB : Hid (Chg (Value.slice ad ac3.length cd).ownBlock.toList V9 VB) := hY (cva.out.add.same hgo)
        have TB : Hid (∀ i ∈ (Value.slice ad ac3.length cd).ownBlock.toList, W6.heap.size ≤ i ∧ i ≠ b10 ∧ i ≠ b11) := hY (fun i hi => ⟨(U9.out.lt i (Option.mem_toList.1 hi)).1, Hne3.out i (Option.mem_toList.1 hi)⟩)
        have FBB := hY (F9.out.own DB.out TB.out)
        have OWN : Hid (∀ b, vb.ownBlock = some b → b ≠ b10 ∧ b ≠ b11) := by
          refine hY ?_
          intro b hb
          rcases hlc with h | h
          · rw [h] at hb; exact Hne3.out b hb
          · rw [h] at hb
            injection hb with hb
            have h2 := (F9.out.st.frame cva.out).lt
            have h3 := (F9.out.sg.frame cva.out).lt
            omega
        obtain ⟨ab, cb, rfl, hb1, hb2⟩ := hov.rd.shape
        have hlen1 : (ac3 ++ [X2]).length = ac3.length + 1 := by rw [List.length_append]; rfl
        rw [hlen1] at hov OWN ⊢
        have UB := hY hov
        have Hlen1 := hY hlen1
        clear hov hlen1
        clear hgv hlc hgo UA cva rva hb1 hb2 X9 F9 U9 DB TB ZZ9
        have y2 := Sta.c_fmt FBB.out.st
        rw [← Hfm.out] at y2
        go_wp2_with fail
        refine (Hst3.out _).mono ?_
        rintro e VC ⟨rfl, hc⟩
        have FC := hY (FBB.out.pure hc)
        have UC := hY (UB.out.pure hc)
        clear hc y2 FBB UB
        by_cases s0 : ST = 0
        · have dS : (ST == 0) = true := by rw [beq_iff_eq]; exact s0
          have dG : decide ((0 : Int) < ST) = false := decide_eq_false (by omega)
          have wAS := WA9.out ST Hsb.out.1 Hsb.out.2
          have hfo3 := Hfo2.out
          rw [if_pos s0] at hfo3
          have hfo4 : KK (ac3 ++ [X2]) = RF := hfo3
          have S0 := hY s0
          have Hfo3 := hY hfo3
          have Hfo4 := hY hfo4
          clear s0 hfo3 hfo4
          go_wp2_with fail
          go_roundw
          case rel => exact ⟨0, -1, ac3 ++ [X2], ⟨ab, ac3.length + 1, cb⟩, rfl, rfl, .inr ⟨rfl, Hfo4.out⟩, UC.out, by rw [Hlen1.out]; exact Hal2.out, FC.out, OWN.out⟩
          case measure => exact mesF_end Hat0.out Hat9.out
        · have dS : (ST == 0) = false := by rw [beq_eq_false_iff_ne]; exact s0
          have dG : decide ((0 : Int) < ST) = true := decide_eq_true (by have := Hsb.out.1; omega)
          have hfo3 := Hfo2.out
          rw [if_neg s0] at hfo3
          by_cases s8 : ST < 8
          · have dT : decide (ST < 8) = true := decide_eq_true s8
            rw [if_pos s8] at hfo3
            have HB : Hid (RF = .bad 15) := hY (hfo3.symm)
            have S0 := hY s0
            have S8 := hY s8
            have Hfo3 := hY hfo3
            clear s0 s8 hfo3
            go_wp2
            go_ret2
            exact fxsP_bad HB.out (C6.out.then FC.out.cg)
          · have dT : decide (ST < 8) = false := decide_eq_false s8
            rw [if_neg s8] at hfo3
            have wAS := WA9.out ST Hsb.out.1 Hsb.out.2
            have hs8 : 8 ≤ ST := Int.not_lt.1 s8
            have S0 := hY s0
            have S8 := hY s8
            have Hfo3 := hY hfo3
            have Hs8 := hY hs8
            clear s0 s8 hfo3 hs8
            go_wp2_with fail
            go_roundw
            case rel =>
              have h1 := Hat8.out
              have h2 := Hpb.out
              have h3 := Hs8.out
              have h4 := Hsb.out
              have h5 := Hfu.out
              have h7 := Hat0.out
              have h8 := hr1
              exact ⟨r, at_ + ST, ac3 ++ [X2], ⟨ab, ac3.length + 1, cb⟩, by first | rfl | exact congrArg (Value.int .i64) wAS, rfl, .inl ⟨fol_b1 h7 h3, fol_b2 h1 h2 h4.2, fol_b3 h8 h5 h3, Hfo3.out⟩, UC.out, by rw [Hlen1.out]; exact Hal2.out, FC.out, OWN.out⟩
            case measure => first | exact mesF_step Hat0.out Hat8.out Hpb.out.2 Hs8.out | (rw [wAS]; exact mesF_step Hat0.out Hat8.out Hpb.out.2 Hs8.out)
theorem rfixups_any (l : List UInt8) (hlen : l.length ≤ 100000000) (v : Value) (m : Img) (ls : List Seg) (hls : SegsB ls) (hend : ∀ k, k < ls.length → (ls.getD k .zero).addr + (ls.getD k .zero).size ≤ 140737488355328) (hn1 : ls.length ≤ 1048576) (off size : Nat) (hco : m.chO = (off : Int)) (hcs : m.chS = (size : Int)) (hof : off < 18446744073709551616) (hsf : size < 18446744073709551616)
   (w : World) (rd : byteL.Rd w v l) (rdS : segL.Rd w m.segs.v ls) :
    Calls Tryz.prog 8 #[v, imgL.val m] w (FxsP w (fixupsC l ls m.deps.n off size)) := by
  by_cases h0 : size = 0
  · refine rfixups_none v m _ (by unfold fixupsC; rw [if_pos h0]) (by rw [hcs, h0]; rfl) w
  · exact rfixups_some l hlen v m ls hls hend hn1 off size hco hcs hof hsf h0 w rd rdS _ (by unfold fixupsC; rw [if_neg h0])
end Go.Proofs.YtiljokmkiolpgaaGreatDoor
