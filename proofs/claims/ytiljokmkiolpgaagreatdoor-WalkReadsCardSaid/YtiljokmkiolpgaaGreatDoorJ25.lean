/- Lemmas, laid together: part 25 of 42. Conditions: none but each lemma's own. -/
import Derived.Test.YtiljokmkiolpgaaGreatDoorJ14
import Derived.Test.YtiljokmkiolpgaaGreatDoorJ18
import Derived.Test.YtiljokmkiolpgaaGreatDoorJ24
import Derived.Deep.DeepCutAuto
import Derived.BigQuiet
import Derived.Test.YtiljokmkiolpgaaGreatDoorJ1
namespace Go.Proofs.YtiljokmkiolpgaaGreatDoor
open Go.RowKit
set_option maxRecDepth 100000
theorem chP_uni {w : World} {R : ChR (List StP × List Imp)} {e : Ending} {w' : World} (h : ChP w R e w') : Chg [] w w' ∧ ∃ (c : Chn) (n : Int), e = .returned (.tuple #[chnL.val c, .int .i64 n]) ∧ ((∃ p, R = .ok p ∧ n = 0 ∧ ChnOwn w' w.heap.size c p) ∨ R = .bad n) := by
 obtain ⟨h1, h2⟩ := h
 refine ⟨h1, ?_⟩
 cases R with
 | ok p =>
  obtain ⟨c, he, hc⟩ := h2
  exact ⟨c, 0, he, .inl ⟨p, rfl, rfl, hc⟩⟩
 | bad n => exact ⟨.zero, n, h2, .inr rfl⟩
def FxHd (w : World) (bm : Nat) (m : Img) (R : ChR (List StP × List Imp)) (b6 : Nat) (n : Int) (W : World) : Prop :=
 ∃ c : Chn, chnL.Box W b6 c ∧ imgL.Box W bm m ∧ Chg [] w W ∧ ((∃ p, R = .ok p ∧ n = 0 ∧ ChnRd W c p) ∨ R = .bad n)
theorem fxHd_a {R : ChR (List StP × List Imp)} {n : Int} {c : Chn} {W W' : World} {base b6 : Nat} (h : (∃ p, R = .ok p ∧ n = 0 ∧ ChnOwn W base c p) ∨ R = .bad n) (hl : b6 < base) (k : Chg [b6] W W') : (∃ p, R = .ok p ∧ n = 0 ∧ ChnRd W' c p) ∨ R = .bad n :=
 h.imp (fun ⟨p, h1, h2, h3⟩ => ⟨p, h1, h2, (h3.high k (fun i hi => by rw [List.mem_singleton] at hi; omega)).rd⟩) id
theorem fxHd_b {R : ChR (List StP × List Imp)} {n : Int} {c : Chn} {W X W' : World} {base b6 : Nat} (h : (∃ p, R = .ok p ∧ n = 0 ∧ ChnOwn W base c p) ∨ R = .bad n) (hx : Chg [] W X ∧ W.heap.size ≤ b6) (k : Chg [b6] X W') : (∃ p, R = .ok p ∧ n = 0 ∧ ChnRd W' c p) ∨ R = .bad n :=
 h.imp (fun ⟨p, h1, h2, h3⟩ => ⟨p, h1, h2, h3.rd.frame (hx.1.new k hx.2)⟩) id
def FxsP (w : World) (r : ChR (List Fx)) (e : Ending) (w' : World) : Prop :=
 Chg [] w w' ∧ match r with
 | .ok a => ∃ sl : SlV, e = .returned (.tuple #[.slice sl.a sl.n sl.cap, .int .i64 0]) ∧ FB w' w.heap.size (.slice sl.a sl.n sl.cap) a ∧ a.length ≤ 20000
 | .bad n => e = .returned (.tuple #[.slice none 0 0, .int .i64 n])
theorem fxsP_bad {w w' : World} {r : ChR (List Fx)} {n : Int} (h : r = .bad n) (k : Chg [] w w') : FxsP w r (.returned (.tuple #[.slice none 0 0, .int .i64 n])) w' := by
 rw [h]
 exact ⟨k, rfl⟩
theorem fxsP_ok {w w' : World} {r : ChR (List Fx)} {a : List Fx} (sl : SlV) (h : r = .ok a) (k : Chg [] w w') (hb : FB w' w.heap.size (.slice sl.a sl.n sl.cap) a) (hl : a.length ≤ 20000) : FxsP w r (.returned (.tuple #[.slice sl.a sl.n sl.cap, .int .i64 0])) w' := by
 rw [h]
 exact ⟨k, sl, rfl, hb, hl⟩
theorem fixsC_cons (l : List UInt8) (ls : List Seg) (imps : List Imp) (s : StP) (ss : List StP) (acc : List Fx) : fixsC l ls imps (s :: ss) acc = (pgsC l ls imps (ls.getD s.seg.toNat .zero).addr ((ls.getD s.seg.toNat .zero).addr + (ls.getD s.seg.toNat .zero).size) s.page s.fmt s.begins 0 acc).then fun a => fixsC l ls imps ss a := rfl
theorem pgsC_cons (l : List UInt8) (ls : List Seg) (imps : List Imp) (addr top page fm : Int) (b : Int) (bs : List Int) (i : Nat) (acc : List Fx) : pgsC l ls imps addr top page fm (b :: bs) i acc = if b < 0 then pgsC l ls imps addr top page fm bs (i + 1) acc else
  (folC l ls imps top page fm (addr + i * page) 2049 b acc).then fun a => pgsC l ls imps addr top page fm bs (i + 1) a := rfl
theorem drop_getDW {α : Type} (d : α) (l : List α) {i : Nat} (h : i < l.length) : l.drop i = l.getD i d :: l.drop (i + 1) := by
 rw [List.drop_eq_getElem_cons h, List.getD_eq_getElem?_getD, List.getElem?_eq_getElem h]
 rfl
theorem getD_mem {α : Type} (d : α) (l : List α) {i : Nat} (h : i < l.length) : l.getD i d ∈ l := by
 rw [List.getD_eq_getElem?_getD, List.getElem?_eq_getElem h]
 exact List.getElem_mem h
theorem measW_d {L k : Nat} (h : k < L) : L - (intOf (.int .i64 ((k : Int) + 1))).toNat < L - (intOf (.int .i64 (k : Int))).toNat := by
 show L - ((k : Int) + 1).toNat < L - (k : Int).toNat
 omega
theorem page_b {k : Nat} {page : Int} (hk : k ≤ 65535) (hp : page = 4096 ∨ page = 16384) : 0 ≤ (k : Int) * page ∧ (k : Int) * page ≤ 1073725440 := by
 rcases hp with rfl | rfl <;> omega
theorem own_neW {S : List Nat} {a b n : Nat} (hS : ∀ i ∈ S, i ≠ b) (hn : b < n) (h : a ∈ S ∨ n ≤ a) : a ≠ b := fun e => by
 rcases h with h | h
 ·exact hS a h e
 ·omega
theorem folC_ne (l : List UInt8) (ls : List Seg) (imps : List Imp) (top page fm first : Int) : ∀ (n : Nat) (at_ : Int) (acc : List Fx) (e : Int), folC l ls imps top page fm first n at_ acc = .bad e → e ≠ 0 := by
 intro n
 induction n with
 | zero => intro at_ acc e h; injection h with h; subst h; decide
 | succ n ih =>
  intro at_ acc e h
  unfold folC at h
  split at h
  ·injection h with h; subst h; decide
  split at h
  ·injection h with h; subst h; decide
  split at h
  ·rename_i h3
   injection h with h; subst h; exact h3
  split at h
  ·cases h
  split at h
  ·injection h with h; subst h; decide
  exact ih _ _ e h
theorem partS_len (l : List UInt8) (off size : Nat) : (partS l off size).length ≤ l.length := by
 unfold partS
 split
 ·exact Nat.zero_le _
 ·split
  ·rw [List.length_take, List.length_drop]; omega
  ·exact Nat.zero_le _
set_option maxHeartbeats 2000000 in
theorem fixups_none (v : Value) (m : Img) (RF : ChR (List Fx)) (hRF : RF = .ok []) (hcs : m.chS = 0) (w : World) :
  Calls Tryz.prog 7 #[v, imgL.val m] w (FxsP w RF) := by
 have HRF := hY hRF
 have Hcs := hY hcs
 clear hRF hcs
 go_enter Tryz.func7, Tryz.ntmps7
 go_wp2_with ((with_reducible refine Lay.bxQ (L := imgL) 32 m ?_ ?_); exact rfl)
 refine hY fun W1 bm ebm cbm xbm => ?_
 have y1 := Img.c_chS xbm.out
 rw [Hcs.out] at y1
 go_wp2
 go_ret2
 exact fxsP_ok ⟨none, 0, 0⟩ HRF.out cbm.out (Lay.Buf.nil _ _) (Nat.zero_le _)
set_option linter.unusedSimpArgs false in
set_option maxHeartbeats 16000000 in
theorem fixups_some (l : List UInt8) (hlen : l.length ≤ 100000000) (v : Value) (m : Img) (ls : List Seg) (hls : SegsB ls) (hend : ∀ k, k < ls.length → (ls.getD k .zero).addr + (ls.getD k .zero).size ≤ 140737488355328) (hn1 : ls.length ≤ 1048576) (off size : Nat) (hco : m.chO = (off : Int)) (hcs : m.chS = (size : Int)) (hof : off < 18446744073709551616) (hsf : size < 18446744073709551616) (h0 : size ≠ 0)
   (hwd : ∀ g, g < ls.length → holeS (ls.getD g .zero) = false → ∀ p, (ls.getD g .zero).addr ≤ p → p + 8 ≤ (ls.getD g .zero).addr + (ls.getD g .zero).size → (wordS ls l p).2 = 0) (w : World) (hg : Env w) (rd : byteL.Rd w v l) (rdS : segL.Rd w m.segs.v ls) (hso : ∀ k, m.segs.v.ownBlock = some k → k < w.heap.size) (RF : ChR (List Fx)) (hRF : RF = (readC (partS l off size) ls m.deps.n).then fun c => fixsC l ls c.2 c.1 []) :
    Calls Tryz.prog 7 #[v, imgL.val m] w (FxsP w RF) := by
  obtain ⟨R, hR⟩ : ∃ R, R = readC (partS l off size) ls m.deps.n := ⟨_, rfl⟩
  rw [← hR] at hRF
  have d0 : ((size : Int) == 0) = false := by rw [beq_eq_false_iff_ne]; omega
  have hpl := partS_len l off size
  have HHD : Hid (∀ p, R = .ok p → HeadOk ls p) := hY (fun p h => readC_head (hR.symm.trans h))
  have HNE : Hid (∀ n, R = .bad n → n ≠ 0) := hY (fun n h => readC_in.2 n (hR.symm.trans h))
  have HPT := hY (fun W (h : Chg [] w W) => Part_any l v off size hof hsf W (rd.frame h) hlen)
  have HRE : Hid (∀ pv W, Chg [] w W → byteL.Rd W pv (partS l off size) → Calls Tryz.prog 17 #[pv, imgL.val m] W (ChP W R)) := by
    refine hY ?_
    intro pv W h rp
    rw [hR]
    exact cread_gen (partS l off size) (by omega) m ls hls (fun k hk => by have h1 := hend k hk; have h2 := (hls k hk).1.1; omega) hn1 pv W (hg.frame h (by simp)) rp (rdS.frame h) (fun k hk => Nat.lt_of_lt_of_le (hso k hk) h.size)
  obtain ⟨sa, sn, sc, hse⟩ : ∃ a n c, m.segs = ⟨a, n, c⟩ := ⟨_, _, _, rfl⟩
  have hsa : m.segs.a = sa := by rw [hse]
  have hsn : m.segs.n = sn := by rw [hse]
  have hsc : m.segs.cap = sc := by rw [hse]
  obtain ⟨_, _, hv, hc1, hc2⟩ := rdS.shape
  rw [hse] at hv
  unfold SlV.v at hv
  cases hv
  have HSG : Hid (∀ g, g < ls.length → ∀ W, Chg [] w W → ∃ bS oS, sa = some ⟨bS, oS, none⟩ ∧ segL.In W bS (oS + g * 7) (ls.getD g .zero)) := by
    refine hY ?_
    intro g hg W hW
    have h := rdS.frame hW
    rw [hse] at h
    obtain ⟨bS, oS, e, _, hcell⟩ := Lay.Rd.at h (by omega)
    exact ⟨bS, oS, e, hcell g hg⟩
  have HRF := hY hRF
  have HR := hY hR
  have Hlen := hY hlen
  have Hpl := hY hpl
  have Hof := hY hof
  have Hsf := hY hsf
  have HCO := hY hco
  have HCS := hY hcs
  have Hg := hY hg
  have Rd := hY rd
  have RDS := hY rdS
  have Hso := hY hso
  have Hls := hY hls
  have Hend := hY hend
  have Hn1 := hY hn1
  have Hwd := hY hwd
  have H0 := hY h0
  have Hse := hY hse
  have Hc1 := hY hc1
  have Hc2 := hY hc2
  clear hRF hR hlen hpl hof hsf hco hcs hg rd rdS hso hls hend hn1 hwd h0 hse hc1 hc2
  go_enter Tryz.func7, Tryz.ntmps7
  go_wp2_with ((with_reducible refine Lay.bxQ (L := imgL) 32 m ?_ ?_); exact rfl)
  refine hY fun W1 bm ebm cbm xbm => ?_
  have CM := hY (cbm.out)
  have BM := hY (xbm.out)
  clear ebm cbm xbm
  have y1 := Img.c_chS BM.out
  rw [HCS.out] at y1
  go_upto_region 3 with fail
  clear y1
  go_cut [6, 5] (fun s6 s5 wx => ∃ (b6 : Nat) (n : Int), s6 = .pointer (some ⟨b6, 0, none⟩) ∧ s5 = .int .i64 n ∧ FxHd W1 bm m R b6 n wx)
  case first =>
    refine wp_region_noPanic ?_
    refine wp_region_held_drew (S := fun w' => Chg [] W1 w') (by kernel_rfl) ((Chg.refl [] W1).drew) (fun hHeld => ?_)
    refine tkr 0 ?_ hHeld ?_ ?_
    rotate_left
    · intro w hSw
      go_simp
      try with_reducible rfl
    try simp only [Act.put, aS, aZ, aC]
    refine tkr 1 ?_ hHeld ?_ ?_
    rotate_left
    · intro w hSw
      go_simp
      try with_reducible rfl
    try simp only [Act.put, aS, aZ, aC]
    refine tkr 2 ?_ hHeld ?_ ?_
    rotate_left
    · intro w hSw
      have y1 := Img.c_chO (BM.out.frame hSw)
      have y2 := Img.c_chS (BM.out.frame hSw)
      rw [HCO.out] at y1
      rw [HCS.out] at y2
      go_simp
      try with_reducible rfl
    try simp only [Act.put, aS, aZ, aC]
    refine tkr 4 ?_ hHeld ?_ ?_
    rotate_left
    · intro w hSw
      refine Lay.read_ld Tryz.tImg ((BM.out.frame hSw).in) ?_ ?_
      exact rfl
      exact rfl
    try simp only [Act.put, aS, aZ, aC]
    refine wpAnyH_ready (rs := [3, 9]) (by kernel_rfl) (by simp) ?_
    refine AllReadyH.cons rfl (fun K hK => ?_) (AllReadyH.cons rfl (fun K hK => ?_) AllReadyH.nil)
    · go_simp
      refine (HPT.out _ (CM.out.then hHeld)).mono ?_
      rintro e WP ⟨⟨pv, rfl, hrp⟩, hc⟩
      try replace XX := hY (XX.out.frame hc)
      have RP := hY (hrp)
      have K3 := hY (hHeld.then hc)
      clear hc hrp
      refine hK.out _ _ K3.out ?_
      clear hK hHeld K
      intro hHeld
      try (unfold Act.put; simp only [aS, aZ, aC])
      refine wpAnyH_ready (rs := [5, 9]) (by kernel_rfl) (by simp) ?_
      refine AllReadyH.cons rfl (fun K hK => ?_) (AllReadyH.cons rfl (fun K hK => ?_) AllReadyH.nil)
      · go_simp
        try have LOW := hY XX.out.lt
        refine (HRE.out _ _ (CM.out.then hHeld) RP.out).mono ?_
        rintro e WR hcp
        obtain ⟨hc, c, n, rfl, hcase⟩ := chP_uni hcp
        try replace XX := hY (XX.out.frame hc)
        have C5 := hY (hcase)
        have K5 := hY (hHeld.then hc)
        clear hc hcase hcp
        refine hK.out _ _ K5.out ?_
        clear hK hHeld K
        intro hHeld
        try (unfold Act.put; simp only [aS, aZ, aC])
        refine tkr 6 ?_ hHeld ?_ ?_
        rotate_left
        · intro w hSw
          go_simp
          try with_reducible rfl
        try simp only [Act.put, aS, aZ, aC]
        refine tkr 7 ?_ hHeld ?_ ?_
        rotate_left
        · intro w hSw
          go_simp
          try with_reducible rfl
        try simp only [Act.put, aS, aZ, aC]
        refine tkr 8 ?_ hHeld ?_ ?_
        rotate_left
        · intro w hSw
          go_simp
          try with_reducible rfl
        try simp only [Act.put, aS, aZ, aC]
        refine wpAnyH_ready (rs := [9]) (by kernel_rfl) (by simp) ?_
        refine AllReadyH.cons (by simp only [gA, gC, gZ]; rfl) (fun K hK => ?_) AllReadyH.nil
        refine Lay.armAl Tryz.tChn rfl rfl (fun WX b6 eb6 hcx hxx => ?_)
        have CX : Hid (Chg [] W1 WX) := hY (hHeld.then hcx)
        have HB6 : Hid (W1.heap.size ≤ b6) := hY (by rw [eb6]; exact hHeld.size)
        try replace RP := hY (RP.out.frame hcx)
        have HXR := hY (And.intro hcx (Nat.le_of_eq eb6.symm))
        have XX := hY (hxx)
        clear eb6 hcx hxx
        refine hK.out _ _ CX.out ?_
        clear hK hHeld K
        intro hHeld
        try (unfold Act.put; simp only [aS, aZ, aC])
        refine wpAnyH_ready (rs := [10]) (by kernel_rfl) (by simp) ?_
        refine AllReadyH.cons (by simp only [gA, gC, gZ]; rfl) (fun K hK => ?_) AllReadyH.nil
        refine Lay.armSt Tryz.tChn rfl _ _ rfl rfl c rfl XX.out (fun WY hcy hxy => ?_)
        have CY : Hid (Chg [] W1 WY) := hY (hHeld.new hcy HB6.out)
        have FIN : Hid (FxHd W1 bm m R b6 n WY) := hY (⟨c, hxy, BM.out.frame CY.out, CY.out, by first | exact fxHd_a C5.out LOW.out hcy | exact fxHd_b C5.out HXR.out hcy⟩)
        clear hcy hxy
        refine hK.out _ _ CY.out ?_
        clear hK hHeld K
        intro hHeld
        try (unfold Act.put; simp only [aS, aZ, aC])
        refine tkr 11 ?_ hHeld ?_ ?_
        rotate_left
        · intro w hSw
          go_simp
          try with_reducible rfl
        try simp only [Act.put, aS, aZ, aC]
        refine wpAnyH_done (by kernel_rfl) ?_ _
        refine NoPanic.normal ?_
        go_wp2_with fail
        go_meet
        exact ⟨b6, n, rfl, rfl, FIN.out⟩
      · refine Lay.armAl Tryz.tChn rfl rfl (fun WX b6 eb6 hcx hxx => ?_)
        have CX : Hid (Chg [] W1 WX) := hY (hHeld.then hcx)
        have HB6 : Hid (W1.heap.size ≤ b6) := hY (by rw [eb6]; exact hHeld.size)
        try replace RP := hY (RP.out.frame hcx)
        have HXR := hY (And.intro hcx (Nat.le_of_eq eb6.symm))
        have XX := hY (hxx)
        clear eb6 hcx hxx
        refine hK.out _ _ CX.out ?_
        clear hK hHeld K
        intro hHeld
        try (unfold Act.put; simp only [aS, aZ, aC])
        refine wpAnyH_ready (rs := [5]) (by kernel_rfl) (by simp) ?_
        refine AllReadyH.cons rfl (fun K hK => ?_) AllReadyH.nil
        go_simp
        try have LOW := hY XX.out.lt
        refine (HRE.out _ _ (CM.out.then hHeld) RP.out).mono ?_
        rintro e WR hcp
        obtain ⟨hc, c, n, rfl, hcase⟩ := chP_uni hcp
        try replace XX := hY (XX.out.frame hc)
        have C5 := hY (hcase)
        have K5 := hY (hHeld.then hc)
        clear hc hcase hcp
        refine hK.out _ _ K5.out ?_
        clear hK hHeld K
        intro hHeld
        try (unfold Act.put; simp only [aS, aZ, aC])
        refine tkr 6 ?_ hHeld ?_ ?_
        rotate_left
        · intro w hSw
          go_simp
          try with_reducible rfl
        try simp only [Act.put, aS, aZ, aC]
        refine tkr 7 ?_ hHeld ?_ ?_
        rotate_left
        · intro w hSw
          go_simp
          try with_reducible rfl
        try simp only [Act.put, aS, aZ, aC]
        refine tkr 8 ?_ hHeld ?_ ?_
        rotate_left
        · intro w hSw
          go_simp
          try with_reducible rfl
        try simp only [Act.put, aS, aZ, aC]
        refine wpAnyH_ready (rs := [10]) (by kernel_rfl) (by simp) ?_
        refine AllReadyH.cons (by simp only [gA, gC, gZ]; rfl) (fun K hK => ?_) AllReadyH.nil
        refine Lay.armSt Tryz.tChn rfl _ _ rfl rfl c rfl XX.out (fun WY hcy hxy => ?_)
        have CY : Hid (Chg [] W1 WY) := hY (hHeld.new hcy HB6.out)
        have FIN : Hid (FxHd W1 bm m R b6 n WY) := hY (⟨c, hxy, BM.out.frame CY.out, CY.out, by first | exact fxHd_a C5.out LOW.out hcy | exact fxHd_b C5.out HXR.out hcy⟩)
        clear hcy hxy
        refine hK.out _ _ CY.out ?_
        clear hK hHeld K
        intro hHeld
        try (unfold Act.put; simp only [aS, aZ, aC])
        refine tkr 11 ?_ hHeld ?_ ?_
        rotate_left
        · intro w hSw
          go_simp
          try with_reducible rfl
        try simp only [Act.put, aS, aZ, aC]
        refine wpAnyH_done (by kernel_rfl) ?_ _
        refine NoPanic.normal ?_
        go_wp2_with fail
        go_meet
        exact ⟨b6, n, rfl, rfl, FIN.out⟩
    · refine Lay.armAl Tryz.tChn rfl rfl (fun WX b6 eb6 hcx hxx => ?_)
      have CX : Hid (Chg [] W1 WX) := hY (hHeld.then hcx)
      have HB6 : Hid (W1.heap.size ≤ b6) := hY (by rw [eb6]; exact hHeld.size)
      try replace RP := hY (RP.out.frame hcx)
      have HXR := hY (And.intro hcx (Nat.le_of_eq eb6.symm))
      have XX := hY (hxx)
      clear eb6 hcx hxx
      refine hK.out _ _ CX.out ?_
      clear hK hHeld K
      intro hHeld
      try (unfold Act.put; simp only [aS, aZ, aC])
      refine wpAnyH_ready (rs := [3]) (by kernel_rfl) (by simp) ?_
      refine AllReadyH.cons rfl (fun K hK => ?_) AllReadyH.nil
      go_simp
      refine (HPT.out _ (CM.out.then hHeld)).mono ?_
      rintro e WP ⟨⟨pv, rfl, hrp⟩, hc⟩
      try replace XX := hY (XX.out.frame hc)
      have RP := hY (hrp)
      have K3 := hY (hHeld.then hc)
      clear hc hrp
      refine hK.out _ _ K3.out ?_
      clear hK hHeld K
      intro hHeld
      try (unfold Act.put; simp only [aS, aZ, aC])
      refine wpAnyH_ready (rs := [5]) (by kernel_rfl) (by simp) ?_
      refine AllReadyH.cons rfl (fun K hK => ?_) AllReadyH.nil
      go_simp
      try have LOW := hY XX.out.lt
      refine (HRE.out _ _ (CM.out.then hHeld) RP.out).mono ?_
      rintro e WR hcp
      obtain ⟨hc, c, n, rfl, hcase⟩ := chP_uni hcp
      try replace XX := hY (XX.out.frame hc)
      have C5 := hY (hcase)
      have K5 := hY (hHeld.then hc)
      clear hc hcase hcp
      refine hK.out _ _ K5.out ?_
      clear hK hHeld K
      intro hHeld
      try (unfold Act.put; simp only [aS, aZ, aC])
      refine tkr 6 ?_ hHeld ?_ ?_
      rotate_left
      · intro w hSw
        go_simp
        try with_reducible rfl
      try simp only [Act.put, aS, aZ, aC]
      refine tkr 7 ?_ hHeld ?_ ?_
      rotate_left
      · intro w hSw
        go_simp
        try with_reducible rfl
      try simp only [Act.put, aS, aZ, aC]
      refine tkr 8 ?_ hHeld ?_ ?_
      rotate_left
      · intro w hSw
        go_simp
        try with_reducible rfl
      try simp only [Act.put, aS, aZ, aC]
      refine wpAnyH_ready (rs := [10]) (by kernel_rfl) (by simp) ?_
      refine AllReadyH.cons (by simp only [gA, gC, gZ]; rfl) (fun K hK => ?_) AllReadyH.nil
      refine Lay.armSt Tryz.tChn rfl _ _ rfl rfl c rfl XX.out (fun WY hcy hxy => ?_)
      have CY : Hid (Chg [] W1 WY) := hY (hHeld.new hcy HB6.out)
      have FIN : Hid (FxHd W1 bm m R b6 n WY) := hY (⟨c, hxy, BM.out.frame CY.out, CY.out, by first | exact fxHd_a C5.out LOW.out hcy | exact fxHd_b C5.out HXR.out hcy⟩)
      clear hcy hxy
      refine hK.out _ _ CY.out ?_
      clear hK hHeld K
      intro hHeld
      try (unfold Act.put; simp only [aS, aZ, aC])
      refine tkr 11 ?_ hHeld ?_ ?_
      rotate_left
      · intro w hSw
        go_simp
        try with_reducible rfl
      try simp only [Act.put, aS, aZ, aC]
      refine wpAnyH_done (by kernel_rfl) ?_ _
      refine NoPanic.normal ?_
      go_wp2_with fail
      go_meet
      exact ⟨b6, n, rfl, rfl, FIN.out⟩
  case rest =>
  obtain ⟨b6, n, rfl, rfl, ⟨s1, s2⟩, hbc, hbm, hch, hcs⟩ := hcut
  obtain ⟨W6, rfl⟩ : ∃ W6, W6 = wc := ⟨_, rfl⟩
  have C6 := hY (CM.out.then hch)
  rcases hcs with ⟨p, hRp, rfl, hrd⟩ | hRb
  case inr =>
    have dn : (n != 0) = true := by rw [bne_iff_ne]; exact HNE.out n hRb
    have HB : Hid (RF = .bad n) := hY (by rw [HRF.out, hRb]; rfl)
    have Hbc := hY hbc
    have Hbm := hY hbm
    have Hch := hY hch
    have HRb := hY hRb
    clear hbc hbm hch hRb
    go_wp2
    go_ret2
    exact fxsP_bad HB.out C6.out
  case inl =>
  obtain ⟨ss, imps⟩ := p
  obtain ⟨xs, rsx, rss, rim⟩ := hrd
  obtain ⟨a1, n1, c1⟩ := s1
  obtain ⟨a2, n2, c2⟩ := s2
  have rsx2 : staL.Rd W6 (.slice a1 n1 c1) xs := rsx
  have rim2 : impL.Rd W6 (.slice a2 n2 c2) imps := rim
  have rss2 : StsRd W6 xs ss := rss
  clear rsx rim rss
  have hhd := HHD.out (ss, imps) hRp
  have HRF2 : Hid (fixsC l ls imps ss [] = RF) := hY (by rw [HRF.out, hRp]; rfl)
  obtain ⟨_, _, he, q1, q2⟩ := rsx2.shape
  cases he
  obtain ⟨_, _, he, q3, q4⟩ := rim2.shape
  cases he
  have y1 := Chn.c_starts hbc
  dsimp only at y1
  have Hbc := hY hbc
  have Hbm := hY hbm
  have Hch := hY hch
  have HRp := hY hRp
  have RSX := hY rsx2
  have RIM := hY rim2
  have RSS := hY rss2
  have HDD := hY hhd
  have Q1 := hY q1
  have Q2 := hY q2
  have Q3 := hY q3
  have Q4 := hY q4
  clear hbc hbm hch hRp rsx2 rim2 rss2 hhd q1 q2 q3 q4
  go_wp2_with fail
  clear y1
  go_loopw [31, 4] (fun s31 s4 wr => ∃ (i : Nat) (acc : List Fx) (sl : SlV), i ≤ xs.length ∧ s31 = .int .i64 (i : Int) ∧ s4 = .slice sl.a sl.n sl.cap ∧ fixsC l ls imps (ss.drop i) acc = RF ∧ FB wr W6.heap.size (.slice sl.a sl.n sl.cap) acc ∧ acc.length ≤ 20000 ∧ Chg [] W6 wr) (fun s31 _ _ => xs.length - (intOf s31).toNat)
  case atStart => exact ⟨0, [], ⟨none, 0, 0⟩, Nat.zero_le _, rfl, rfl, HRF2.out, Lay.Buf.nil _ _, Nat.zero_le _, Chg.refl _ _⟩
  case round =>
    obtain ⟨i, acc, sl, hi, rfl, rfl, hfi, hbu, hal, hk⟩ := hrel
    obtain ⟨wo, rfl⟩ : ∃ wo, wo = wr := ⟨_, rfl⟩
    by_cases hlt : i < xs.length
    case neg =>
      obtain rfl : i = xs.length := by omega
      rw [RSS.out.1, List.drop_length] at hfi
      have HB : Hid (RF = .ok acc) := hY (hfi.symm)
      have Hfi := hY hfi
      have Hbu := hY hbu
      have Hal := hY hal
      have Hk := hY hk
      clear hfi hbu hal hk
      go_wp2
      go_ret2
      exact fxsP_ok sl HB.out (C6.out.then Hk.out) (Hbu.out.mono C6.out.size) Hal.out
    case pos =>
    have hls2 : i < ss.length := by rw [← RSS.out.1]; exact hlt
    have HWI : Hid (wrap64 ((i : Int) + 1) = (i : Int) + 1) := by
      refine hY ?_
      have h1 := Q1.out
      have h2 := Q2.out
      unfold wrap64
      omega
    obtain ⟨hst, hbg⟩ := HDD.out i hls2
    have hsr := RSS.out.2 i hlt
    rw [drop_getDW StP.zero ss hls2, fixsC_cons] at hfi
    obtain ⟨x, hx⟩ : ∃ x, x = xs.getD i .zero := ⟨_, rfl⟩
    obtain ⟨s, hs⟩ : ∃ s, s = ss.getD i .zero := ⟨_, rfl⟩
    have hs9 : (ss, imps).1.getD i StP.zero = s := hs.symm
    rw [← hx, ← hs] at hsr
    rw [hs9] at hst hbg
    unfold StOk at hst
    unfold BegOk at hbg
    rw [← hs] at hfi
    obtain ⟨dS, oS, rfl, _, hcell⟩ := (RSX.out.frame hk).at (by omega)
    have hin : staL.In wo dS (oS + i * 4) (xs.getD i .zero) := hcell i hlt
    rw [← hx] at hin
    obtain ⟨e1, e2, e3, e4⟩ := hsr
    obtain ⟨g, hgg⟩ : ∃ g : Nat, s.seg.toNat = g := ⟨_, rfl⟩
    have hxg : x.seg = (g : Int) := by rw [e1]; have := hbg.1; omega
    rw [hgg] at hst hfi
    rw [← e2, ← e3] at hfi
    have hpgx : x.page = 4096 ∨ x.page = 16384 := by rw [e2]; exact hst.2.1
    have hgl : g < ls.length := by have := hst.1; omega
    have hhole : holeS (ls.getD g .zero) = false := hst.2.2.1
    obtain ⟨bgs, hbgs⟩ : ∃ b, b = s.begins := ⟨_, rfl⟩
    rw [← hbgs] at hfi e4
    have hbl : bgs.length ≤ 65535 := by rw [hbgs]; exact hbg.2.1
    have hbv : ∀ b ∈ bgs, -1 ≤ b ∧ b < 65536 := by rw [hbgs]; exact hbg.2.2
    obtain ⟨ba, bn, bcp, hbe⟩ : ∃ a n cap, x.begins = ⟨a, n, cap⟩ := ⟨_, _, _, rfl⟩
    have hba : x.begins.a = ba := by rw [hbe]
    have hbn : x.begins.n = bn := by rw [hbe]
    have hbcp : x.begins.cap = bcp := by rw [hbe]
    rw [hba, hbn, hbcp] at e4
    obtain ⟨_, _, he, q5, q6⟩ := e4.shape
    cases he
    obtain ⟨pg, hpg⟩ : ∃ pg, pg = x.page := ⟨_, rfl⟩
    obtain ⟨fm, hfm⟩ : ∃ fm, fm = x.fmt := ⟨_, rfl⟩
    rw [← hpg, ← hfm] at hfi
    rw [← hpg] at hpgx
    obtain ⟨AD, hAD⟩ : ∃ AD, AD = (ls.getD g .zero).addr := ⟨_, rfl⟩
    obtain ⟨TP, hTP⟩ : ∃ TP, TP = AD + (ls.getD g .zero).size := ⟨_, rfl⟩
    rw [← hAD, ← hTP] at hfi
    have hAD0 : 0 ≤ AD := by rw [hAD]; exact (Hls.out g hgl).1.1
    have hADe : AD ≤ 140737488355328 := by have h1 := Hend.out g hgl; have h2 := (Hls.out g hgl).2.1.1; omega
    have NB : Hid (∀ b, (Value.slice sl.a sl.n sl.cap).ownBlock = some b → b < wo.heap.size) := hY (fun b hb => (hbu.lt b hb).2)
    have Hst := hY hst
    have Hbg := hY hbg
    have Hfi := hY hfi
    have Hbu := hY hbu
    have Hal := hY hal
    have Hk := hY hk
    have Hx := hY hx
    have Hs := hY hs
    have Hs9 := hY hs9
    have Hcell := hY hcell
    have Hin := hY hin
    have E1 := hY e1
    have E2 := hY e2
    have E3 := hY e3
    have BGR := hY e4
    have Hgg := hY hgg
    have Hxg := hY hxg
    have Hpgx := hY hpgx
    have Hhole := hY hhole
    have Hbgs := hY hbgs
    have Hbl := hY hbl
    have Hbv := hY hbv
    have Hbe := hY hbe
    have Q5 := hY q5
    have Q6 := hY q6
    have Hpg := hY hpg
    have Hfm := hY hfm
    have HAD := hY hAD
    have HTP := hY hTP
    have HAD0 := hY hAD0
    have HADe := hY hADe
    have Hls2 := hY hls2
    clear hst hbg hfi hbu hal hk hx hs hs9 hcell hin e1 e2 e3 e4 hgg hxg hpgx hhole hbgs hbl hbv hbe q5 q6 hpg hfm hAD hTP hAD0 hADe hls2
    go_wp2_with ((with_reducible refine Lay.ldQ Tryz.tSta x (Hin.out) ?_ ?_); exact rfl)
    refine hY ?_
    go_wp2_with (with_reducible refine Lay.alQ Tryz.tSta ?_)
    refine hY fun W7 b8 eb8 cb8 xb8 => ?_
    go_wp2_with ((with_reducible refine Lay.stQ Tryz.tSta x (xb8.out) ?_ ?_ ?_); exact rfl; exact rfl)
    refine hY fun W8 cW8 xW8 => ?_
    have K8 : Hid (Chg [] wo W8) := hY (cb8.out.new cW8.out (by rw [eb8.out]; exact Nat.le_refl _))
    have X8 := hY (xW8.out)
    have NE8 : Hid (∀ b, (Value.slice sl.a sl.n sl.cap).ownBlock = some b → b ≠ b8) := hY (fun b hb e => by have := NB.out b hb; have h2 := eb8.out; omega)
    clear eb8 cb8 xb8 cW8 xW8 NB
    have y3 := Sta.c_begins X8.out
    rw [hba, hbn, hbcp] at y3
    go_wp2_with fail
    clear y3
    go_loopw [38, 4] (fun s38 s4 wq => ∃ (k : Nat) (ac2 : List Fx) (s2 : SlV), k ≤ bgs.length ∧ s38 = .int .i64 (k : Int) ∧ s4 = .slice s2.a s2.n s2.cap ∧ ((pgsC l ls imps AD TP pg fm (bgs.drop k) k ac2).then fun a => fixsC l ls imps (ss.drop (i + 1)) a) = RF ∧ FB wq W6.heap.size (.slice s2.a s2.n s2.cap) ac2 ∧ ac2.length ≤ 20000 ∧ Chg [] W6 wq ∧ staL.Box wq b8 x ∧ ∀ b, (Value.slice s2.a s2.n s2.cap).ownBlock = some b → b ≠ b8) (fun s38 _ _ => bgs.length - (intOf s38).toNat)
    case atStart => exact ⟨0, acc, sl, Nat.zero_le _, rfl, rfl, Hfi.out, Hbu.out.pure K8.out, Hal.out, Hk.out.then K8.out, X8.out, NE8.out⟩
    case round =>
      obtain ⟨k, ac2, s2, hk2, rfl, rfl, hpi, hbu2, hal2, hkw, hx8, hne2⟩ := hrel
      by_cases hlt2 : k < bgs.length
      case neg =>
        obtain rfl : k = bgs.length := by omega
        rw [List.drop_length] at hpi
        have hpi2 : fixsC l ls imps (ss.drop (i + 1)) ac2 = RF := hpi
        clear hpi
        have Hpi2 := hY hpi2
        have Hbu2 := hY hbu2
        have Hal2 := hY hal2
        have Hkw := hY hkw
        have Hx8 := hY hx8
        have Hne2 := hY hne2
        clear hpi2 hbu2 hal2 hkw hx8 hne2
        go_wp2_with fail
        go_roundw
        case rel => exact ⟨i + 1, ac2, s2, hlt, by first | rfl | exact congrArg (Value.int .i64) HWI.out, rfl, Hpi2.out, Hbu2.out, Hal2.out, Hkw.out⟩
        case measure => first | exact measW_d hlt | (rw [HWI.out]; exact measW_d hlt)
      case pos =>
      have HWK : Hid (wrap64 ((k : Int) + 1) = (k : Int) + 1) := by
        refine hY ?_
        have h1 := Hbl.out
        unfold wrap64
        omega
      rw [drop_getDW (0 : Int) bgs hlt2, pgsC_cons] at hpi
      obtain ⟨bb, hbb⟩ : ∃ b, b = bgs.getD k 0 := ⟨_, rfl⟩
      have hb2 := Hbv.out bb (by rw [hbb]; exact getD_mem 0 bgs hlt2)
      rw [← hbb] at hpi
      obtain ⟨dB, oB, rfl, _, hcB⟩ := (BGR.out.frame hkw).at (by omega)
      have z1 : wr.cell? ⟨dB, oB + k, none⟩ = some (.int .i64 bb) := by
        have h : wr.cell? ⟨dB, oB + k * 1 + 0, none⟩ = (i64L.f (bgs.getD k 0))[0]? := hcB k hlt2 0 (by decide)
        rw [Nat.mul_one, Nat.add_zero, ← hbb] at h
        exact h
      by_cases hneg : bb < 0
      case pos =>
        have d1 : decide (bb < 0) = true := decide_eq_true hneg
        rw [if_pos hneg] at hpi
        have Hpi := hY hpi
        have Hbu2 := hY hbu2
        have Hal2 := hY hal2
        have Hkw := hY hkw
        have Hx8 := hY hx8
        have Hne2 := hY hne2
        have Hb2 := hY hb2
        have HcB := hY hcB
        have Hbb := hY hbb
        have Hneg := hY hneg
        clear hpi hbu2 hal2 hkw hx8 hne2 hb2 hcB hbb hneg
        go_wp2_with fail
        go_roundw
        case rel => exact ⟨k + 1, ac2, s2, hlt2, by first | rfl | exact congrArg (Value.int .i64) HWK.out, rfl, Hpi.out, Hbu2.out, Hal2.out, Hkw.out, Hx8.out, Hne2.out⟩
        case measure => first | exact measW_d hlt2 | (rw [HWK.out]; exact measW_d hlt2)
      case neg =>
      have d1 : decide (bb < 0) = false := decide_eq_false hneg
      rw [if_neg hneg] at hpi
      obtain ⟨hkp0, hkp1⟩ := page_b (k := k) (page := pg) (by have := Hbl.out; omega) Hpgx.out
      obtain ⟨KP, hKP⟩ : ∃ KP, KP = (k : Int) * pg := ⟨_, rfl⟩
      rw [← hKP] at hpi hkp0 hkp1
      obtain ⟨F, hF⟩ : ∃ F, F = AD + KP := ⟨_, rfl⟩
      rw [← hF] at hpi
      have ha1 := HAD0.out
      have ha2 := HADe.out
      have hf0 : AD ≤ F := by omega
      have hf1 : F ≤ 281474976710656 := by omega
      have wK : IntKind.u64.wrap (k : Int) = (k : Int) := by have := Hbl.out; rw [IntKind.wrap_u64]; omega
      have wPg : IntKind.u64.wrap pg = pg := by have := Hpgx.out; rw [IntKind.wrap_u64]; omega
      have wM : IntKind.u64.wrap ((k : Int) * pg) = KP := by rw [← hKP, IntKind.wrap_u64]; omega
      have wF : IntKind.u64.wrap (AD + KP) = F := by rw [← hF, IntKind.wrap_u64]; omega
      obtain ⟨S, hS⟩ : ∃ S, S = (Value.slice s2.a s2.n s2.cap).ownBlock.toList := ⟨_, rfl⟩
      obtain ⟨RR, hRR⟩ : ∃ RR, RR = folC l ls imps TP pg fm F 2049 bb ac2 := ⟨_, rfl⟩
      rw [← hRR] at hpi
      have hwd2 := Hwd.out g hgl Hhole.out
      rw [← HAD.out, ← HTP.out] at hwd2
      have HSW : Hid (∀ j ∈ S, W6.heap.size ≤ j) := hY (fun j hj => by rw [hS] at hj; exact (hbu2.lt j (Option.mem_toList.1 hj)).1)
      have HSN : Hid (∀ j ∈ S, j ≠ b8) := hY (fun j hj => by rw [hS] at hj; exact hne2 j (Option.mem_toList.1 hj))
      have HFO : Hid (∀ W, Chg [] wr W → Calls Tryz.prog 19 #[v, imgL.val m, staL.val x, .slice a2 imps.length c2, .int .u64 F, .int .i64 bb, .slice s2.a s2.n s2.cap] W (FolP W S W6.heap.size RR)) := by
        refine hY ?_
        intro W hW
        have h := follow_any l Hlen.out v m ls Hls.out Hend.out x g Hxg.out hgl (by rw [← Hpg.out]; exact Hpgx.out) imps (.slice a2 imps.length c2) F bb (by rw [← HAD.out]; exact hf0) hf1 (by omega) hb2.2 (by rw [← HAD.out, ← HTP.out]; exact hwd2) s2 ac2 hal2 W6.heap.size W (Nat.le_trans hkw.size hW.size) (hbu2.pure hW) S hS (fun W2 hW2 => by
          have h2 : Chg [] W6 W2 := (hkw.then hW).trans hW2 (fun j hj hw => absurd hw (Nat.not_lt.2 (HSW.out j hj)))
          exact ⟨Rd.out.frame (C6.out.then h2), RDS.out.frame (C6.out.then h2), RIM.out.frame h2⟩)
        rw [← Hpg.out, ← Hfm.out, ← HAD.out, ← HTP.out, ← hRR] at h
        exact h
      have y4 := Img.c_segs (Hbm.out.frame hkw)
      rw [hsa, hsn, hsc] at y4
      have y5 := Sta.c_seg hx8
      rw [Hxg.out] at y5
      have y6 := Sta.c_page hx8
      rw [← Hpg.out] at y6
      obtain ⟨bS, oS2, rfl, hsi⟩ := HSG.out g hgl wr (C6.out.then hkw)
      have z2 : wr.cell? ⟨bS, oS2 + g * 7 + 1, none⟩ = some (.int .u64 AD) := by rw [HAD.out]; exact hsi 1 (by decide)
      have hgi : (g : Int) < (ls.length : Int) := by omega
      have NE : Hid (∀ q, RR = .bad q → q ≠ 0) := hY (fun q h => folC_ne _ _ _ _ _ _ _ _ _ _ _ (hRR.symm.trans h))
      have Hpi := hY hpi
      have Hbu2 := hY hbu2
      have Hal2 := hY hal2
      have Hkw := hY hkw
      have Hx8 := hY hx8
      have Hne2 := hY hne2
      have Hb2 := hY hb2
      have HcB := hY hcB
      have Hbb := hY hbb
      have Hneg := hY hneg
      have Hkp0 := hY hkp0
      have Hkp1 := hY hkp1
      have HKP := hY hKP
      have HF := hY hF
      have Ha1 := hY ha1
      have Ha2 := hY ha2
      have Hf0 := hY hf0
      have Hf1 := hY hf1
      have HS := hY hS
      have HRR := hY hRR
      have Hwd2 := hY hwd2
      have Hsi := hY hsi
      clear hpi hbu2 hal2 hkw hx8 hne2 hb2 hcB hbb hneg hkp0 hkp1 hKP hF ha1 ha2 hf0 hf1 hS hRR hwd2 hsi
      go_wp2_with fail
      go_quiet (fail)
      obtain ⟨WQ, hWQ⟩ : ∃ x, x = wr.drewN nq := ⟨_, rfl⟩
      rw [← hWQ]
      have KQ : Hid (Chg [] wr WQ) := hY (by rw [hWQ]; exact (Chg.refl _ _).drewN _)
      clear hWQ y4 y5 y6 z1 z2 wK wPg wM wF
      have y8 := Chn.c_imps (Hbc.out.frame (Hkw.out.then KQ.out))
      dsimp only at y8
      go_wp2_with ((with_reducible refine Lay.ldQ Tryz.tImg m ((Hbm.out.frame (Hkw.out.then KQ.out)).in) ?_ ?_); exact rfl)
      refine hY ?_
      go_wp2_with ((with_reducible refine Lay.ldQ Tryz.tSta x ((Hx8.out.frame KQ.out).in) ?_ ?_); exact rfl)
      refine hY ?_
      go_wp2_with fail
      refine (HFO.out WQ KQ.out).mono ?_
      rintro e WF hfp
      clear y8
      obtain ⟨hc, hfp⟩ := hfp
      have KF : Hid (Chg [] W6 WF) := hY ((Hkw.out.then KQ.out).trans hc (fun j hj hw => absurd hw (Nat.not_lt.2 (HSW.out j hj))))
      have XF8 := hY ((Hx8.out.frame KQ.out).frameS hc (fun hm => HSN.out b8 hm rfl))
      cases RR with
      | bad q =>
        have he : e = .returned (.tuple #[.slice none 0 0, .int .i64 q]) := hfp
        subst he
        have dq : (q != 0) = true := by rw [bne_iff_ne]; exact NE.out q rfl
        have HB : Hid (RF = .bad q) := hY (by rw [← Hpi.out]; rfl)
        clear hfp hc
        go_wp2
        go_ret2
        exact fxsP_bad HB.out (C6.out.then KF.out)
      | ok a =>
        obtain ⟨s3, he, hb3, ho3, hl3⟩ := hfp
        subst he
        have HPN : Hid (((pgsC l ls imps AD TP pg fm (bgs.drop (k + 1)) (k + 1) a).then fun a => fixsC l ls imps (ss.drop (i + 1)) a) = RF) := hY (Hpi.out)
        have NE3 : Hid (∀ b, (Value.slice s3.a s3.n s3.cap).ownBlock = some b → b ≠ b8) := hY (fun b hb => own_neW HSN.out (Hx8.out.frame KQ.out).lt (ho3 b hb))
        have Hb3 := hY hb3
        have Ho3 := hY ho3
        have Hl3 := hY hl3
        have Hc := hY hc
        clear hb3 ho3 hl3 hc
        go_wp2_with fail
        go_roundw
        case rel => exact ⟨k + 1, a, s3, hlt2, by first | rfl | exact congrArg (Value.int .i64) HWK.out, rfl, HPN.out, Hb3.out, Hl3.out, KF.out, XF8.out, NE3.out⟩
        case measure => first | exact measW_d hlt2 | (rw [HWK.out]; exact measW_d hlt2)
theorem fixups_any (l : List UInt8) (hlen : l.length ≤ 100000000) (v : Value) (m : Img) (ls : List Seg) (hls : SegsB ls) (hend : ∀ k, k < ls.length → (ls.getD k .zero).addr + (ls.getD k .zero).size ≤ 140737488355328) (hn1 : ls.length ≤ 1048576) (off size : Nat) (hco : m.chO = (off : Int)) (hcs : m.chS = (size : Int)) (hof : off < 18446744073709551616) (hsf : size < 18446744073709551616)
   (hwd : ∀ g, g < ls.length → holeS (ls.getD g .zero) = false → ∀ p, (ls.getD g .zero).addr ≤ p → p + 8 ≤ (ls.getD g .zero).addr + (ls.getD g .zero).size → (wordS ls l p).2 = 0) (w : World) (hg : Env w) (rd : byteL.Rd w v l) (rdS : segL.Rd w m.segs.v ls) (hso : ∀ k, m.segs.v.ownBlock = some k → k < w.heap.size) :
    Calls Tryz.prog 7 #[v, imgL.val m] w (FxsP w (fixupsC l ls m.deps.n off size)) := by
  by_cases h0 : size = 0
  · refine fixups_none v m _ (by unfold fixupsC; rw [if_pos h0]) (by rw [hcs, h0]; rfl) w
  · exact fixups_some l hlen v m ls hls hend hn1 off size hco hcs hof hsf h0 hwd w hg rd rdS hso _ (by unfold fixupsC; rw [if_neg h0])
end Go.Proofs.YtiljokmkiolpgaaGreatDoor
