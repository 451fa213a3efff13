/- Lemmas, laid together: part 39 of 39. Conditions: none but each lemma's own. -/
import Derived.Test.YtnaonkbbecdboaaDoorJ34
import Derived.Test.YtnaonkbbecdboaaDoorJ37
import Derived.Test.YtnaonkbbecdboaaDoorJ38
/- clevislaw05.LoadOrder, walked. -/
namespace Go.Proofs.YtnaonkbbecdboaaDoor
open Go.RowKit
set_option maxRecDepth 100000

theorem Tryd.tDp : Lay.Ty depL Tryd.prog 56 := Lay.Ty.mk' (by kernel_rfl) (by kernel_rfl)
theorem Segment5_good (l : List UInt8) (hE : segE l = 0) (v : Value) (w : World) (rd : byteL.Rd w v l) (hl : l.length ≤ 140737488355328) :
    Calls Tryd.prog 8 #[v] w fun e w' => ∃ s : Seg, e = .returned (.tuple #[segL.val s, .int .i64 0]) ∧ Chg [] w w' ∧ SegRd w' s (segP l) := by
  have ho : opE l = 0 := by
    by_cases h : opE l = 0
    · exact h
    · unfold segE at hE; rw [if_pos h] at hE; exact absurd hE (by decide)
  have h25 : n4 l 0 = 25 := by
    by_cases h : n4 l 0 = 25
    · exact h
    · unfold segE at hE; rw [if_neg (by simp [ho]), if_pos h] at hE; exact absurd hE (by decide)
  have h3 : ¬ l.length < 72 + 80 * n4 l 64 := by
    intro h
    unfold segE at hE; rw [if_neg (by simp [ho]), if_neg (by simp [h25]), if_pos h] at hE; exact absurd hE (by decide)
  refine (Segment5_main l ho h25 h3 v w rd hl).mono ?_
  rintro e w' ⟨s, E, rfl, hEq, hc, hs⟩
  obtain ⟨h1, h2⟩ := hs (hEq.trans hE)
  rw [hEq, hE]
  exact ⟨s, rfl, hc, by rw [h1]; rfl, h2.rd⟩
set_option maxHeartbeats 4000000 in
theorem LoadOrder_big (w : World) (hg : Env w) (l : List UInt8) (a : Option Addr) (cap : Nat) (h : 20000 < l.length) :
    Calls Tryd.prog 3 #[.slice a l.length cap] w fun e w' => e = .returned (.bool true) ∧ Chg [] w w' := by
  have d1 : decide ((20000 : Int) < (l.length : Int)) = true := decide_eq_true (by omega)
  have d1' : decide (20000 < l.length) = true := decide_eq_true h
  have Hg := Lib.hid hg
  have H := Lib.hid h
  clear hg h
  go_enter Tryd.func3, Tryd.ntmps3
  go_wp2_with fail
  refine (known5_any w Hg.out).mono ?_
  rintro e W1 ⟨rfl, hc⟩
  have Hc := Lib.hid hc
  clear hc
  go_wp2
  go_ret
  exact ⟨rfl, Hc.out⟩
set_option maxHeartbeats 4000000 in
theorem LoadOrder_bad (w : World) (hg : Env w) (l : List UInt8) (a : Option Addr) (cap : Nat) (rd : byteL.Rd w (.slice a l.length cap) l) (h : ¬ 20000 < l.length) (hE : ¬ imgE l = 0) :
    Calls Tryd.prog 3 #[.slice a l.length cap] w fun e w' => e = .returned (.bool true) ∧ Chg [] w w' := by
  have d1 : decide ((20000 : Int) < (l.length : Int)) = false := decide_eq_false (by omega)
  have d1' : decide (20000 < l.length) = false := decide_eq_false h
  have him := Image_any l (by omega) a cap w hg rd
  unfold ImgSays at him
  obtain ⟨E, hEE⟩ : ∃ E, E = imgE l := ⟨_, rfl⟩
  rw [← hEE] at hE him
  have d0 : (E != 0) = true := by rw [bne_iff_ne]; exact hE
  have Hg := Lib.hid hg
  have H := Lib.hid h
  have HIM := Lib.hid him
  have HE := Lib.hid hE
  have Rd := Lib.hid rd
  have HEE := Lib.hid hEE
  clear hg h him hE rd hEE
  go_enter Tryd.func3, Tryd.ntmps3
  go_wp2_with fail
  refine (HIM.out).mono ?_
  rintro e W1 ⟨m, rfl, hch, _, _⟩
  have C1 := Lib.hid (hch)
  clear hch
  go_wp2_with ((with_reducible refine Lay.alL Tryd.tIm ?_); intro W2 bm ebm cbm xbm; replace ebm := Lib.hid ebm; replace cbm := Lib.hid cbm; replace xbm := Lib.hid xbm; refine Hid.out ?_)
  refine Lib.hid ?_
  go_wp2_with ((with_reducible refine Lay.stL Tryd.tIm m (xbm.out) ?_ ?_ ?_); exact rfl; exact rfl; intro W3 cW3 xW3; replace cW3 := Lib.hid cW3; replace xW3 := Lib.hid xW3; refine Hid.out ?_)
  refine Lib.hid ?_
  have C3 := Lib.hid (C1.out.then (cbm.out.new cW3.out (by rw [ebm.out]; exact Nat.le_refl _)))
  go_wp2_with fail
  refine (known5_any _ (Hg.out.frame C3.out (by simp))).mono ?_
  rintro e W4 ⟨rfl, hc⟩
  have C4 := Lib.hid (C3.out.then hc)
  clear hc
  go_wp2
  go_ret
  exact ⟨rfl, C4.out⟩
/-- The loop's state. -/
structure LoR (P : TP) (ls : List (List UInt8)) (k : Nat) (pk : TP) : Prop where
  e : tellE pk (ls.drop k) = 0
  s : tellS pk (ls.drop k) = P
set_option maxHeartbeats 8000000 in
theorem LoadOrder_good (w : World) (hg : Env w) (l : List UInt8) (a : Option Addr) (cap : Nat) (rd : byteL.Rd w (.slice a l.length cap) l) (h : ¬ 20000 < l.length) (hE : imgE l = 0) :
    Calls Tryd.prog 3 #[.slice a l.length cap] w fun e w' => e = .returned (.bool true) ∧ Chg [] w w' := by
  have d1 : decide ((20000 : Int) < (l.length : Int)) = false := decide_eq_false (by omega)
  have d1' : decide (20000 < l.length) = false := decide_eq_false h
  have him := Image_any l (by omega) a cap w hg rd
  unfold ImgSays at him
  have h0 := imgE_0 hE
  rw [hE] at him
  have hrr := fun w rd => RRead_any l a cap w rd (by omega)
  unfold RReadsAll at hrr
  have hrn : ∀ n, rN l n = n := fun n => by unfold rN; rw [if_pos h0.1]
  simp only [hrn, h0.1] at hrr
  obtain ⟨P, hP⟩ : ∃ P, P = imgP l := ⟨_, rfl⟩
  rw [← hP] at him
  obtain ⟨ls, hls⟩ : ∃ ls, ls = cmdLs l := ⟨_, rfl⟩
  have hlr : LoR P ls 0 (tp0 l) := ⟨by rw [hls]; exact h0.2, by rw [hls, hP]; rfl⟩
  have hmem : ∀ k, (ls.getD k []).length ≤ 140737488355328 := fun k => by rw [hls]; exact cmdLs_len l (by omega) k
  have hsd : (tp0 l).segs.length = 0 ∧ (tp0 l).deps.length = 0 := ⟨rfl, rfl⟩
  obtain ⟨p0, hp0⟩ : ∃ p0, p0 = tp0 l := ⟨_, rfl⟩
  rw [← hp0] at hlr hsd
  obtain ⟨K, hK⟩ : ∃ K : Nat, K = nL l 12 := ⟨_, rfl⟩
  obtain ⟨S, hS⟩ : ∃ S : Nat, S = hdSub l := ⟨_, rfl⟩
  obtain ⟨F, hF⟩ : ∃ F : Nat, F = nL l 24 := ⟨_, rfl⟩
  rw [← hK, ← hS, ← hF] at hrr
  have Hg := Lib.hid hg
  have H := Lib.hid h
  have HIM := Lib.hid him
  have HE := Lib.hid hE
  have RD := Lib.hid rd
  have HRR := Lib.hid hrr
  have H0 := Lib.hid h0
  have HP := Lib.hid hP
  have Hls := Lib.hid hls
  have Hlr := Lib.hid hlr
  have Hmem := Lib.hid hmem
  have Hsd := Lib.hid hsd
  have Hp0 := Lib.hid hp0
  have HK := Lib.hid hK
  have HS := Lib.hid hS
  have HF := Lib.hid hF
  have Hrn := Lib.hid hrn
  clear hg h him hE rd hrr h0 hP hls hlr hmem hsd hp0 hK hS hF hrn
  go_enter Tryd.func3, Tryd.ntmps3
  go_wp2_with fail
  refine (HIM.out).mono ?_
  rintro e W1 ⟨m, rfl, hch, hd, _⟩
  have C1 := Lib.hid (hch)
  obtain ⟨xs, _, hsg, hsk, hdp⟩ := hd trivial
  clear hd hch
  go_wp2_with ((with_reducible refine Lay.alL Tryd.tIm ?_); intro W2 bm ebm cbm xbm; replace ebm := Lib.hid ebm; replace cbm := Lib.hid cbm; replace xbm := Lib.hid xbm; refine Hid.out ?_)
  refine Lib.hid ?_
  go_wp2_with ((with_reducible refine Lay.stL Tryd.tIm m (xbm.out) ?_ ?_ ?_); exact rfl; exact rfl; intro W3 cW3 xW3; replace cW3 := Lib.hid cW3; replace xW3 := Lib.hid xW3; refine Hid.out ?_)
  refine Lib.hid ?_
  have c13 := cbm.out.new cW3.out (by rw [ebm.out]; exact Nat.le_refl _)
  have C3 := Lib.hid (C1.out.then c13)
  have XM3 := Lib.hid (xW3.out)
  go_wp2_with fail
  refine (HRR.out W3 (Rd_of_byte (RD.out.frame C3.out))).mono ?_
  rintro e W4 ⟨v, ps, base, rfl, hown, heach, hmap, hch⟩
  obtain ⟨cs, hcl, hbf, hrds⟩ := cmr_rd2 hown heach
  have hlp : ps.map (fun p => p.1.2) = ls := by rw [Hls.out]; unfold cmdLs; rw [← hmap]; simp
  have hln : cs.length = ls.length := by rw [hcl, ← hlp]; simp
  rw [hlp] at hrds
  have hrds2 : ∀ k, k < cs.length → byteL.Rd W4 (.slice (cs.getD k .zero).bytes.a (cs.getD k .zero).bytes.n (cs.getD k .zero).bytes.cap) (ls.getD k []) := fun k hk => hrds k (by rw [← hcl]; exact hk)
  obtain ⟨va, vc, rfl, hvc1, hvc2⟩ := hbf.rd.shape
  have c14 := c13.then hch
  have C4 := Lib.hid (C3.out.then hch)
  have XM4 := Lib.hid (XM3.out.frame hch)
  have SG4 := Lib.hid (hsg.pure c14)
  have SK4 := Lib.hid (hsk.pure c14)
  have DP4 := Lib.hid (hdp.pure c14)
  have CB4 := Lib.hid (hbf)
  have CR4 := Lib.hid (hrds2)
  have HLN := Lib.hid hln
  clear hln
  clear hown heach hmap hch hcl hrds hlp hvc1 hvc2 c14 c13 hsg hsk hdp hbf hrds2
  go_wp2_with ((with_reducible refine Lay.alL Tryd.tHdr ?_); intro W5 bh ebh cbh xbh; replace ebh := Lib.hid ebh; replace cbh := Lib.hid cbh; replace xbh := Lib.hid xbh; refine Hid.out ?_)
  refine Lib.hid ?_
  go_wp2_with ((with_reducible refine Lay.stL Tryd.tHdr (⟨(S : Nat), (K : Nat), (F : Nat)⟩ : Hdr) (xbh.out) ?_ ?_ ?_); exact rfl; exact rfl; intro W6 cW6 xW6; replace cW6 := Lib.hid cW6; replace xW6 := Lib.hid xW6; refine Hid.out ?_)
  refine Lib.hid ?_
  have c46 := cbh.out.new cW6.out (by rw [ebh.out]; exact Nat.le_refl _)
  have C6 := Lib.hid (C4.out.then c46)
  have XM6 := Lib.hid (XM4.out.frame c46)
  have SG6 := Lib.hid (SG4.out.pure c46)
  have SK6 := Lib.hid (SK4.out.pure c46)
  have DP6 := Lib.hid (DP4.out.pure c46)
  have CB6 := Lib.hid (CB4.out.pure c46)
  have CR6 := Lib.hid (fun k hk => (CR4.out k hk).frame c46)
  clear c46 SG4 SK4 DP4 CB4 CR4 XM4 XM3
  have NS : Hid (m.segs.n = P.segs.length) := by
    refine Lib.hid ?_
    obtain ⟨_, _, he, _, _⟩ := SG6.out.rd.shape
    injection he with _ he2 _
    rw [he2, SK6.out.1]
  have HSM : Hid (P.segs.length ≤ 9223372036854775807) := by
    refine Lib.hid ?_
    obtain ⟨_, _, _, h1, h2⟩ := SG6.out.rd.shape
    rw [SK6.out.1] at h1
    omega
  have HDM : Hid (P.deps.length ≤ 9223372036854775807) := by
    refine Lib.hid ?_
    obtain ⟨_, _, _, h1, h2⟩ := DP6.out.rd.shape
    omega
  have HCM : Hid (cs.length ≤ 9223372036854775807) := by
    refine Lib.hid ?_
    obtain ⟨_, _, _, h1, h2⟩ := CB6.out.rd.shape
    omega
  have ND : Hid (m.deps.n = P.deps.length) := by
    refine Lib.hid ?_
    obtain ⟨_, _, he, _, _⟩ := DP6.out.rd.shape
    injection he
  go_wp2_with fail
  go_loopw [9, 10, 11] (fun s9 s10 s11 wr => ∃ (k : Nat) (pk : TP), k ≤ cs.length ∧ s11 = .int .i64 (k : Int) ∧ s9 = .int .i64 (pk.segs.length : Int) ∧ s10 = .int .i64 (pk.deps.length : Int) ∧ LoR P ls k pk ∧ Chg [] W6 wr) (fun _ _ s11 _ => cs.length - (intOf s11).toNat)
  case atStart => exact ⟨0, p0, Nat.zero_le _, rfl, by rw [Hsd.out.1]; rfl, by rw [Hsd.out.2]; rfl, Hlr.out, Chg.refl _ _⟩
  case round =>
    obtain ⟨k, pk, hk, rfl, rfl, rfl, hlr, hc⟩ := hrel
    by_cases hlt : k < cs.length
    · have dlt : decide ((k : Int) < (cs.length : Int)) = true := decide_eq_true (by omega)
      have HW2 : Hid (wrap64 ((k : Int) + 1) = (k : Int) + 1) := Lib.hid (by have := HCM.out; unfold wrap64; omega)
      have hw2 := HW2.out
      obtain ⟨g, cap', hsl, _, _, _, _, _, _, hIn⟩ := CB6.out.at (by omega)
      injection hsl with hsl1 hsl2 hsl3
      subst hsl1
      clear hsl2 hsl3
      have hI := (hIn k hlt).frame hc
      obtain ⟨x, hx⟩ : ∃ x, x = cs.getD k cmrL.d := ⟨_, rfl⟩
      rw [← hx] at hI
      have hrk := (CR6.out k hlt).frame hc
      rw [show cs.getD k Cmr.zero = x from hx.symm] at hrk
      obtain ⟨he, hs⟩ := hlr
      rw [drop_getD ls k [] (by rw [← HLN.out]; exact hlt)] at he hs
      have hlk := Hmem.out k
      obtain ⟨lk, hlkk⟩ : ∃ lk, lk = ls.getD k [] := ⟨_, rfl⟩
      rw [← hlkk] at hrk he hs hlk
      obtain ⟨ho, he1, hs1, hsegs, hdeps⟩ := tell_round he hs
      have hts := tS_segs pk lk
      have htd := tS_deps pk lk
      have yb := (Cmr.at hI).2
      rw [show cmrL.n = 2 from rfl] at yb
      have hcm := fun w rd => ho ▸ Cmd5_any lk (.slice x.bytes.a x.bytes.n x.bytes.cap) w rd
      rw [show cmdN lk = n4 lk 0 by unfold cmdN; rw [if_neg (by have := (opE_len ho).1; omega)]] at hcm
      obtain ⟨z, hz⟩ : ∃ z, z = n4 lk 0 := ⟨_, rfl⟩
      rw [← hz] at hcm hsegs hdeps hts htd
      have y4 := Img.c_segs (XM6.out.frame hc)
      have y5 := Img.c_deps (XM6.out.frame hc)
      rw [NS.out] at y4
      rw [ND.out] at y5
      have hdp5 := fun w => Dep5_any (z : Int) w
      have Hx := Lib.hid hx
      have HI := Lib.hid hI
      have Hrk := Lib.hid hrk
      have HIn := Lib.hid hIn
      have He := Lib.hid he
      have Hs := Lib.hid hs
      have Hlk := Lib.hid hlk
      have Hlkk := Lib.hid hlkk
      have Ho := Lib.hid ho
      have He1 := Lib.hid he1
      have Hs1 := Lib.hid hs1
      have Hcm := Lib.hid hcm
      have CW := Lib.hid hc
      have Hz := Lib.hid hz
      have Hdp5 := Lib.hid hdp5
      have Htd := Lib.hid htd
      have Hts := Lib.hid hts
      clear hx hI hrk hIn he hs hlk hlkk ho he1 hs1 hcm hc hz hdp5 htd hts
      go_wp2_with fail
      refine (Hcm.out _ Hrk.out).mono ?_
      rintro e WG ⟨rfl, rfl⟩
      by_cases h25 : z = 25
      · obtain ⟨hse, hlt2, hget⟩ := hsegs h25
        clear hsegs hdeps
        have hd25 : depK (z : Int) = 0 := by rw [h25]; decide
        have hdp5 := fun w => hd25 ▸ Hdp5.out w
        obtain ⟨q, hq⟩ : ∃ q, q = pk.segs.length := ⟨_, rfl⟩
        obtain ⟨g2, cap2, hsl, _, _, _, _, _, _, hIn2⟩ := SG6.out.at (by rw [SK6.out.1]; omega)
        injection hsl with hsl1 hsl2 hsl3
        rw [hsl1] at y4
        clear hsl1 hsl2 hsl3
        have hI2 := (hIn2 pk.segs.length (by rw [SK6.out.1]; exact hlt2)).frame CW.out
        have hS2 := SK6.out.2 pk.segs.length (by rw [SK6.out.1]; exact hlt2)
        rw [hget] at hS2
        obtain ⟨sx, hsx⟩ : ∃ sx, sx = xs.getD pk.segs.length .zero := ⟨_, rfl⟩
        rw [← hsx] at hS2
        rw [show xs.getD pk.segs.length segL.d = sx from hsx.symm] at hI2
        have hsr : SegRd WG sx (segP lk) := ⟨hS2.1, (hS2.2.pure CW.out).rd⟩
        rw [← hq] at hI2 hlt2
        have d8 : decide ((P.segs.length : Int) ≤ (q : Int)) = false := decide_eq_false (by omega)
        have d8' : decide (P.segs.length ≤ q) = false := decide_eq_false (by omega)
        have e25 : (((z : Nat) : Int) == 25) = true := by rw [h25]; rfl
        rw [show segL.n = 7 from rfl] at hI2
        have HSG := Lib.hid (fun w rd => Segment5_good lk hse (.slice x.bytes.a x.bytes.n x.bytes.cap) w rd Hlk.out)
        have hwq : wrap64 ((q : Int) + 1) = (q : Int) + 1 := by have := HSM.out; unfold wrap64; omega
        rw [← hq]
        have H25 := Lib.hid h25
        have Hse := Lib.hid hse
        have Hget := Lib.hid hget
        have Hd25 := Lib.hid hd25
        have HD5 := Lib.hid hdp5
        have Hsx := Lib.hid hsx
        have HS2 := Lib.hid hS2
        have Hsr := Lib.hid hsr
        have HI2 := Lib.hid hI2
        have HIn2 := Lib.hid hIn2
        have Hq := Lib.hid hq
        clear h25 hse hget hd25 hdp5 hsx hS2 hsr hI2 hIn2 hq
        go_wp2_with fail
        refine (HSG.out _ Hrk.out).mono ?_
        rintro e WH ⟨s, rfl, hch, hsd2⟩
        have CH := Lib.hid (hch)
        have SD := Lib.hid (hsd2)
        clear hch hsd2
        go_wp2_with ((with_reducible refine Lay.alL Tryd.tSg ?_); intro WI bz ebz cbz xbz; replace ebz := Lib.hid ebz; replace cbz := Lib.hid cbz; replace xbz := Lib.hid xbz; refine Hid.out ?_)
        refine Lib.hid ?_
        go_wp2_with ((with_reducible refine Lay.stL Tryd.tSg s (xbz.out) ?_ ?_ ?_); exact rfl; exact rfl; intro WJ cWJ xWJ; replace cWJ := Lib.hid cWJ; replace xWJ := Lib.hid xWJ; refine Hid.out ?_)
        refine Lib.hid ?_
        have cHJ := cbz.out.new cWJ.out (by rw [ebz.out]; exact Nat.le_refl _)
        have cJ := CH.out.then cHJ
        replace y4 := cJ.cell y4 (by simp)
        replace y5 := cJ.cell y5 (by simp)
        have SDJ := Lib.hid (SD.out.frame cHJ)
        have SRJ := Lib.hid (Hsr.out.frame cJ)
        have IJ := Lib.hid (HI2.out.frame cJ)
        have CJ := Lib.hid (CW.out.then cJ)
        clear cHJ cJ yb
        go_upto_region 16 with fail
        refine wp_region_noPanic ?_
        refine wp_region_held_drew (S := fun w' => Chg [] WJ w') (by kernel_rfl) ((Chg.refl _ _).drew) (fun hHeld => ?_)
        refine take_read (i := 0) (v := ?_) (by simp only [List.getElem?_toArray, List.getElem?_cons_zero]; rfl) (by kernel_rfl) (by kernel_rfl) (by kernel_rfl) (fun _ _ _ h => h) hHeld ?_ ?_
        rotate_left
        · intro w hSw
          go_simp
          try with_reducible rfl
        try simp only [Act.put, List.setIfInBounds_toArray, List.set_cons_zero, List.set_cons_succ]
        refine take_read (i := 1) (v := ?_) (by simp only [List.getElem?_toArray, List.getElem?_cons_succ, List.getElem?_cons_zero]; rfl) (by kernel_rfl) (by kernel_rfl) (by kernel_rfl) (fun _ _ _ h => h) hHeld ?_ ?_
        rotate_left
        · intro w hSw
          go_simp
          try with_reducible rfl
        try simp only [Act.put, List.setIfInBounds_toArray, List.set_cons_zero, List.set_cons_succ]
        refine take_read (i := 2) (v := ?_) (by simp only [List.getElem?_toArray, List.getElem?_cons_succ, List.getElem?_cons_zero]; rfl) (by kernel_rfl) (by kernel_rfl) (by kernel_rfl) (fun _ _ _ h => h) hHeld ?_ ?_
        rotate_left
        · intro w hSw
          go_simp
          try with_reducible rfl
        try simp only [Act.put, List.setIfInBounds_toArray, List.set_cons_zero, List.set_cons_succ]
        refine take_read (i := 3) (v := ?_) (by simp only [List.getElem?_toArray, List.getElem?_cons_succ, List.getElem?_cons_zero]; rfl) (by kernel_rfl) (by kernel_rfl) (by kernel_rfl) (fun _ _ _ h => h) hHeld ?_ ?_
        rotate_left
        · intro w hSw
          go_simp
          try with_reducible rfl
        try simp only [Act.put, List.setIfInBounds_toArray, List.set_cons_zero, List.set_cons_succ]
        refine take_read (i := 4) (v := ?_) (by simp only [List.getElem?_toArray, List.getElem?_cons_succ, List.getElem?_cons_zero]; rfl) (by kernel_rfl) (by kernel_rfl) (by kernel_rfl) (fun _ _ _ h => h) hHeld ?_ ?_
        rotate_left
        · intro w hSw
          go_simp
          try with_reducible rfl
        try simp only [Act.put, List.setIfInBounds_toArray, List.set_cons_zero, List.set_cons_succ]
        refine take_read (i := 5) (v := ?_) (by simp only [List.getElem?_toArray, List.getElem?_cons_succ, List.getElem?_cons_zero]; rfl) (by kernel_rfl) (by kernel_rfl) (by kernel_rfl) (fun _ _ _ h => h) hHeld ?_ ?_
        rotate_left
        · intro w hSw
          have y4 := hSw.cell y4 (by simp)
          go_simp
          try with_reducible rfl
        try simp only [Act.put, List.setIfInBounds_toArray, List.set_cons_zero, List.set_cons_succ]
        refine take_read (i := 6) (v := ?_) (by simp only [List.getElem?_toArray, List.getElem?_cons_succ, List.getElem?_cons_zero]; rfl) (by kernel_rfl) (by kernel_rfl) (by kernel_rfl) (fun _ _ _ h => h) hHeld ?_ ?_
        rotate_left
        · intro w hSw
          go_simp
          try with_reducible rfl
        try simp only [Act.put, List.setIfInBounds_toArray, List.set_cons_zero, List.set_cons_succ]
        refine take_read (i := 7) (v := ?_) (by simp only [List.getElem?_toArray, List.getElem?_cons_succ, List.getElem?_cons_zero]; rfl) (by kernel_rfl) (by kernel_rfl) (by kernel_rfl) (fun _ _ _ h => h) hHeld ?_ ?_
        rotate_left
        · intro w hSw
          go_simp
          try with_reducible rfl
        try simp only [Act.put, List.setIfInBounds_toArray, List.set_cons_zero, List.set_cons_succ]
        refine take_read (i := 8) (v := ?_) (by simp only [List.getElem?_toArray, List.getElem?_cons_succ, List.getElem?_cons_zero]; rfl) (by kernel_rfl) (by kernel_rfl) (by kernel_rfl) (fun _ _ _ h => h) hHeld ?_ ?_
        rotate_left
        · intro w hSw
          go_simp
          try with_reducible rfl
        try simp only [Act.put, List.setIfInBounds_toArray, List.set_cons_zero, List.set_cons_succ]
        refine take_read (i := 9) (v := ?_) (by simp only [List.getElem?_toArray, List.getElem?_cons_succ, List.getElem?_cons_zero]; rfl) (by kernel_rfl) (by kernel_rfl) (by kernel_rfl) (fun _ _ _ h => h) hHeld ?_ ?_
        rotate_left
        · intro w hSw
          go_simp
          try with_reducible rfl
        try simp only [Act.put, List.setIfInBounds_toArray, List.set_cons_zero, List.set_cons_succ]
        refine take_read (i := 10) (v := ?_) (by simp only [List.getElem?_toArray, List.getElem?_cons_succ, List.getElem?_cons_zero]; rfl) (by kernel_rfl) (by kernel_rfl) (by kernel_rfl) (fun _ _ _ h => h) hHeld ?_ ?_
        rotate_left
        · intro w hSw
          go_simp
          try with_reducible rfl
        try simp only [Act.put, List.setIfInBounds_toArray, List.set_cons_zero, List.set_cons_succ]
        refine take_read (i := 11) (v := ?_) (by simp only [List.getElem?_toArray, List.getElem?_cons_succ, List.getElem?_cons_zero]; rfl) (by kernel_rfl) (by kernel_rfl) (by kernel_rfl) (fun _ _ _ h => h) hHeld ?_ ?_
        rotate_left
        · intro w hSw
          have y4 := hSw.cell y4 (by simp)
          go_simp
          try with_reducible rfl
        try simp only [Act.put, List.setIfInBounds_toArray, List.set_cons_zero, List.set_cons_succ]
        refine take_read (i := 12) (v := ?_) (by simp only [List.getElem?_toArray, List.getElem?_cons_succ, List.getElem?_cons_zero]; rfl) (by kernel_rfl) (by kernel_rfl) (by kernel_rfl) (fun _ _ _ h => h) hHeld ?_ ?_
        rotate_left
        · intro w hSw
          go_simp
          try with_reducible rfl
        try simp only [Act.put, List.setIfInBounds_toArray, List.set_cons_zero, List.set_cons_succ]
        refine take_read (i := 13) (v := ?_) (by simp only [List.getElem?_toArray, List.getElem?_cons_succ, List.getElem?_cons_zero]; rfl) (by kernel_rfl) (by kernel_rfl) (by kernel_rfl) (fun _ _ _ h => h) hHeld ?_ ?_
        rotate_left
        · intro w hSw
          go_simp
          try with_reducible rfl
        try simp only [Act.put, List.setIfInBounds_toArray, List.set_cons_zero, List.set_cons_succ]
        refine take_read (i := 14) (v := ?_) (by simp only [List.getElem?_toArray, List.getElem?_cons_succ, List.getElem?_cons_zero]; rfl) (by kernel_rfl) (by kernel_rfl) (by kernel_rfl) (fun _ _ _ h => h) hHeld ?_ ?_
        rotate_left
        · intro w hSw
          refine Lay.read_ld Tryd.tSg (IJ.out.frame hSw) ?_ ?_
          exact rfl
          exact rfl
        try simp only [Act.put, List.setIfInBounds_toArray, List.set_cons_zero, List.set_cons_succ]
        refine take_read (i := 15) (v := ?_) (by simp only [List.getElem?_toArray, List.getElem?_cons_succ, List.getElem?_cons_zero]; rfl) (by kernel_rfl) (by kernel_rfl) (by kernel_rfl) (fun _ _ _ h => h) hHeld ?_ ?_
        rotate_left
        · intro w hSw
          refine Lay.read_ld Tryd.tSg ((xWJ.out.frame hSw).in) ?_ ?_
          exact rfl
          exact rfl
        try simp only [Act.put, List.setIfInBounds_toArray, List.set_cons_zero, List.set_cons_succ]
        refine wpAnyH_ready (rs := [16]) (by kernel_rfl) (by simp) ?_
        refine AllReadyH.cons rfl (fun K hK => ?_) AllReadyH.nil
        go_simp
        refine (SameSeg sx s (segP lk) _ (SRJ.out.frame hHeld) (SDJ.out.frame hHeld)).mono ?_
        rintro e WQ ⟨rfl, hch⟩
        have C9 : Hid (Chg [] WJ WQ) := Lib.hid (hHeld.then hch)
        clear hch
        refine hK.out _ _ C9.out (fun hHeld2 => ?_)
        clear hK hHeld K
        have hHeld := hHeld2
        clear hHeld2
        try (unfold Act.put; simp only [List.setIfInBounds_toArray, List.set_cons_zero, List.set_cons_succ])
        refine take_read (i := 17) (v := ?_) (by simp only [List.getElem?_toArray, List.getElem?_cons_succ, List.getElem?_cons_zero]; rfl) (by kernel_rfl) (by kernel_rfl) (by kernel_rfl) (fun _ _ _ h => h) hHeld ?_ ?_
        rotate_left
        · intro w hSw
          go_simp
          try with_reducible rfl
        try simp only [Act.put, List.setIfInBounds_toArray, List.set_cons_zero, List.set_cons_succ]
        refine take_read (i := 18) (v := ?_) (by simp only [List.getElem?_toArray, List.getElem?_cons_succ, List.getElem?_cons_zero]; rfl) (by kernel_rfl) (by kernel_rfl) (by kernel_rfl) (fun _ _ _ h => h) hHeld ?_ ?_
        rotate_left
        · intro w hSw
          go_simp
          try with_reducible rfl
        try simp only [Act.put, List.setIfInBounds_toArray, List.set_cons_zero, List.set_cons_succ]
        refine wpAnyH_done (by kernel_rfl) ?_ _
        refine NoPanic.normal ?_
        clear hHeld y4 y5
        go_wp2_with fail
        refine (HD5.out WQ).mono ?_
        rintro e WR ⟨rfl, rfl⟩
        go_wp2
        go_roundw
        case rel => exact ⟨k + 1, tS pk lk, hlt, rfl, by rw [Hts.out, if_pos H25.out, List.length_append, ← Hq.out]; rfl, by rw [Htd.out, if_neg (by simpa using Hd25.out)], ⟨He1.out, Hs1.out⟩, CJ.out.then C9.out⟩
        case measure =>
          show cs.length - ((k : Int) + 1).toNat < cs.length - (k : Int).toNat
          omega
      · have e25 : (((z : Nat) : Int) == 25) = false := by rw [beq_eq_false_iff_ne]; omega
        obtain ⟨dk, hdk⟩ : ∃ dk, dk = depK (z : Int) := ⟨_, rfl⟩
        have hdp6 := Hdp5.out
        rw [← hdk] at hdp6 hdeps
        by_cases hd : dk = 0
        · have dd : (dk != 0) = false := by rw [hd]; rfl
          have H25 := Lib.hid h25
          have Hsegs := Lib.hid hsegs
          have Hdeps := Lib.hid hdeps
          have HD6 := Lib.hid hdp6
          have Hdk := Lib.hid hdk
          have Hd := Lib.hid hd
          clear h25 hsegs hdeps hdp6 hdk hd
          go_wp2_with fail
          refine (HD6.out WG).mono ?_
          rintro e WR ⟨rfl, rfl⟩
          go_wp2
          go_roundw
          case rel => exact ⟨k + 1, tS pk lk, hlt, rfl, by rw [Hts.out, if_neg H25.out], by rw [Htd.out, if_neg (by rw [← Hdk.out]; simpa using Hd.out)], ⟨He1.out, Hs1.out⟩, CW.out⟩
          case measure =>
            show cs.length - ((k : Int) + 1).toNat < cs.length - (k : Int).toNat
            omega
        · have dd : (dk != 0) = true := by rw [bne_iff_ne]; exact hd
          obtain ⟨hnm, hlt2, hget⟩ := hdeps hd
          have hnn := Name5_any lk (.slice x.bytes.a x.bytes.n x.bytes.cap) WG Hrk.out
          rw [hnm] at hnn
          obtain ⟨nm, hnmm⟩ : ∃ nm, nm = nameV lk := ⟨_, rfl⟩
          rw [← hnmm] at hnn hget
          obtain ⟨q, hq⟩ : ∃ q, q = pk.deps.length := ⟨_, rfl⟩
          obtain ⟨g2, cap2, hsl, _, _, _, _, _, _, hIn2⟩ := DP6.out.at (by omega)
          injection hsl with hsl1 hsl2 hsl3
          rw [hsl1] at y5
          clear hsl1 hsl2 hsl3
          have hI2 := (hIn2 pk.deps.length hlt2).frame CW.out
          rw [show P.deps.getD pk.deps.length depL.d = (⟨nm, dk⟩ : Dep) from hget] at hI2
          rw [← hq] at hI2 hlt2
          rw [show depL.n = 2 from rfl] at hI2
          have d8 : decide ((P.deps.length : Int) ≤ (q : Int)) = false := decide_eq_false (by omega)
          have d8' : decide (P.deps.length ≤ q) = false := decide_eq_false (by omega)
          have hwq : wrap64 ((q : Int) + 1) = (q : Int) + 1 := by have := HDM.out; unfold wrap64; omega
          have hneq : ∀ W, (binOp .neq 56 (depL.val (⟨nm, dk⟩ : Dep)) (.agg #[.string nm, .int .i64 dk])).run Tryd.prog W = .ok (.bool false) W := fun W => by
            have h := Dep.neq ⟨nm, dk⟩ ⟨nm, dk⟩ W
            rw [decide_eq_true rfl] at h
            exact h
          rw [← hq]
          have H25 := Lib.hid h25
          have Hsegs := Lib.hid hsegs
          have HD6 := Lib.hid hdp6
          have Hdk := Lib.hid hdk
          have Hd := Lib.hid hd
          have HNN := Lib.hid hnn
          have Hnm := Lib.hid hnm
          have Hnmm := Lib.hid hnmm
          have Hget := Lib.hid hget
          have Hq := Lib.hid hq
          have HIn2 := Lib.hid hIn2
          have HI2 := Lib.hid hI2
          have Hdeps := Lib.hid hdeps
          clear h25 hsegs hdp6 hdk hd hnn hnm hnmm hget hq hIn2 hI2 hdeps
          go_wp2_with fail
          refine (HD6.out WG).mono ?_
          rintro e WR ⟨rfl, rfl⟩
          go_wp2_with fail
          refine (HNN.out).mono ?_
          rintro e WS ⟨rfl, rfl⟩
          go_wp2_with ((with_reducible refine ldG Tryd.tDp (⟨nm, dk⟩ : Dep) (HI2.out) ?_ ?_ ?_); exact rfl; exact rfl; refine Hid.out ?_)
          refine Lib.hid ?_
          go_wp2
          go_roundw
          case rel => exact ⟨k + 1, tS pk lk, hlt, rfl, by rw [Hts.out, if_neg H25.out], by rw [Htd.out, if_pos (by rw [← Hdk.out]; exact Hd.out), List.length_append, ← Hq.out, hwq]; rfl, ⟨He1.out, Hs1.out⟩, CW.out⟩
          case measure =>
            show cs.length - ((k : Int) + 1).toNat < cs.length - (k : Int).toNat
            omega
    · obtain rfl : k = cs.length := by omega
      have dlt : decide ((cs.length : Int) < (cs.length : Int)) = false := decide_eq_false (by omega)
      obtain ⟨he, hs⟩ := hlr
      rw [List.drop_eq_nil_of_le (by rw [HLN.out]; exact Nat.le_refl _)] at hs
      rw [show tellS pk [] = pk from rfl] at hs
      subst hs
      have y4 := Img.c_segs (XM6.out.frame hc)
      have y5 := Img.c_deps (XM6.out.frame hc)
      rw [NS.out] at y4
      rw [ND.out] at y5
      have CE := Lib.hid (C6.out.then hc)
      have He := Lib.hid he
      clear he
      clear hc
      go_wp2_with fail
      refine (known5_any _ (Hg.out.frame CE.out (by simp))).mono ?_
      rintro e WF ⟨rfl, hch⟩
      have CF := Lib.hid (CE.out.then hch)
      clear hch
      go_wp2
      go_ret
      exact ⟨rfl, CF.out⟩
theorem LoadOrder_walk (w : World) (hg : Env w) (l : List UInt8) (a : Option Addr) (cap : Nat) (rd : Rd w (.slice a l.length cap) (bytesV l)) :
    Calls Tryd.prog 3 #[.slice a l.length cap] w fun e w' => e = .returned (.bool true) ∧ Chg [] w w' := by
  by_cases h : 20000 < l.length
  · exact LoadOrder_big w hg l a cap h
  · by_cases hE : imgE l = 0
    · exact LoadOrder_good w hg l a cap (Rd_to_byte rd) h hE
    · exact LoadOrder_bad w hg l a cap (Rd_to_byte rd) h hE
end Go.Proofs.YtnaonkbbecdboaaDoor
