/- Lemmas, laid together: part 17 of 46. Conditions: none but each lemma's own. -/
import Derived.Test.YtaipelkegemoeaaGreatDoorJ16
import Derived.Test.YtaipelkegemoeaaGreatDoorJ15
import Derived.Test.YtaipelkegemoeaaGreatDoorJ8
import Derived.StillTailTactics
/- The document's Seen: segment. -/
namespace Go.Proofs.YtaipelkegemoeaaGreatDoor
open Go.RowKit
set_option maxRecDepth 100000

set_option linter.unusedSimpArgs false in
set_option maxHeartbeats 8000000 in
theorem segment5_ok (l : List UInt8) (hE : segE l = 0) (hl : l.length ≤ 140737488355328) (v : Value) (w1 : World) (base bt : Nat) (p : TP) (t : Sen) (xs : List Seg) (w : World) (h : SInv w1 base bt p t xs w) (h16 : ¬ p.segs.length = 16) (h64 : p.n + n4 l 64 ≤ 64) (rd : byteL.Rd w v l) :
    Calls Tryz.prog 55 #[.pointer (some ⟨bt, 0, none⟩), v] w (SenSays w1 base bt 0 { p with segs := p.segs ++ [segP l], n := p.n + n4 l 64 }) := by
  have hsg := Segment5_fine l hE hl v w rd
  have hm := segE_ok hE
  have H := Lib.hid (h)
  have RD := Lib.hid rd
  have Hl := Lib.hid hl
  have HSG := Lib.hid hsg
  have HE := Lib.hid hE
  clear rd hl hsg hE
  clear h
  obtain ⟨N, hN⟩ : ∃ N, N = n4 l 64 := ⟨_, rfl⟩
  rw [← hN] at hm
  try rw [← hN] at h64
  try rw [← hN]
  go_enter Tryz.func55, Tryz.ntmps55
  go_wp2_with fail
  refine (HSG.out).mono ?_
  rintro e W1 ⟨s, rfl, hch, hsx, hsb⟩
  rw [← hN] at hsb
  have H1 := Lib.hid (H.out.pure hch)
  have SB1 := Lib.hid (hsb.mono H.out.o4)
  have HSX : Hid (s.bare = segX l ⟨none, 0, 0⟩) := Lib.hid (by rw [hsx]; rfl)
  have HSN : Hid ((s.secs.n : Int) = (N : Int)) := by
    refine Lib.hid ?_
    obtain ⟨_, _, he, _, _⟩ := hsb.rd.shape
    injection he with _ he2 _
    rw [he2, secsN_len]
  have HN := Lib.hid hN
  clear hN
  clear hch hsx hsb
  go_wp2_with ((with_reducible refine Lay.alL Tryz.tSg ?_); intro W2 bx ebx cbx xbx; replace ebx := Lib.hid ebx; replace cbx := Lib.hid cbx; replace xbx := Lib.hid xbx; refine Hid.out ?_)
  refine Lib.hid ?_
  go_wp2_with ((with_reducible refine Lay.stL Tryz.tSg s (xbx.out) ?_ ?_ ?_); exact rfl; exact rfl; intro W3 cW3 xW3; replace cW3 := Lib.hid cW3; replace xW3 := Lib.hid xW3; refine Hid.out ?_)
  refine Lib.hid ?_
  have c13 : Chg [] W1 W3 := cbx.out.new cW3.out (by rw [ebx.out]; exact Nat.le_refl _)
  have hbx : ∀ i ∈ (Value.slice t.m.segs.a t.m.segs.n t.m.segs.cap).ownBlock.toList, i < bx := fun i hi => by rw [ebx.out]; exact (H1.out.sg.lt i (by simpa using hi)).2
  have hbt : bt < bx := by rw [ebx.out]; exact Nat.lt_of_lt_of_le H1.out.o2 H1.out.o4
  have H3 := Lib.hid (H1.out.pure c13)
  have SB3 := Lib.hid (SB1.out.pure c13)
  have X3 := Lib.hid (xW3.out)
  have Hbx := Lib.hid hbx
  have Hbt := Lib.hid hbt
  clear hbx hbt
  clear c13 SB1
  have hl3 := H3.out.l3
  have y25 := Sen.c_secs (Lay.Box.drew H3.out.box)
  rw [H3.out.secs] at y25
  have z25 := (Lay.Box.drew H3.out.box).frozen 29
  have y6 := Seg.c_secs (Lay.Box.drew X3.out)
  have hsn := HSN.out
  go_upto_region 4 with fail
  refine wp_region_still_tail 11 (by kernel_rfl) (by kernel_rfl) ?_
  simp only [List.take_succ_cons, List.take_zero, List.drop_succ_cons, List.drop_zero]
  change wpStill _ _ W3.drew _ _ _
  repeat still_step
  refine wpStill_nil ?_
  change wpList _ _ _ _ _ W3.drew
  have hw : IntKind.i64.wrap ((p.n : Int) + (N : Int)) = ((p.n + N : Nat) : Int) := by rw [IntKind.wrap_i64]; omega
  rw [hw]
  clear hw
  have hd : Chg [] W3 W3.drew := (Chg.refl _ _).drew
  have HD3 := Lib.hid (H3.out.pure hd)
  clear hd
  go_upto_region 5 with fail
  have hc4 : Chg [bt] W3.drew (W3.drew.setCell ⟨bt, 29, none⟩ (.int .i64 ((p.n + N : Nat) : Int))) := (Chg.refl _ _).setCell _ _ (.inl (by simp))
  obtain ⟨p2, hp2⟩ : ∃ p2 : TP, p2 = { p with n := p.n + N } := ⟨_, rfl⟩
  obtain ⟨t2, ht2⟩ : ∃ t2 : Sen, t2 = { t with secs := ((p.n + N : Nat) : Int) } := ⟨_, rfl⟩
  refine Lay.with_world (fun W => SMid w1 base bt p2 t2 W ∧ segL.Buf 64 W base (.slice t2.m.segs.a t2.m.segs.n t2.m.segs.cap) xs ∧ SecsIn W base xs p2.segs ∧ depL.Buf 117 W base (.slice t2.m.deps.a t2.m.deps.n t2.m.deps.cap) p2.deps ∧ segL.Box W bx s ∧ secL.Buf 123 W base (.slice s.secs.a s.secs.n s.secs.cap) (secsN l N)) ?_ (fun W4 hW => ?_)
  · subst hp2 ht2
    have o2 := HD3.out.o2
    refine ⟨⟨Sen.set_secs HD3.out.box _, HD3.out.nm, HD3.out.ch, HD3.out.sy, HD3.out.en, HD3.out.sp, rfl, HD3.out.m, HD3.out.o2, Nat.le_trans HD3.out.o4 hc4.size, HD3.out.o6, HD3.out.l1, HD3.out.l2, ?_, HD3.out.chg.new hc4 HD3.out.o6⟩, HD3.out.sg.frame hc4 (fun i hi hm => by have := (HD3.out.sg.lt i hi).1; simp at hm; omega), HD3.out.ks.low hc4 (by simp; omega), HD3.out.dp.frame hc4 (fun i hi hm => by have := (HD3.out.dp.lt i hi).1; simp at hm; omega), (Lay.Box.drew X3.out).frameS hc4 (by have := Hbt.out; simp; omega), (SB3.out.pure ((Chg.refl _ _).drew)).frame hc4 (fun i hi hm => by have := (SB3.out.lt i hi).1; simp at hm; omega)⟩
    exact h64
  obtain ⟨hM, hS, hK, hD, hX, hB⟩ := hW
  clear hc4 y25 z25 y6 hsn H3 HD3 X3 SB3
  have hTI : SInv w1 base bt p2 t2 xs W4 := ⟨hM.box, hM.nm, hM.ch, hM.sy, hM.en, hM.sp, hM.secs, hM.m, hS, hK, hD, hM.o2, hM.o4, hM.o6, hM.l1, hM.l2, hM.l3, hM.chg⟩
  have Hp2 := Lib.hid hp2
  have Ht2 := Lib.hid ht2
  clear hp2 ht2
  have HSL : Hid (((t2.m.segs.n : Nat) : Int) = (p.segs.length : Int)) := by
    refine Lib.hid ?_
    obtain ⟨_, _, he, _, _⟩ := hS.rd.shape
    injection he with _ he2 _
    rw [he2, hK.1, Hp2.out]
  have y4 := Sen.c_segs hM.box
  have y25 := Sen.c_secs hM.box
  rw [hTI.secs, show p2.n = p.n + N by rw [Hp2.out]] at y25
  have d1 : (((t2.m.segs.n : Nat) : Int) == 16) = false := by rw [HSL.out, beq_eq_false_iff_ne]; omega
  have d2 : decide ((64 : Int) < (p.n : Int) + (N : Int)) = false := decide_eq_false (by omega)
  have hl1 : xs.length < 16 := by have := hTI.l1; have h1 := hK.1; have h2 : p2.segs = p.segs := by rw [Hp2.out]
                                  rw [h2] at this h1; omega
  obtain ⟨own, hown⟩ : ∃ own, own = (Value.slice t2.m.segs.a t2.m.segs.n t2.m.segs.cap).ownBlock := ⟨_, rfl⟩
  have hob : ∀ i ∈ own.toList, i < bx ∧ base ≤ i := fun i hi => by
    have h1 := hi
    rw [hown] at h1
    refine ⟨Hbx.out i ?_, (hS.lt i (by simpa using h1)).1⟩
    rw [show t2.m = t.m by rw [Ht2.out]] at h1
    exact h1
  have TI := Lib.hid hTI
  have HX := Lib.hid hX
  have HB := Lib.hid hB
  have HM := Lib.hid hM
  have HS := Lib.hid hS
  have HK := Lib.hid hK
  have HD := Lib.hid hD
  have H64 := Lib.hid h64
  have HOB := Lib.hid hob
  have HL1 := Lib.hid hl1
  have Hown := Lib.hid hown
  clear hTI hX hB hM hS hK hD h64 hob hl1 hown
  go_upto_region 7 with fail
  clear y25
  replace y4 := Sen.c_segs (Lay.Box.drew HM.out.box)
  refine wp_region_noPanic ?_
  refine wp_region_held_drew (S := fun w' => Chg (bt :: own.toList) W4 w' ∧ segL.In w' bx 0 s) (by kernel_rfl) ⟨(Chg.refl _ _).drew, (Lay.Box.drew HX.out).in⟩ (fun hHeld => ?_)
  refine take_read (i := 0) (v := ?_) (by simp only [List.getElem?_toArray, List.getElem?_cons_zero]; rfl) (by kernel_rfl) (by kernel_rfl) (by kernel_rfl) (fun _ _ _ h => h) hHeld ?_ ?_
  rotate_left
  · intro w hSw
    go_simp
    try with_reducible rfl
  try simp only [Act.put, List.setIfInBounds_toArray, List.set_cons_zero, List.set_cons_succ]
  refine take_read (i := 1) (v := ?_) (by simp only [List.getElem?_toArray, List.getElem?_cons_succ, List.getElem?_cons_zero]; rfl) (by kernel_rfl) (by kernel_rfl) (by kernel_rfl) (fun _ _ _ h => h) hHeld ?_ ?_
  rotate_left
  · intro w hSw
    go_simp
    try with_reducible rfl
  try simp only [Act.put, List.setIfInBounds_toArray, List.set_cons_zero, List.set_cons_succ]
  refine take_read (i := 2) (v := ?_) (by simp only [List.getElem?_toArray, List.getElem?_cons_succ, List.getElem?_cons_zero]; rfl) (by kernel_rfl) (by kernel_rfl) (by kernel_rfl) (fun _ _ _ h => h) hHeld ?_ ?_
  rotate_left
  · intro w hSw
    go_simp
    try with_reducible rfl
  try simp only [Act.put, List.setIfInBounds_toArray, List.set_cons_zero, List.set_cons_succ]
  refine take_read (i := 3) (v := ?_) (by simp only [List.getElem?_toArray, List.getElem?_cons_succ, List.getElem?_cons_zero]; rfl) (by kernel_rfl) (by kernel_rfl) (by kernel_rfl) (fun _ _ _ h => h) hHeld ?_ ?_
  rotate_left
  · intro w hSw
    go_simp
    try with_reducible rfl
  try simp only [Act.put, List.setIfInBounds_toArray, List.set_cons_zero, List.set_cons_succ]
  refine take_read (i := 4) (v := ?_) (by simp only [List.getElem?_toArray, List.getElem?_cons_succ, List.getElem?_cons_zero]; rfl) (by kernel_rfl) (by kernel_rfl) (by kernel_rfl) (fun _ _ _ h => h) hHeld ?_ ?_
  rotate_left
  · intro w hSw
    go_simp
    try with_reducible rfl
  try simp only [Act.put, List.setIfInBounds_toArray, List.set_cons_zero, List.set_cons_succ]
  refine take_read (i := 6) (v := ?_) (by simp only [List.getElem?_toArray, List.getElem?_cons_succ, List.getElem?_cons_zero]; rfl) (by kernel_rfl) (by kernel_rfl) (by kernel_rfl) (fun _ _ _ h => h) hHeld ?_ ?_
  rotate_left
  · intro w hSw
    refine Lay.read_ld Tryz.tSg hSw.2 ?_ ?_
    exact rfl
    exact rfl
  try simp only [Act.put, List.setIfInBounds_toArray, List.set_cons_zero, List.set_cons_succ]
  refine wpAnyH_ready (rs := [5, 7]) (by kernel_rfl) (by simp) ?_
  refine AllReadyH.cons rfl (fun K hK => ?_) (AllReadyH.cons rfl (fun K hK => ?_) AllReadyH.nil)
  · go_simp
    refine hK.out _ _ hHeld (fun hHeld2 => ?_)
    clear hK hHeld K
    have hHeld := hHeld2
    clear hHeld2
    try (unfold Act.put; simp only [List.setIfInBounds_toArray, List.set_cons_zero, List.set_cons_succ])
    refine wpAnyH_ready (rs := [7]) (by kernel_rfl) (by simp) ?_
    refine AllReadyH.cons (by simp only [List.getElem?_toArray, List.getElem?_cons_succ, List.getElem?_cons_zero]; rfl) (fun K hK => ?_) AllReadyH.nil
    refine Lay.armBs1 rfl _ rfl s (seg_built _) rfl (fun wj g hcj hrj => ?_)
    have J1 := Lib.hid hcj
    have JR := Lib.hid hrj
    clear hcj hrj
    replace y4 := J1.out.cell y4 (by simp)
    refine hK.out _ _ ⟨hHeld.1.then J1.out, hHeld.2.frame J1.out⟩ (fun hHeld2 => ?_)
    clear hK hHeld K
    have hHeld := hHeld2
    clear hHeld2
    try (unfold Act.put; simp only [List.setIfInBounds_toArray, List.set_cons_zero, List.set_cons_succ])
    refine wpAnyH_ready (rs := [8]) (by kernel_rfl) (by simp) ?_
    refine AllReadyH.cons (by simp only [List.getElem?_toArray, List.getElem?_cons_succ, List.getElem?_cons_zero]; rfl) (fun K hK => ?_) AllReadyH.nil
    have DJ : Hid (Chg [] W4 wj) := Lib.hid (((Chg.refl [] W4).drew).then J1.out)
    refine Lay.armApp (L := segL) Tryz.infoSeg rfl _ _ rfl base (.slice t2.m.segs.a t2.m.segs.n t2.m.segs.cap) xs rfl (HS.out.pure DJ.out) ⟨g, 0, none⟩ 1 1 rfl [s] JR.out (by have := HL1.out; simp; omega) (by have := HL1.out; simp; omega) (by have := TI.out.o4; have := DJ.out.size; omega) (fun vk wk hok hgr hlc => ?_)
    obtain ⟨a9, c9, rfl, _, _⟩ := hok.rd.shape
    rw [show (xs ++ [s]).length = xs.length + 1 by simp] at hok hlc
    have GR := Lib.hid (Lay.chg_grown hgr)
    have TJ := Lib.hid (TI.out.pure DJ.out)
    have TK := Lib.hid (TJ.out.grew GR.out (grown_ne TJ.out.sg))
    rw [← Hown.out] at GR
    have hnb : bx ∉ own.toList := fun hm => by have := HOB.out bx hm; omega
    have C12 : Hid (Chg (bt :: own.toList) W4 wk) := Lib.hid (hHeld.1.same (GR.out.mono (fun i hi _ => List.mem_cons_of_mem _ hi)))
    have XK : Hid (segL.Box wk bx s) := Lib.hid ((HX.out.frame DJ.out).frameS GR.out hnb)
    have IF9 := Lib.hid (XK.out.in)
    have HF : Hid (SInv w1 base bt { p2 with segs := p2.segs ++ [segP l] } { t2 with m := { t2.m with segs := ⟨a9, xs.length + 1, c9⟩ } } (xs ++ [s]) (wk.setCell ⟨bt, 4, none⟩ (.slice a9 (xs.length + 1) c9))) := by
      refine Lib.hid ?_
      refine TK.out.seg TJ.out (by rw [← Hown.out]; exact GR.out) hok ?_ ?_
      · refine SecsIn.snoc (TJ.out.ks.apart TJ.out.sg (by decide) (by rw [← Hown.out]; exact GR.out)) s (segP l) HSX.out ?_
        have hb := (HB.out.pure DJ.out).frame GR.out (fun b hb => by rw [Hown.out]; exact rows_ne (HB.out.pure DJ.out) TJ.out.sg (by decide) b hb)
        rw [HN.out] at hb
        exact hb
      · have h1 := HK.out.1
        have := HL1.out
        simp
        omega
    clear hok hgr hlc y4
    have y4 := Sen.c_segs TK.out.box
    have z4 := TK.out.box.frozen 4
    refine hK.out _ _ ⟨C12.out, IF9.out⟩ (fun hHeld2 => ?_)
    clear hK hHeld K
    have hHeld := hHeld2
    clear hHeld2
    try (unfold Act.put; simp only [List.setIfInBounds_toArray, List.set_cons_zero, List.set_cons_succ])
    refine take_read (i := 9) (v := ?_) (by simp only [List.getElem?_toArray, List.getElem?_cons_succ, List.getElem?_cons_zero]; rfl) (by kernel_rfl) (by kernel_rfl) (by kernel_rfl) (fun _ _ _ h => h) hHeld ?_ ?_
    rotate_left
    · intro w hSw
      go_simp
      try with_reducible rfl
    try simp only [Act.put, List.setIfInBounds_toArray, List.set_cons_zero, List.set_cons_succ]
    refine take_read (i := 10) (v := ?_) (by simp only [List.getElem?_toArray, List.getElem?_cons_succ, List.getElem?_cons_zero]; rfl) (by kernel_rfl) (by kernel_rfl) (by kernel_rfl) (fun _ _ _ h => h) hHeld ?_ ?_
    rotate_left
    · intro w hSw
      go_simp
      try with_reducible rfl
    try simp only [Act.put, List.setIfInBounds_toArray, List.set_cons_zero, List.set_cons_succ]
    refine take_read (i := 11) (v := ?_) (by simp only [List.getElem?_toArray, List.getElem?_cons_succ, List.getElem?_cons_zero]; rfl) (by kernel_rfl) (by kernel_rfl) (by kernel_rfl) (fun _ _ _ h => h) hHeld ?_ ?_
    rotate_left
    · intro w hSw
      go_simp
      try with_reducible rfl
    try simp only [Act.put, List.setIfInBounds_toArray, List.set_cons_zero, List.set_cons_succ]
    refine wpAnyH_ready (rs := [12]) (by kernel_rfl) (by simp) ?_
    refine AllReadyH.cons rfl (fun K hK => ?_) AllReadyH.nil
    go_simp
    refine hK.out _ _ ⟨C12.out.setCell _ _ (.inl (by simp)), IF9.out.frameS (S := [bt]) ((Chg.refl _ _).setCell _ _ (.inl (by simp))) (by have := Hbt.out; simp; omega)⟩ (fun hHeld2 => ?_)
    clear hK hHeld K
    have hHeld := hHeld2
    clear hHeld2
    try (unfold Act.put; simp only [List.setIfInBounds_toArray, List.set_cons_zero, List.set_cons_succ])
    refine wpAnyH_done (by kernel_rfl) ?_ _
    refine NoPanic.normal ?_
    refine with_exitT (Q := Exit.then _ _ _ _) (fun W => SInv w1 base bt { p2 with segs := p2.segs ++ [segP l] } { t2 with m := { t2.m with segs := ⟨a9, xs.length + 1, c9⟩ } } (xs ++ [s]) W) HF.out (fun WE hW => ?_)
    have TE := Lib.hid (hW)
    clear hW hHeld y4 z4 HF
    rw [Hp2.out] at TE
    go_wp2
    go_ret
    exact ⟨rfl, TE.out.chg, fun _ => ⟨_, _, TE.out⟩⟩
  · refine Lay.armBs1 rfl _ rfl s (seg_built _) rfl (fun wj g hcj hrj => ?_)
    have J1 := Lib.hid hcj
    have JR := Lib.hid hrj
    clear hcj hrj
    replace y4 := J1.out.cell y4 (by simp)
    refine hK.out _ _ ⟨hHeld.1.then J1.out, hHeld.2.frame J1.out⟩ (fun hHeld2 => ?_)
    clear hK hHeld K
    have hHeld := hHeld2
    clear hHeld2
    try (unfold Act.put; simp only [List.setIfInBounds_toArray, List.set_cons_zero, List.set_cons_succ])
    refine wpAnyH_ready (rs := [5]) (by kernel_rfl) (by simp) ?_
    refine AllReadyH.cons rfl (fun K hK => ?_) AllReadyH.nil
    go_simp
    refine hK.out _ _ hHeld (fun hHeld2 => ?_)
    clear hK hHeld K
    have hHeld := hHeld2
    clear hHeld2
    try (unfold Act.put; simp only [List.setIfInBounds_toArray, List.set_cons_zero, List.set_cons_succ])
    refine wpAnyH_ready (rs := [8]) (by kernel_rfl) (by simp) ?_
    refine AllReadyH.cons (by simp only [List.getElem?_toArray, List.getElem?_cons_succ, List.getElem?_cons_zero]; rfl) (fun K hK => ?_) AllReadyH.nil
    have DJ : Hid (Chg [] W4 wj) := Lib.hid (((Chg.refl [] W4).drew).then J1.out)
    refine Lay.armApp (L := segL) Tryz.infoSeg rfl _ _ rfl base (.slice t2.m.segs.a t2.m.segs.n t2.m.segs.cap) xs rfl (HS.out.pure DJ.out) ⟨g, 0, none⟩ 1 1 rfl [s] JR.out (by have := HL1.out; simp; omega) (by have := HL1.out; simp; omega) (by have := TI.out.o4; have := DJ.out.size; omega) (fun vk wk hok hgr hlc => ?_)
    obtain ⟨a9, c9, rfl, _, _⟩ := hok.rd.shape
    rw [show (xs ++ [s]).length = xs.length + 1 by simp] at hok hlc
    have GR := Lib.hid (Lay.chg_grown hgr)
    have TJ := Lib.hid (TI.out.pure DJ.out)
    have TK := Lib.hid (TJ.out.grew GR.out (grown_ne TJ.out.sg))
    rw [← Hown.out] at GR
    have hnb : bx ∉ own.toList := fun hm => by have := HOB.out bx hm; omega
    have C12 : Hid (Chg (bt :: own.toList) W4 wk) := Lib.hid (hHeld.1.same (GR.out.mono (fun i hi _ => List.mem_cons_of_mem _ hi)))
    have XK : Hid (segL.Box wk bx s) := Lib.hid ((HX.out.frame DJ.out).frameS GR.out hnb)
    have IF9 := Lib.hid (XK.out.in)
    have HF : Hid (SInv w1 base bt { p2 with segs := p2.segs ++ [segP l] } { t2 with m := { t2.m with segs := ⟨a9, xs.length + 1, c9⟩ } } (xs ++ [s]) (wk.setCell ⟨bt, 4, none⟩ (.slice a9 (xs.length + 1) c9))) := by
      refine Lib.hid ?_
      refine TK.out.seg TJ.out (by rw [← Hown.out]; exact GR.out) hok ?_ ?_
      · refine SecsIn.snoc (TJ.out.ks.apart TJ.out.sg (by decide) (by rw [← Hown.out]; exact GR.out)) s (segP l) HSX.out ?_
        have hb := (HB.out.pure DJ.out).frame GR.out (fun b hb => by rw [Hown.out]; exact rows_ne (HB.out.pure DJ.out) TJ.out.sg (by decide) b hb)
        rw [HN.out] at hb
        exact hb
      · have h1 := HK.out.1
        have := HL1.out
        simp
        omega
    clear hok hgr hlc y4
    have y4 := Sen.c_segs TK.out.box
    have z4 := TK.out.box.frozen 4
    refine hK.out _ _ ⟨C12.out, IF9.out⟩ (fun hHeld2 => ?_)
    clear hK hHeld K
    have hHeld := hHeld2
    clear hHeld2
    try (unfold Act.put; simp only [List.setIfInBounds_toArray, List.set_cons_zero, List.set_cons_succ])
    refine take_read (i := 9) (v := ?_) (by simp only [List.getElem?_toArray, List.getElem?_cons_succ, List.getElem?_cons_zero]; rfl) (by kernel_rfl) (by kernel_rfl) (by kernel_rfl) (fun _ _ _ h => h) hHeld ?_ ?_
    rotate_left
    · intro w hSw
      go_simp
      try with_reducible rfl
    try simp only [Act.put, List.setIfInBounds_toArray, List.set_cons_zero, List.set_cons_succ]
    refine take_read (i := 10) (v := ?_) (by simp only [List.getElem?_toArray, List.getElem?_cons_succ, List.getElem?_cons_zero]; rfl) (by kernel_rfl) (by kernel_rfl) (by kernel_rfl) (fun _ _ _ h => h) hHeld ?_ ?_
    rotate_left
    · intro w hSw
      go_simp
      try with_reducible rfl
    try simp only [Act.put, List.setIfInBounds_toArray, List.set_cons_zero, List.set_cons_succ]
    refine take_read (i := 11) (v := ?_) (by simp only [List.getElem?_toArray, List.getElem?_cons_succ, List.getElem?_cons_zero]; rfl) (by kernel_rfl) (by kernel_rfl) (by kernel_rfl) (fun _ _ _ h => h) hHeld ?_ ?_
    rotate_left
    · intro w hSw
      go_simp
      try with_reducible rfl
    try simp only [Act.put, List.setIfInBounds_toArray, List.set_cons_zero, List.set_cons_succ]
    refine wpAnyH_ready (rs := [12]) (by kernel_rfl) (by simp) ?_
    refine AllReadyH.cons rfl (fun K hK => ?_) AllReadyH.nil
    go_simp
    refine hK.out _ _ ⟨C12.out.setCell _ _ (.inl (by simp)), IF9.out.frameS (S := [bt]) ((Chg.refl _ _).setCell _ _ (.inl (by simp))) (by have := Hbt.out; simp; omega)⟩ (fun hHeld2 => ?_)
    clear hK hHeld K
    have hHeld := hHeld2
    clear hHeld2
    try (unfold Act.put; simp only [List.setIfInBounds_toArray, List.set_cons_zero, List.set_cons_succ])
    refine wpAnyH_done (by kernel_rfl) ?_ _
    refine NoPanic.normal ?_
    refine with_exitT (Q := Exit.then _ _ _ _) (fun W => SInv w1 base bt { p2 with segs := p2.segs ++ [segP l] } { t2 with m := { t2.m with segs := ⟨a9, xs.length + 1, c9⟩ } } (xs ++ [s]) W) HF.out (fun WE hW => ?_)
    have TE := Lib.hid (hW)
    clear hW hHeld y4 z4 HF
    rw [Hp2.out] at TE
    go_wp2
    go_ret
    exact ⟨rfl, TE.out.chg, fun _ => ⟨_, _, TE.out⟩⟩
set_option maxHeartbeats 8000000 in
theorem segment5_16 (l : List UInt8) (hE : segE l = 0) (hl : l.length ≤ 140737488355328) (v : Value) (w1 : World) (base bt : Nat) (p q : TP) (t : Sen) (xs : List Seg) (w : World) (h : SInv w1 base bt p t xs w) (h16 : p.segs.length = 16) (rd : byteL.Rd w v l) :
    Calls Tryz.prog 55 #[.pointer (some ⟨bt, 0, none⟩), v] w (SenSays w1 base bt 11 q) := by
  have hsg := Segment5_fine l hE hl v w rd
  have h64 : True := trivial
  have hsl : ((t.m.segs.n : Nat) : Int) = 16 := by
    obtain ⟨_, _, he, _, _⟩ := h.sg.rd.shape
    injection he with _ he2 _
    rw [he2, h.ks.1, h16]
    rfl
  have d1 : (((t.m.segs.n : Nat) : Int) == 16) = true := by rw [hsl]; rfl
  have H16 := Lib.hid h16
  have Hsl := Lib.hid hsl
  clear h16 hsl
  have hm := segE_ok hE
  have H := Lib.hid (h)
  have RD := Lib.hid rd
  have Hl := Lib.hid hl
  have HSG := Lib.hid hsg
  have HE := Lib.hid hE
  clear rd hl hsg hE
  clear h
  obtain ⟨N, hN⟩ : ∃ N, N = n4 l 64 := ⟨_, rfl⟩
  rw [← hN] at hm
  try rw [← hN] at h64
  try rw [← hN]
  go_enter Tryz.func55, Tryz.ntmps55
  go_wp2_with fail
  refine (HSG.out).mono ?_
  rintro e W1 ⟨s, rfl, hch, hsx, hsb⟩
  rw [← hN] at hsb
  have H1 := Lib.hid (H.out.pure hch)
  have SB1 := Lib.hid (hsb.mono H.out.o4)
  have HSX : Hid (s.bare = segX l ⟨none, 0, 0⟩) := Lib.hid (by rw [hsx]; rfl)
  have HSN : Hid ((s.secs.n : Int) = (N : Int)) := by
    refine Lib.hid ?_
    obtain ⟨_, _, he, _, _⟩ := hsb.rd.shape
    injection he with _ he2 _
    rw [he2, secsN_len]
  have HN := Lib.hid hN
  clear hN
  clear hch hsx hsb
  go_wp2_with ((with_reducible refine Lay.alL Tryz.tSg ?_); intro W2 bx ebx cbx xbx; replace ebx := Lib.hid ebx; replace cbx := Lib.hid cbx; replace xbx := Lib.hid xbx; refine Hid.out ?_)
  refine Lib.hid ?_
  go_wp2_with ((with_reducible refine Lay.stL Tryz.tSg s (xbx.out) ?_ ?_ ?_); exact rfl; exact rfl; intro W3 cW3 xW3; replace cW3 := Lib.hid cW3; replace xW3 := Lib.hid xW3; refine Hid.out ?_)
  refine Lib.hid ?_
  have c13 : Chg [] W1 W3 := cbx.out.new cW3.out (by rw [ebx.out]; exact Nat.le_refl _)
  have hbx : ∀ i ∈ (Value.slice t.m.segs.a t.m.segs.n t.m.segs.cap).ownBlock.toList, i < bx := fun i hi => by rw [ebx.out]; exact (H1.out.sg.lt i (by simpa using hi)).2
  have hbt : bt < bx := by rw [ebx.out]; exact Nat.lt_of_lt_of_le H1.out.o2 H1.out.o4
  have H3 := Lib.hid (H1.out.pure c13)
  have SB3 := Lib.hid (SB1.out.pure c13)
  have X3 := Lib.hid (xW3.out)
  have Hbx := Lib.hid hbx
  have Hbt := Lib.hid hbt
  clear hbx hbt
  clear c13 SB1
  have hl3 := H3.out.l3
  have y25 := Sen.c_secs (Lay.Box.drew H3.out.box)
  rw [H3.out.secs] at y25
  have z25 := (Lay.Box.drew H3.out.box).frozen 29
  have y6 := Seg.c_secs (Lay.Box.drew X3.out)
  have hsn := HSN.out
  go_upto_region 4 with fail
  refine wp_region_still_tail 11 (by kernel_rfl) (by kernel_rfl) ?_
  simp only [List.take_succ_cons, List.take_zero, List.drop_succ_cons, List.drop_zero]
  change wpStill _ _ W3.drew _ _ _
  repeat still_step
  refine wpStill_nil ?_
  change wpList _ _ _ _ _ W3.drew
  have hw : IntKind.i64.wrap ((p.n : Int) + (N : Int)) = ((p.n + N : Nat) : Int) := by rw [IntKind.wrap_i64]; omega
  rw [hw]
  clear hw
  have hd : Chg [] W3 W3.drew := (Chg.refl _ _).drew
  have HD3 := Lib.hid (H3.out.pure hd)
  clear hd
  go_upto_region 5 with fail
  have hc4 : Chg [bt] W3.drew (W3.drew.setCell ⟨bt, 29, none⟩ (.int .i64 ((p.n + N : Nat) : Int))) := (Chg.refl _ _).setCell _ _ (.inl (by simp))
  refine Lay.with_world (fun W => senL.Box W bt { t with secs := ((p.n + N : Nat) : Int) } ∧ Chg [] w1 W) ⟨Sen.set_secs HD3.out.box _, HD3.out.chg.new hc4 HD3.out.o6⟩ (fun W4 hW => ?_)
  have CE := Lib.hid (hW.2)
  have y4 := Sen.c_segs hW.1
  clear hc4 y25 z25 y6 hsn hW
  go_wp2
  go_ret
  exact ⟨rfl, CE.out, fun h => absurd h (by decide)⟩
set_option maxHeartbeats 8000000 in
theorem segment5_64 (l : List UInt8) (hE : segE l = 0) (hl : l.length ≤ 140737488355328) (v : Value) (w1 : World) (base bt : Nat) (p q : TP) (t : Sen) (xs : List Seg) (w : World) (h : SInv w1 base bt p t xs w) (h16 : ¬ p.segs.length = 16) (h64 : 64 < p.n + n4 l 64) (rd : byteL.Rd w v l) :
    Calls Tryz.prog 55 #[.pointer (some ⟨bt, 0, none⟩), v] w (SenSays w1 base bt 11 q) := by
  have hsg := Segment5_fine l hE hl v w rd
  have hsl : ((t.m.segs.n : Nat) : Int) = (p.segs.length : Int) := by
    obtain ⟨_, _, he, _, _⟩ := h.sg.rd.shape
    injection he with _ he2 _
    rw [he2, h.ks.1]
  have d1 : (((t.m.segs.n : Nat) : Int) == 16) = false := by rw [hsl, beq_eq_false_iff_ne]; omega
  have H16 := Lib.hid h16
  have Hsl := Lib.hid hsl
  clear h16 hsl
  have hm := segE_ok hE
  have H := Lib.hid (h)
  have RD := Lib.hid rd
  have Hl := Lib.hid hl
  have HSG := Lib.hid hsg
  have HE := Lib.hid hE
  clear rd hl hsg hE
  clear h
  obtain ⟨N, hN⟩ : ∃ N, N = n4 l 64 := ⟨_, rfl⟩
  rw [← hN] at hm
  try rw [← hN] at h64
  try rw [← hN]
  go_enter Tryz.func55, Tryz.ntmps55
  go_wp2_with fail
  refine (HSG.out).mono ?_
  rintro e W1 ⟨s, rfl, hch, hsx, hsb⟩
  rw [← hN] at hsb
  have H1 := Lib.hid (H.out.pure hch)
  have SB1 := Lib.hid (hsb.mono H.out.o4)
  have HSX : Hid (s.bare = segX l ⟨none, 0, 0⟩) := Lib.hid (by rw [hsx]; rfl)
  have HSN : Hid ((s.secs.n : Int) = (N : Int)) := by
    refine Lib.hid ?_
    obtain ⟨_, _, he, _, _⟩ := hsb.rd.shape
    injection he with _ he2 _
    rw [he2, secsN_len]
  have HN := Lib.hid hN
  clear hN
  clear hch hsx hsb
  go_wp2_with ((with_reducible refine Lay.alL Tryz.tSg ?_); intro W2 bx ebx cbx xbx; replace ebx := Lib.hid ebx; replace cbx := Lib.hid cbx; replace xbx := Lib.hid xbx; refine Hid.out ?_)
  refine Lib.hid ?_
  go_wp2_with ((with_reducible refine Lay.stL Tryz.tSg s (xbx.out) ?_ ?_ ?_); exact rfl; exact rfl; intro W3 cW3 xW3; replace cW3 := Lib.hid cW3; replace xW3 := Lib.hid xW3; refine Hid.out ?_)
  refine Lib.hid ?_
  have c13 : Chg [] W1 W3 := cbx.out.new cW3.out (by rw [ebx.out]; exact Nat.le_refl _)
  have hbx : ∀ i ∈ (Value.slice t.m.segs.a t.m.segs.n t.m.segs.cap).ownBlock.toList, i < bx := fun i hi => by rw [ebx.out]; exact (H1.out.sg.lt i (by simpa using hi)).2
  have hbt : bt < bx := by rw [ebx.out]; exact Nat.lt_of_lt_of_le H1.out.o2 H1.out.o4
  have H3 := Lib.hid (H1.out.pure c13)
  have SB3 := Lib.hid (SB1.out.pure c13)
  have X3 := Lib.hid (xW3.out)
  have Hbx := Lib.hid hbx
  have Hbt := Lib.hid hbt
  clear hbx hbt
  clear c13 SB1
  have hl3 := H3.out.l3
  have y25 := Sen.c_secs (Lay.Box.drew H3.out.box)
  rw [H3.out.secs] at y25
  have z25 := (Lay.Box.drew H3.out.box).frozen 29
  have y6 := Seg.c_secs (Lay.Box.drew X3.out)
  have hsn := HSN.out
  go_upto_region 4 with fail
  refine wp_region_still_tail 11 (by kernel_rfl) (by kernel_rfl) ?_
  simp only [List.take_succ_cons, List.take_zero, List.drop_succ_cons, List.drop_zero]
  change wpStill _ _ W3.drew _ _ _
  repeat still_step
  refine wpStill_nil ?_
  change wpList _ _ _ _ _ W3.drew
  have hw : IntKind.i64.wrap ((p.n : Int) + (N : Int)) = ((p.n + N : Nat) : Int) := by rw [IntKind.wrap_i64]; omega
  rw [hw]
  clear hw
  have hd : Chg [] W3 W3.drew := (Chg.refl _ _).drew
  have HD3 := Lib.hid (H3.out.pure hd)
  clear hd
  go_upto_region 5 with fail
  have d2 : decide ((64 : Int) < (p.n : Int) + (N : Int)) = true := decide_eq_true (by omega)
  have hc4 : Chg [bt] W3.drew (W3.drew.setCell ⟨bt, 29, none⟩ (.int .i64 ((p.n + N : Nat) : Int))) := (Chg.refl _ _).setCell _ _ (.inl (by simp))
  refine Lay.with_world (fun W => senL.Box W bt { t with secs := ((p.n + N : Nat) : Int) } ∧ Chg [] w1 W) ⟨Sen.set_secs HD3.out.box _, HD3.out.chg.new hc4 HD3.out.o6⟩ (fun W4 hW => ?_)
  have CE := Lib.hid (hW.2)
  clear y25
  have y4 := Sen.c_segs hW.1
  have y25 := Sen.c_secs hW.1
  clear hc4 z25 y6 hsn hW
  go_wp2
  go_ret
  exact ⟨rfl, CE.out, fun h => absurd h (by decide)⟩
theorem segment5_bad (l : List UInt8) (hE : ¬ segE l = 0) (hl : l.length ≤ 140737488355328) (v : Value) (w1 : World) (base bt : Nat) (p q : TP) (t : Sen) (xs : List Seg) (w : World) (h : SInv w1 base bt p t xs w) (rd : byteL.Rd w v l) :
    Calls Tryz.prog 55 #[.pointer (some ⟨bt, 0, none⟩), v] w (SenSays w1 base bt (segE l) q) := by
  have hsg := Segment5_any l hl v w rd
  obtain ⟨E, hEE⟩ : ∃ E, E = segE l := ⟨_, rfl⟩
  rw [← hEE] at hE hsg ⊢
  have d0 : (E != 0) = true := by rw [bne_iff_ne]; exact hE
  have H := Lib.hid (h)
  have RD := Lib.hid rd
  have Hl := Lib.hid hl
  have HSG := Lib.hid hsg
  have HE := Lib.hid hE
  have HEE := Lib.hid hEE
  clear rd hl hsg hE hEE
  clear h
  go_enter Tryz.func55, Tryz.ntmps55
  go_wp2_with fail
  refine (HSG.out).mono ?_
  rintro e W1 ⟨s, rfl, hch, _⟩
  have H1 := Lib.hid (H.out.pure hch)
  clear hch
  go_wp2_with ((with_reducible refine Lay.alL Tryz.tSg ?_); intro W2 bx ebx cbx xbx; replace ebx := Lib.hid ebx; replace cbx := Lib.hid cbx; replace xbx := Lib.hid xbx; refine Hid.out ?_)
  refine Lib.hid ?_
  go_wp2_with ((with_reducible refine Lay.stL Tryz.tSg s (xbx.out) ?_ ?_ ?_); exact rfl; exact rfl; intro W3 cW3 xW3; replace cW3 := Lib.hid cW3; replace xW3 := Lib.hid xW3; refine Hid.out ?_)
  refine Lib.hid ?_
  have c13 : Chg [] W1 W3 := cbx.out.new cW3.out (by rw [ebx.out]; exact Nat.le_refl _)
  have H3 := Lib.hid (H1.out.pure c13)
  clear c13
  go_wp2
  go_ret
  exact ⟨rfl, H3.out.chg, fun h => absurd h HE.out⟩
theorem segment5_any (l : List UInt8) (hl : l.length ≤ 140737488355328) (v : Value) (w1 : World) (base bt : Nat) (p : TP) (t : Sen) (xs : List Seg) (w : World) (h : SInv w1 base bt p t xs w) (rd : byteL.Rd w v l) :
    Calls Tryz.prog 55 #[.pointer (some ⟨bt, 0, none⟩), v] w (SenSays w1 base bt (sgtE p l) { p with segs := p.segs ++ [segP l], n := p.n + n4 l 64 }) := by
  unfold sgtE
  by_cases hE : segE l = 0
  · rw [if_pos hE]
    by_cases h16 : p.segs.length = 16
    · rw [if_pos (.inl h16)]
      exact segment5_16 l hE hl v w1 base bt p _ t xs w h h16 rd
    · by_cases h64 : 64 < p.n + n4 l 64
      · rw [if_pos (.inr h64)]
        exact segment5_64 l hE hl v w1 base bt p _ t xs w h h16 h64 rd
      · rw [if_neg (by omega)]
        exact segment5_ok l hE hl v w1 base bt p t xs w h h16 (by omega) rd
  · rw [if_neg hE]
    exact segment5_bad l hE hl v w1 base bt p _ t xs w h rd
end Go.Proofs.YtaipelkegemoeaaGreatDoor
