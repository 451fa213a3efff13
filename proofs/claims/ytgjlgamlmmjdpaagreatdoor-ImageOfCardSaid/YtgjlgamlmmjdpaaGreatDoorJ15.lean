/- Lemmas, laid together: part 15 of 43. Conditions: none but each lemma's own. -/
import Derived.Test.YtgjlgamlmmjdpaaGreatDoorJ14
import Derived.StillTailTactics
import Derived.Test.YtgjlgamlmmjdpaaGreatDoorJ4
/- load: the teller's segment. -/
namespace Go.Proofs.YtgjlgamlmmjdpaaGreatDoor
open Go.RowKit
set_option maxRecDepth 100000

theorem with_exitT {Q : World → Prop} {W : World} (R : World → Prop) (hR : R W) (k : ∀ W', R W' → Q W') : Q W := k W hR
theorem segE_b (l : List UInt8) : 0 ≤ segE l ∧ segE l ≤ 11 := by
  unfold segE
  (repeat' split) <;> decide
/-- load.Segment, whatever the bytes. -/
theorem Segment_any (l : List UInt8) (hl : l.length ≤ 140737488355328) (v : Value) (w : World) (hg : Env w) (rd : byteL.Rd w v l) :
    Calls Tryz.prog 64 #[v] w fun e w' => ∃ s : Seg, e = .returned (.tuple #[segL.val s, .int .i64 (segE l)]) ∧ Chg [] w w' ∧ (segE l = 0 → s = segX l s.secs ∧ secL.Buf 85 w' w.heap.size (.slice s.secs.a s.secs.n s.secs.cap) (secsN l (n4 l 64))) := by
  by_cases h : opE l = 0
  · by_cases h2 : n4 l 0 = 25
    · by_cases h3 : l.length < 72 + 80 * n4 l 64
      · have hE : segE l = 3 := by unfold segE; rw [if_neg (by simp [h]), if_neg (by simp [h2]), if_pos h3]
        rw [hE]
        exact (Segment_short l h h2 h3 hl v w hg rd).mono fun e w' ⟨h1, h2⟩ => ⟨_, h1, h2, fun h => absurd h (by decide)⟩
      · refine (Segment_main l h h2 h3 hl v w hg rd).mono ?_
        rintro e w' ⟨s, E, he, hE, hc, hs⟩
        subst hE
        exact ⟨s, he, hc, hs⟩
    · have hE : segE l = 7 := by unfold segE; rw [if_neg (by simp [h]), if_pos h2]
      rw [hE]
      exact (Segment_cmd l h h2 hl v w hg rd).mono fun e w' ⟨h1, h2⟩ => ⟨_, h1, h2, fun h => absurd h (by decide)⟩
  · have hE : segE l = 3 := by unfold segE; rw [if_pos h]
    rw [hE]
    exact (Segment_bad l h hl v w hg rd).mono fun e w' ⟨h1, h2⟩ => ⟨_, h1, h2, fun h => absurd h (by decide)⟩
theorem segE_ok {l : List UInt8} (h : segE l = 0) : n4 l 64 ≤ 64 := by
  unfold segE at h
  by_cases h0 : opE l = 0
  · rw [if_neg (by simp [h0])] at h
    split at h
    · exact absurd h (by decide)
    · split at h
      · exact absurd h (by decide)
      · split at h
        · exact absurd h (by decide)
        · split at h
          · exact absurd h (by decide)
          · omega
  · rw [if_pos h0] at h
    exact absurd h (by decide)
def segP (l : List UInt8) : SegP := ⟨segX l ⟨none, 0, 0⟩, secsN l (n4 l 64)⟩
def sgtE (p : TP) (l : List UInt8) : Int := if segE l = 0 then (if p.segs.length = 16 ∨ 64 < p.n + n4 l 64 then 11 else 0) else segE l
theorem Tryz.infoSeg : Lay.Info Tryz.prog 26 42 segL.n 80 := Lay.Info.mk' (z := .agg (segL.f segL.d).toArray) (by kernel_rfl) (by kernel_rfl) rfl
theorem seg_built (x : Seg) (w : World) : (Instr.buildSlice 26 1 #[(0, segL.val x)]).run Tryz.prog w = .ok (.slice (some ⟨w.heap.size, 0, none⟩) 1 1) (w.alloc (.cells (segL.f x).toArray 42)) := by
  show (Instr.buildSlice 26 1 #[(0, .agg #[.string x.name, .int .u64 x.addr, .int .u64 x.size, .int .u64 x.off, .int .u64 x.fsize, .int .i64 x.prot, .slice x.secs.a x.secs.n x.secs.cap])]).run Tryz.prog w = .ok (.slice (some ⟨w.heap.size, 0, none⟩) 1 1) (w.alloc (.cells #[.string x.name, .int .u64 x.addr, .int .u64 x.size, .int .u64 x.off, .int .u64 x.fsize, .int .i64 x.prot, .slice x.secs.a x.secs.n x.secs.cap] 42))
  go_simp
/-- A segment that is one. -/
def SegOk (l : List UInt8) (w : World) (e : Ending) (w' : World) : Prop := ∃ s : Seg, e = .returned (.tuple #[segL.val s, .int .i64 0]) ∧ Chg [] w w' ∧ s = segX l s.secs ∧ secL.Buf 85 w' w.heap.size (.slice s.secs.a s.secs.n s.secs.cap) (secsN l (n4 l 64))
theorem Segment_good (l : List UInt8) (hE : segE l = 0) (hl : l.length ≤ 140737488355328) (v : Value) (w : World) (hg : Env w) (rd : byteL.Rd w v l) :
    Calls Tryz.prog 64 #[v] w (SegOk l w) := by
  refine (Segment_any l hl v w hg rd).mono ?_
  rintro e w' ⟨s, he, hc, hs⟩
  rw [hE] at he
  exact ⟨s, he, hc, (hs hE).1, (hs hE).2⟩
set_option linter.unusedSimpArgs false in
set_option maxHeartbeats 8000000 in
theorem segment_ok (l : List UInt8) (hE : segE l = 0) (hl : l.length ≤ 140737488355328) (v : Value) (w1 : World) (base bt bs : Nat) (p : TP) (t : Tel) (xs : List Seg) (w : World) (h : TInv w1 base bt bs p t xs w) (h16 : ¬ p.segs.length = 16) (h64 : p.n + n4 l 64 ≤ 64) (hg : Env w) (rd : byteL.Rd w v l) :
    Calls Tryz.prog 40 #[.pointer (some ⟨bt, 0, none⟩), v] w (TelSays w1 base bt bs 0 { p with segs := p.segs ++ [segP l], n := p.n + n4 l 64 }) := by
  have hsg := Segment_good l hE hl v w hg rd
  have hm := segE_ok hE
  have H := Lib.hid (h)
  have Hg := Lib.hid hg
  have RD := Lib.hid rd
  have Hl := Lib.hid hl
  have HSG := Lib.hid hsg
  have HE := Lib.hid hE
  clear hg rd hl hsg hE
  clear h
  obtain ⟨N, hN⟩ : ∃ N, N = n4 l 64 := ⟨_, rfl⟩
  rw [← hN] at hm
  try rw [← hN] at h64
  try rw [← hN]
  go_enter Tryz.func40, Tryz.ntmps40
  go_wp2_with fail
  refine (HSG.out).mono ?_
  rintro e W1 ⟨s, rfl, hch, hsx, hsb⟩
  rw [← hN] at hsb
  have H1 := Lib.hid (H.out.pure hch)
  have SB1 := Lib.hid (hsb.mono H.out.o4)
  have HSX : Hid (s.bare = segX l ⟨none, 0, 0⟩) := Lib.hid (by rw [hsx]; rfl)
  have HSN : Hid ((s.secs.n : Int) = (N : Int)) := by
    refine Lib.hid ?_
    obtain ⟨_, _, he, _, _⟩ := hsb.rd.shape
    injection he with _ he2 _
    rw [he2, secsN_len]
  have HN := Lib.hid hN
  clear hN
  clear hch hsx hsb
  go_wp2_with ((with_reducible refine Lay.alL Tryz.tSg ?_); intro W2 bx ebx cbx xbx; replace ebx := Lib.hid ebx; replace cbx := Lib.hid cbx; replace xbx := Lib.hid xbx; refine Hid.out ?_)
  refine Lib.hid ?_
  go_wp2_with ((with_reducible refine Lay.stL Tryz.tSg s (xbx.out) ?_ ?_ ?_); exact rfl; exact rfl; intro W3 cW3 xW3; replace cW3 := Lib.hid cW3; replace xW3 := Lib.hid xW3; refine Hid.out ?_)
  refine Lib.hid ?_
  have c13 : Chg [] W1 W3 := cbx.out.new cW3.out (by rw [ebx.out]; exact Nat.le_refl _)
  have hbx : ∀ i ∈ (Value.slice t.m.segs.a t.m.segs.n t.m.segs.cap).ownBlock.toList, i < bx := fun i hi => by rw [ebx.out]; exact (H1.out.sg.lt i (by simpa using hi)).2
  have hbt : bt < bx := by rw [ebx.out]; exact Nat.lt_of_lt_of_le H1.out.o2 H1.out.o4
  have H3 := Lib.hid (H1.out.pure c13)
  have SB3 := Lib.hid (SB1.out.pure c13)
  have X3 := Lib.hid (xW3.out)
  have Hbx := Lib.hid hbx
  have Hbt := Lib.hid hbt
  clear hbx hbt
  clear c13 SB1
  have hl3 := H3.out.l3
  have y25 := Tel.c_secs (Lay.Box.drew H3.out.box)
  rw [H3.out.secs] at y25
  have z25 := (Lay.Box.drew H3.out.box).frozen 25
  have y6 := Seg.c_secs (Lay.Box.drew X3.out)
  have hsn := HSN.out
  go_upto_region 4 with fail
  refine wp_region_still_tail 10 (by kernel_rfl) (by kernel_rfl) ?_
  simp only [List.take_succ_cons, List.take_zero, List.drop_succ_cons, List.drop_zero]
  change wpStill _ _ W3.drew _ _ _
  repeat still_step
  refine wpStill_nil ?_
  change wpList _ _ _ _ _ W3.drew
  have hw : IntKind.i64.wrap ((p.n : Int) + (N : Int)) = ((p.n + N : Nat) : Int) := by rw [IntKind.wrap_i64]; omega
  rw [hw]
  clear hw
  have hd : Chg [] W3 W3.drew := (Chg.refl _ _).drew
  have HD3 := Lib.hid (H3.out.pure hd)
  clear hd
  go_upto_region 5 with fail
  have hc4 : Chg [bt] W3.drew (W3.drew.setCell ⟨bt, 25, none⟩ (.int .i64 ((p.n + N : Nat) : Int))) := (Chg.refl _ _).setCell _ _ (.inl (by simp))
  obtain ⟨p2, hp2⟩ : ∃ p2 : TP, p2 = { p with n := p.n + N } := ⟨_, rfl⟩
  obtain ⟨t2, ht2⟩ : ∃ t2 : Tel, t2 = { t with secs := ((p.n + N : Nat) : Int) } := ⟨_, rfl⟩
  refine Lay.with_world (fun W => TMid w1 base bt bs p2 t2 W ∧ segL.Buf 42 W base (.slice t2.m.segs.a t2.m.segs.n t2.m.segs.cap) xs ∧ SecsIn W base xs p2.segs ∧ depL.Buf 57 W base (.slice t2.m.deps.a t2.m.deps.n t2.m.deps.cap) p2.deps ∧ segL.Box W bx s ∧ secL.Buf 85 W base (.slice s.secs.a s.secs.n s.secs.cap) (secsN l N)) ?_ (fun W4 hW => ?_)
  · subst hp2 ht2
    have o2 := HD3.out.o2
    have o3 := HD3.out.o3
    refine ⟨⟨Tel.set_secs HD3.out.box _, HD3.out.seen, rfl, HD3.out.m, HD3.out.mp.frameS hc4 (by simpa using o3), HD3.out.o1, HD3.out.o2, HD3.out.o3, Nat.le_trans HD3.out.o4 hc4.size, HD3.out.o5, HD3.out.o6, HD3.out.l1, HD3.out.l2, ?_, HD3.out.chg.new hc4 HD3.out.o6⟩, HD3.out.sg.frame hc4 (fun i hi hm => by have := (HD3.out.sg.lt i hi).1; simp at hm; omega), HD3.out.ks.low hc4 (by simp; omega), HD3.out.dp.frame hc4 (fun i hi hm => by have := (HD3.out.dp.lt i hi).1; simp at hm; omega), (Lay.Box.drew X3.out).frameS hc4 (by have := Hbt.out; simp; omega), (SB3.out.pure ((Chg.refl _ _).drew)).frame hc4 (fun i hi hm => by have := (SB3.out.lt i hi).1; simp at hm; omega)⟩
    exact h64
  obtain ⟨hM, hS, hK, hD, hX, hB⟩ := hW
  clear hc4 y25 z25 y6 hsn H3 HD3 X3 SB3
  have hTI : TInv w1 base bt bs p2 t2 xs W4 := ⟨hM.box, hM.seen, hM.secs, hM.m, hS, hK, hD, hM.mp, hM.o1, hM.o2, hM.o3, hM.o4, hM.o5, hM.o6, hM.l1, hM.l2, hM.l3, hM.chg⟩
  have Hp2 := Lib.hid hp2
  have Ht2 := Lib.hid ht2
  clear hp2 ht2
  have HSL : Hid (((t2.m.segs.n : Nat) : Int) = (p.segs.length : Int)) := by
    refine Lib.hid ?_
    obtain ⟨_, _, he, _, _⟩ := hS.rd.shape
    injection he with _ he2 _
    rw [he2, hK.1, Hp2.out]
  have y4 := Tel.c_segs hM.box
  have y25 := Tel.c_secs hM.box
  rw [hTI.secs, show p2.n = p.n + N by rw [Hp2.out]] at y25
  have d1 : (((t2.m.segs.n : Nat) : Int) == 16) = false := by rw [HSL.out, beq_eq_false_iff_ne]; omega
  have d2 : decide ((64 : Int) < (p.n : Int) + (N : Int)) = false := decide_eq_false (by omega)
  have hl1 : xs.length < 16 := by have := hTI.l1; have h1 := hK.1; have h2 : p2.segs = p.segs := by rw [Hp2.out]
                                  rw [h2] at this h1; omega
  obtain ⟨own, hown⟩ : ∃ own, own = (Value.slice t2.m.segs.a t2.m.segs.n t2.m.segs.cap).ownBlock := ⟨_, rfl⟩
  have hob : ∀ i ∈ own.toList, i < bx ∧ base ≤ i := fun i hi => by
    have h1 := hi
    rw [hown] at h1
    refine ⟨Hbx.out i ?_, (hS.lt i (by simpa using h1)).1⟩
    rw [show t2.m = t.m by rw [Ht2.out]] at h1
    exact h1
  have TI := Lib.hid hTI
  have HX := Lib.hid hX
  have HB := Lib.hid hB
  have HM := Lib.hid hM
  have HS := Lib.hid hS
  have HK := Lib.hid hK
  have HD := Lib.hid hD
  have H64 := Lib.hid h64
  have HOB := Lib.hid hob
  have HL1 := Lib.hid hl1
  have Hown := Lib.hid hown
  clear hTI hX hB hM hS hK hD h64 hob hl1 hown
  go_upto_region 7 with fail
  clear y25
  replace y4 := Tel.c_segs (Lay.Box.drew HM.out.box)
  refine wp_region_noPanic ?_
  refine wp_region_held_drew (S := fun w' => Chg (bt :: own.toList) W4 w' ∧ segL.In w' bx 0 s) (by kernel_rfl) ⟨(Chg.refl _ _).drew, (Lay.Box.drew HX.out).in⟩ (fun hHeld => ?_)
  refine take_read (i := 0) (v := ?_) (by simp only [List.getElem?_toArray, List.getElem?_cons_zero]; rfl) (by kernel_rfl) (by kernel_rfl) (by kernel_rfl) (fun _ _ _ h => h) hHeld ?_ ?_
  rotate_left
  · intro w hSw
    go_simp
    try with_reducible rfl
  try simp only [Act.put, List.setIfInBounds_toArray, List.set_cons_zero, List.set_cons_succ]
  refine take_read (i := 1) (v := ?_) (by simp only [List.getElem?_toArray, List.getElem?_cons_succ, List.getElem?_cons_zero]; rfl) (by kernel_rfl) (by kernel_rfl) (by kernel_rfl) (fun _ _ _ h => h) hHeld ?_ ?_
  rotate_left
  · intro w hSw
    go_simp
    try with_reducible rfl
  try simp only [Act.put, List.setIfInBounds_toArray, List.set_cons_zero, List.set_cons_succ]
  refine take_read (i := 2) (v := ?_) (by simp only [List.getElem?_toArray, List.getElem?_cons_succ, List.getElem?_cons_zero]; rfl) (by kernel_rfl) (by kernel_rfl) (by kernel_rfl) (fun _ _ _ h => h) hHeld ?_ ?_
  rotate_left
  · intro w hSw
    go_simp
    try with_reducible rfl
  try simp only [Act.put, List.setIfInBounds_toArray, List.set_cons_zero, List.set_cons_succ]
  refine take_read (i := 3) (v := ?_) (by simp only [List.getElem?_toArray, List.getElem?_cons_succ, List.getElem?_cons_zero]; rfl) (by kernel_rfl) (by kernel_rfl) (by kernel_rfl) (fun _ _ _ h => h) hHeld ?_ ?_
  rotate_left
  · intro w hSw
    go_simp
    try with_reducible rfl
  try simp only [Act.put, List.setIfInBounds_toArray, List.set_cons_zero, List.set_cons_succ]
  refine take_read (i := 4) (v := ?_) (by simp only [List.getElem?_toArray, List.getElem?_cons_succ, List.getElem?_cons_zero]; rfl) (by kernel_rfl) (by kernel_rfl) (by kernel_rfl) (fun _ _ _ h => h) hHeld ?_ ?_
  rotate_left
  · intro w hSw
    go_simp
    try with_reducible rfl
  try simp only [Act.put, List.setIfInBounds_toArray, List.set_cons_zero, List.set_cons_succ]
  refine take_read (i := 6) (v := ?_) (by simp only [List.getElem?_toArray, List.getElem?_cons_succ, List.getElem?_cons_zero]; rfl) (by kernel_rfl) (by kernel_rfl) (by kernel_rfl) (fun _ _ _ h => h) hHeld ?_ ?_
  rotate_left
  · intro w hSw
    refine Lay.read_ld Tryz.tSg hSw.2 ?_ ?_
    exact rfl
    exact rfl
  try simp only [Act.put, List.setIfInBounds_toArray, List.set_cons_zero, List.set_cons_succ]
  refine wpAnyH_ready (rs := [5, 7]) (by kernel_rfl) (by simp) ?_
  refine AllReadyH.cons rfl (fun K hK => ?_) (AllReadyH.cons rfl (fun K hK => ?_) AllReadyH.nil)
  · go_simp
    refine hK.out _ _ hHeld (fun hHeld2 => ?_)
    clear hK hHeld K
    have hHeld := hHeld2
    clear hHeld2
    try (unfold Act.put; simp only [List.setIfInBounds_toArray, List.set_cons_zero, List.set_cons_succ])
    refine wpAnyH_ready (rs := [7]) (by kernel_rfl) (by simp) ?_
    refine AllReadyH.cons (by simp only [List.getElem?_toArray, List.getElem?_cons_succ, List.getElem?_cons_zero]; rfl) (fun K hK => ?_) AllReadyH.nil
    refine Lay.armBs1 rfl _ rfl s (seg_built _) rfl (fun wj g hcj hrj => ?_)
    have J1 := Lib.hid hcj
    have JR := Lib.hid hrj
    clear hcj hrj
    replace y4 := J1.out.cell y4 (by simp)
    refine hK.out _ _ ⟨hHeld.1.then J1.out, hHeld.2.frame J1.out⟩ (fun hHeld2 => ?_)
    clear hK hHeld K
    have hHeld := hHeld2
    clear hHeld2
    try (unfold Act.put; simp only [List.setIfInBounds_toArray, List.set_cons_zero, List.set_cons_succ])
    refine wpAnyH_ready (rs := [8]) (by kernel_rfl) (by simp) ?_
    refine AllReadyH.cons (by simp only [List.getElem?_toArray, List.getElem?_cons_succ, List.getElem?_cons_zero]; rfl) (fun K hK => ?_) AllReadyH.nil
    have DJ : Hid (Chg [] W4 wj) := Lib.hid (((Chg.refl [] W4).drew).then J1.out)
    refine Lay.armApp (L := segL) Tryz.infoSeg rfl _ _ rfl base (.slice t2.m.segs.a t2.m.segs.n t2.m.segs.cap) xs rfl (HS.out.pure DJ.out) ⟨g, 0, none⟩ 1 1 rfl [s] JR.out (by have := HL1.out; simp; omega) (by have := HL1.out; simp; omega) (by have := TI.out.o4; have := DJ.out.size; omega) (fun vk wk hok hgr hlc => ?_)
    obtain ⟨a9, c9, rfl, _, _⟩ := hok.rd.shape
    rw [show (xs ++ [s]).length = xs.length + 1 by simp] at hok hlc
    have GR := Lib.hid (Lay.chg_grown hgr)
    have TJ := Lib.hid (TI.out.pure DJ.out)
    have TK := Lib.hid (TJ.out.grew GR.out (grown_ne TJ.out.sg))
    rw [← Hown.out] at GR
    have hnb : bx ∉ own.toList := fun hm => by have := HOB.out bx hm; omega
    have C12 : Hid (Chg (bt :: own.toList) W4 wk) := Lib.hid (hHeld.1.same (GR.out.mono (fun i hi _ => List.mem_cons_of_mem _ hi)))
    have XK : Hid (segL.Box wk bx s) := Lib.hid ((HX.out.frame DJ.out).frameS GR.out hnb)
    have IF9 := Lib.hid (XK.out.in)
    have HF : Hid (TInv w1 base bt bs { p2 with segs := p2.segs ++ [segP l] } { t2 with m := { t2.m with segs := ⟨a9, xs.length + 1, c9⟩ } } (xs ++ [s]) (wk.setCell ⟨bt, 4, none⟩ (.slice a9 (xs.length + 1) c9))) := by
      refine Lib.hid ?_
      refine TK.out.seg TJ.out (by rw [← Hown.out]; exact GR.out) hok ?_ ?_
      · refine SecsIn.snoc (TJ.out.ks.apart TJ.out.sg (by decide) (by rw [← Hown.out]; exact GR.out)) s (segP l) HSX.out ?_
        have hb := (HB.out.pure DJ.out).frame GR.out (fun b hb => by rw [Hown.out]; exact rows_ne (HB.out.pure DJ.out) TJ.out.sg (by decide) b hb)
        rw [HN.out] at hb
        exact hb
      · have h1 := HK.out.1
        have := HL1.out
        simp
        omega
    clear hok hgr hlc y4
    have y4 := Tel.c_segs TK.out.box
    have z4 := TK.out.box.frozen 4
    refine hK.out _ _ ⟨C12.out, IF9.out⟩ (fun hHeld2 => ?_)
    clear hK hHeld K
    have hHeld := hHeld2
    clear hHeld2
    try (unfold Act.put; simp only [List.setIfInBounds_toArray, List.set_cons_zero, List.set_cons_succ])
    refine take_read (i := 9) (v := ?_) (by simp only [List.getElem?_toArray, List.getElem?_cons_succ, List.getElem?_cons_zero]; rfl) (by kernel_rfl) (by kernel_rfl) (by kernel_rfl) (fun _ _ _ h => h) hHeld ?_ ?_
    rotate_left
    · intro w hSw
      go_simp
      try with_reducible rfl
    try simp only [Act.put, List.setIfInBounds_toArray, List.set_cons_zero, List.set_cons_succ]
    refine take_read (i := 10) (v := ?_) (by simp only [List.getElem?_toArray, List.getElem?_cons_succ, List.getElem?_cons_zero]; rfl) (by kernel_rfl) (by kernel_rfl) (by kernel_rfl) (fun _ _ _ h => h) hHeld ?_ ?_
    rotate_left
    · intro w hSw
      go_simp
      try with_reducible rfl
    try simp only [Act.put, List.setIfInBounds_toArray, List.set_cons_zero, List.set_cons_succ]
    refine take_read (i := 11) (v := ?_) (by simp only [List.getElem?_toArray, List.getElem?_cons_succ, List.getElem?_cons_zero]; rfl) (by kernel_rfl) (by kernel_rfl) (by kernel_rfl) (fun _ _ _ h => h) hHeld ?_ ?_
    rotate_left
    · intro w hSw
      go_simp
      try with_reducible rfl
    try simp only [Act.put, List.setIfInBounds_toArray, List.set_cons_zero, List.set_cons_succ]
    refine wpAnyH_ready (rs := [12]) (by kernel_rfl) (by simp) ?_
    refine AllReadyH.cons rfl (fun K hK => ?_) AllReadyH.nil
    go_simp
    refine hK.out _ _ ⟨C12.out.setCell _ _ (.inl (by simp)), IF9.out.frameS (S := [bt]) ((Chg.refl _ _).setCell _ _ (.inl (by simp))) (by have := Hbt.out; simp; omega)⟩ (fun hHeld2 => ?_)
    clear hK hHeld K
    have hHeld := hHeld2
    clear hHeld2
    try (unfold Act.put; simp only [List.setIfInBounds_toArray, List.set_cons_zero, List.set_cons_succ])
    refine wpAnyH_done (by kernel_rfl) ?_ _
    refine NoPanic.normal ?_
    refine with_exitT (Q := Exit.then _ _ _ _) (fun W => TInv w1 base bt bs { p2 with segs := p2.segs ++ [segP l] } { t2 with m := { t2.m with segs := ⟨a9, xs.length + 1, c9⟩ } } (xs ++ [s]) W) HF.out (fun WE hW => ?_)
    have TE := Lib.hid (hW)
    clear hW hHeld y4 z4 HF
    rw [Hp2.out] at TE
    go_wp2
    go_ret
    exact ⟨rfl, TE.out.chg, fun _ => ⟨_, _, TE.out⟩⟩
  · refine Lay.armBs1 rfl _ rfl s (seg_built _) rfl (fun wj g hcj hrj => ?_)
    have J1 := Lib.hid hcj
    have JR := Lib.hid hrj
    clear hcj hrj
    replace y4 := J1.out.cell y4 (by simp)
    refine hK.out _ _ ⟨hHeld.1.then J1.out, hHeld.2.frame J1.out⟩ (fun hHeld2 => ?_)
    clear hK hHeld K
    have hHeld := hHeld2
    clear hHeld2
    try (unfold Act.put; simp only [List.setIfInBounds_toArray, List.set_cons_zero, List.set_cons_succ])
    refine wpAnyH_ready (rs := [5]) (by kernel_rfl) (by simp) ?_
    refine AllReadyH.cons rfl (fun K hK => ?_) AllReadyH.nil
    go_simp
    refine hK.out _ _ hHeld (fun hHeld2 => ?_)
    clear hK hHeld K
    have hHeld := hHeld2
    clear hHeld2
    try (unfold Act.put; simp only [List.setIfInBounds_toArray, List.set_cons_zero, List.set_cons_succ])
    refine wpAnyH_ready (rs := [8]) (by kernel_rfl) (by simp) ?_
    refine AllReadyH.cons (by simp only [List.getElem?_toArray, List.getElem?_cons_succ, List.getElem?_cons_zero]; rfl) (fun K hK => ?_) AllReadyH.nil
    have DJ : Hid (Chg [] W4 wj) := Lib.hid (((Chg.refl [] W4).drew).then J1.out)
    refine Lay.armApp (L := segL) Tryz.infoSeg rfl _ _ rfl base (.slice t2.m.segs.a t2.m.segs.n t2.m.segs.cap) xs rfl (HS.out.pure DJ.out) ⟨g, 0, none⟩ 1 1 rfl [s] JR.out (by have := HL1.out; simp; omega) (by have := HL1.out; simp; omega) (by have := TI.out.o4; have := DJ.out.size; omega) (fun vk wk hok hgr hlc => ?_)
    obtain ⟨a9, c9, rfl, _, _⟩ := hok.rd.shape
    rw [show (xs ++ [s]).length = xs.length + 1 by simp] at hok hlc
    have GR := Lib.hid (Lay.chg_grown hgr)
    have TJ := Lib.hid (TI.out.pure DJ.out)
    have TK := Lib.hid (TJ.out.grew GR.out (grown_ne TJ.out.sg))
    rw [← Hown.out] at GR
    have hnb : bx ∉ own.toList := fun hm => by have := HOB.out bx hm; omega
    have C12 : Hid (Chg (bt :: own.toList) W4 wk) := Lib.hid (hHeld.1.same (GR.out.mono (fun i hi _ => List.mem_cons_of_mem _ hi)))
    have XK : Hid (segL.Box wk bx s) := Lib.hid ((HX.out.frame DJ.out).frameS GR.out hnb)
    have IF9 := Lib.hid (XK.out.in)
    have HF : Hid (TInv w1 base bt bs { p2 with segs := p2.segs ++ [segP l] } { t2 with m := { t2.m with segs := ⟨a9, xs.length + 1, c9⟩ } } (xs ++ [s]) (wk.setCell ⟨bt, 4, none⟩ (.slice a9 (xs.length + 1) c9))) := by
      refine Lib.hid ?_
      refine TK.out.seg TJ.out (by rw [← Hown.out]; exact GR.out) hok ?_ ?_
      · refine SecsIn.snoc (TJ.out.ks.apart TJ.out.sg (by decide) (by rw [← Hown.out]; exact GR.out)) s (segP l) HSX.out ?_
        have hb := (HB.out.pure DJ.out).frame GR.out (fun b hb => by rw [Hown.out]; exact rows_ne (HB.out.pure DJ.out) TJ.out.sg (by decide) b hb)
        rw [HN.out] at hb
        exact hb
      · have h1 := HK.out.1
        have := HL1.out
        simp
        omega
    clear hok hgr hlc y4
    have y4 := Tel.c_segs TK.out.box
    have z4 := TK.out.box.frozen 4
    refine hK.out _ _ ⟨C12.out, IF9.out⟩ (fun hHeld2 => ?_)
    clear hK hHeld K
    have hHeld := hHeld2
    clear hHeld2
    try (unfold Act.put; simp only [List.setIfInBounds_toArray, List.set_cons_zero, List.set_cons_succ])
    refine take_read (i := 9) (v := ?_) (by simp only [List.getElem?_toArray, List.getElem?_cons_succ, List.getElem?_cons_zero]; rfl) (by kernel_rfl) (by kernel_rfl) (by kernel_rfl) (fun _ _ _ h => h) hHeld ?_ ?_
    rotate_left
    · intro w hSw
      go_simp
      try with_reducible rfl
    try simp only [Act.put, List.setIfInBounds_toArray, List.set_cons_zero, List.set_cons_succ]
    refine take_read (i := 10) (v := ?_) (by simp only [List.getElem?_toArray, List.getElem?_cons_succ, List.getElem?_cons_zero]; rfl) (by kernel_rfl) (by kernel_rfl) (by kernel_rfl) (fun _ _ _ h => h) hHeld ?_ ?_
    rotate_left
    · intro w hSw
      go_simp
      try with_reducible rfl
    try simp only [Act.put, List.setIfInBounds_toArray, List.set_cons_zero, List.set_cons_succ]
    refine take_read (i := 11) (v := ?_) (by simp only [List.getElem?_toArray, List.getElem?_cons_succ, List.getElem?_cons_zero]; rfl) (by kernel_rfl) (by kernel_rfl) (by kernel_rfl) (fun _ _ _ h => h) hHeld ?_ ?_
    rotate_left
    · intro w hSw
      go_simp
      try with_reducible rfl
    try simp only [Act.put, List.setIfInBounds_toArray, List.set_cons_zero, List.set_cons_succ]
    refine wpAnyH_ready (rs := [12]) (by kernel_rfl) (by simp) ?_
    refine AllReadyH.cons rfl (fun K hK => ?_) AllReadyH.nil
    go_simp
    refine hK.out _ _ ⟨C12.out.setCell _ _ (.inl (by simp)), IF9.out.frameS (S := [bt]) ((Chg.refl _ _).setCell _ _ (.inl (by simp))) (by have := Hbt.out; simp; omega)⟩ (fun hHeld2 => ?_)
    clear hK hHeld K
    have hHeld := hHeld2
    clear hHeld2
    try (unfold Act.put; simp only [List.setIfInBounds_toArray, List.set_cons_zero, List.set_cons_succ])
    refine wpAnyH_done (by kernel_rfl) ?_ _
    refine NoPanic.normal ?_
    refine with_exitT (Q := Exit.then _ _ _ _) (fun W => TInv w1 base bt bs { p2 with segs := p2.segs ++ [segP l] } { t2 with m := { t2.m with segs := ⟨a9, xs.length + 1, c9⟩ } } (xs ++ [s]) W) HF.out (fun WE hW => ?_)
    have TE := Lib.hid (hW)
    clear hW hHeld y4 z4 HF
    rw [Hp2.out] at TE
    go_wp2
    go_ret
    exact ⟨rfl, TE.out.chg, fun _ => ⟨_, _, TE.out⟩⟩
set_option maxHeartbeats 8000000 in
theorem segment_16 (l : List UInt8) (hE : segE l = 0) (hl : l.length ≤ 140737488355328) (v : Value) (w1 : World) (base bt bs : Nat) (p q : TP) (t : Tel) (xs : List Seg) (w : World) (h : TInv w1 base bt bs p t xs w) (h16 : p.segs.length = 16) (hg : Env w) (rd : byteL.Rd w v l) :
    Calls Tryz.prog 40 #[.pointer (some ⟨bt, 0, none⟩), v] w (TelSays w1 base bt bs 11 q) := by
  have hsg := Segment_good l hE hl v w hg rd
  have h64 : True := trivial
  have hsl : ((t.m.segs.n : Nat) : Int) = 16 := by
    obtain ⟨_, _, he, _, _⟩ := h.sg.rd.shape
    injection he with _ he2 _
    rw [he2, h.ks.1, h16]
    rfl
  have d1 : (((t.m.segs.n : Nat) : Int) == 16) = true := by rw [hsl]; rfl
  have H16 := Lib.hid h16
  have Hsl := Lib.hid hsl
  clear h16 hsl
  have hm := segE_ok hE
  have H := Lib.hid (h)
  have Hg := Lib.hid hg
  have RD := Lib.hid rd
  have Hl := Lib.hid hl
  have HSG := Lib.hid hsg
  have HE := Lib.hid hE
  clear hg rd hl hsg hE
  clear h
  obtain ⟨N, hN⟩ : ∃ N, N = n4 l 64 := ⟨_, rfl⟩
  rw [← hN] at hm
  try rw [← hN] at h64
  try rw [← hN]
  go_enter Tryz.func40, Tryz.ntmps40
  go_wp2_with fail
  refine (HSG.out).mono ?_
  rintro e W1 ⟨s, rfl, hch, hsx, hsb⟩
  rw [← hN] at hsb
  have H1 := Lib.hid (H.out.pure hch)
  have SB1 := Lib.hid (hsb.mono H.out.o4)
  have HSX : Hid (s.bare = segX l ⟨none, 0, 0⟩) := Lib.hid (by rw [hsx]; rfl)
  have HSN : Hid ((s.secs.n : Int) = (N : Int)) := by
    refine Lib.hid ?_
    obtain ⟨_, _, he, _, _⟩ := hsb.rd.shape
    injection he with _ he2 _
    rw [he2, secsN_len]
  have HN := Lib.hid hN
  clear hN
  clear hch hsx hsb
  go_wp2_with ((with_reducible refine Lay.alL Tryz.tSg ?_); intro W2 bx ebx cbx xbx; replace ebx := Lib.hid ebx; replace cbx := Lib.hid cbx; replace xbx := Lib.hid xbx; refine Hid.out ?_)
  refine Lib.hid ?_
  go_wp2_with ((with_reducible refine Lay.stL Tryz.tSg s (xbx.out) ?_ ?_ ?_); exact rfl; exact rfl; intro W3 cW3 xW3; replace cW3 := Lib.hid cW3; replace xW3 := Lib.hid xW3; refine Hid.out ?_)
  refine Lib.hid ?_
  have c13 : Chg [] W1 W3 := cbx.out.new cW3.out (by rw [ebx.out]; exact Nat.le_refl _)
  have hbx : ∀ i ∈ (Value.slice t.m.segs.a t.m.segs.n t.m.segs.cap).ownBlock.toList, i < bx := fun i hi => by rw [ebx.out]; exact (H1.out.sg.lt i (by simpa using hi)).2
  have hbt : bt < bx := by rw [ebx.out]; exact Nat.lt_of_lt_of_le H1.out.o2 H1.out.o4
  have H3 := Lib.hid (H1.out.pure c13)
  have SB3 := Lib.hid (SB1.out.pure c13)
  have X3 := Lib.hid (xW3.out)
  have Hbx := Lib.hid hbx
  have Hbt := Lib.hid hbt
  clear hbx hbt
  clear c13 SB1
  have hl3 := H3.out.l3
  have y25 := Tel.c_secs (Lay.Box.drew H3.out.box)
  rw [H3.out.secs] at y25
  have z25 := (Lay.Box.drew H3.out.box).frozen 25
  have y6 := Seg.c_secs (Lay.Box.drew X3.out)
  have hsn := HSN.out
  go_upto_region 4 with fail
  refine wp_region_still_tail 10 (by kernel_rfl) (by kernel_rfl) ?_
  simp only [List.take_succ_cons, List.take_zero, List.drop_succ_cons, List.drop_zero]
  change wpStill _ _ W3.drew _ _ _
  repeat still_step
  refine wpStill_nil ?_
  change wpList _ _ _ _ _ W3.drew
  have hw : IntKind.i64.wrap ((p.n : Int) + (N : Int)) = ((p.n + N : Nat) : Int) := by rw [IntKind.wrap_i64]; omega
  rw [hw]
  clear hw
  have hd : Chg [] W3 W3.drew := (Chg.refl _ _).drew
  have HD3 := Lib.hid (H3.out.pure hd)
  clear hd
  go_upto_region 5 with fail
  have hc4 : Chg [bt] W3.drew (W3.drew.setCell ⟨bt, 25, none⟩ (.int .i64 ((p.n + N : Nat) : Int))) := (Chg.refl _ _).setCell _ _ (.inl (by simp))
  refine Lay.with_world (fun W => telL.Box W bt { t with secs := ((p.n + N : Nat) : Int) } ∧ Chg [] w1 W) ⟨Tel.set_secs HD3.out.box _, HD3.out.chg.new hc4 HD3.out.o6⟩ (fun W4 hW => ?_)
  have CE := Lib.hid (hW.2)
  have y4 := Tel.c_segs hW.1
  clear hc4 y25 z25 y6 hsn hW
  go_wp2
  go_ret
  exact ⟨rfl, CE.out, fun h => absurd h (by decide)⟩
set_option maxHeartbeats 8000000 in
theorem segment_64 (l : List UInt8) (hE : segE l = 0) (hl : l.length ≤ 140737488355328) (v : Value) (w1 : World) (base bt bs : Nat) (p q : TP) (t : Tel) (xs : List Seg) (w : World) (h : TInv w1 base bt bs p t xs w) (h16 : ¬ p.segs.length = 16) (h64 : 64 < p.n + n4 l 64) (hg : Env w) (rd : byteL.Rd w v l) :
    Calls Tryz.prog 40 #[.pointer (some ⟨bt, 0, none⟩), v] w (TelSays w1 base bt bs 11 q) := by
  have hsg := Segment_good l hE hl v w hg rd
  have hsl : ((t.m.segs.n : Nat) : Int) = (p.segs.length : Int) := by
    obtain ⟨_, _, he, _, _⟩ := h.sg.rd.shape
    injection he with _ he2 _
    rw [he2, h.ks.1]
  have d1 : (((t.m.segs.n : Nat) : Int) == 16) = false := by rw [hsl, beq_eq_false_iff_ne]; omega
  have H16 := Lib.hid h16
  have Hsl := Lib.hid hsl
  clear h16 hsl
  have hm := segE_ok hE
  have H := Lib.hid (h)
  have Hg := Lib.hid hg
  have RD := Lib.hid rd
  have Hl := Lib.hid hl
  have HSG := Lib.hid hsg
  have HE := Lib.hid hE
  clear hg rd hl hsg hE
  clear h
  obtain ⟨N, hN⟩ : ∃ N, N = n4 l 64 := ⟨_, rfl⟩
  rw [← hN] at hm
  try rw [← hN] at h64
  try rw [← hN]
  go_enter Tryz.func40, Tryz.ntmps40
  go_wp2_with fail
  refine (HSG.out).mono ?_
  rintro e W1 ⟨s, rfl, hch, hsx, hsb⟩
  rw [← hN] at hsb
  have H1 := Lib.hid (H.out.pure hch)
  have SB1 := Lib.hid (hsb.mono H.out.o4)
  have HSX : Hid (s.bare = segX l ⟨none, 0, 0⟩) := Lib.hid (by rw [hsx]; rfl)
  have HSN : Hid ((s.secs.n : Int) = (N : Int)) := by
    refine Lib.hid ?_
    obtain ⟨_, _, he, _, _⟩ := hsb.rd.shape
    injection he with _ he2 _
    rw [he2, secsN_len]
  have HN := Lib.hid hN
  clear hN
  clear hch hsx hsb
  go_wp2_with ((with_reducible refine Lay.alL Tryz.tSg ?_); intro W2 bx ebx cbx xbx; replace ebx := Lib.hid ebx; replace cbx := Lib.hid cbx; replace xbx := Lib.hid xbx; refine Hid.out ?_)
  refine Lib.hid ?_
  go_wp2_with ((with_reducible refine Lay.stL Tryz.tSg s (xbx.out) ?_ ?_ ?_); exact rfl; exact rfl; intro W3 cW3 xW3; replace cW3 := Lib.hid cW3; replace xW3 := Lib.hid xW3; refine Hid.out ?_)
  refine Lib.hid ?_
  have c13 : Chg [] W1 W3 := cbx.out.new cW3.out (by rw [ebx.out]; exact Nat.le_refl _)
  have hbx : ∀ i ∈ (Value.slice t.m.segs.a t.m.segs.n t.m.segs.cap).ownBlock.toList, i < bx := fun i hi => by rw [ebx.out]; exact (H1.out.sg.lt i (by simpa using hi)).2
  have hbt : bt < bx := by rw [ebx.out]; exact Nat.lt_of_lt_of_le H1.out.o2 H1.out.o4
  have H3 := Lib.hid (H1.out.pure c13)
  have SB3 := Lib.hid (SB1.out.pure c13)
  have X3 := Lib.hid (xW3.out)
  have Hbx := Lib.hid hbx
  have Hbt := Lib.hid hbt
  clear hbx hbt
  clear c13 SB1
  have hl3 := H3.out.l3
  have y25 := Tel.c_secs (Lay.Box.drew H3.out.box)
  rw [H3.out.secs] at y25
  have z25 := (Lay.Box.drew H3.out.box).frozen 25
  have y6 := Seg.c_secs (Lay.Box.drew X3.out)
  have hsn := HSN.out
  go_upto_region 4 with fail
  refine wp_region_still_tail 10 (by kernel_rfl) (by kernel_rfl) ?_
  simp only [List.take_succ_cons, List.take_zero, List.drop_succ_cons, List.drop_zero]
  change wpStill _ _ W3.drew _ _ _
  repeat still_step
  refine wpStill_nil ?_
  change wpList _ _ _ _ _ W3.drew
  have hw : IntKind.i64.wrap ((p.n : Int) + (N : Int)) = ((p.n + N : Nat) : Int) := by rw [IntKind.wrap_i64]; omega
  rw [hw]
  clear hw
  have hd : Chg [] W3 W3.drew := (Chg.refl _ _).drew
  have HD3 := Lib.hid (H3.out.pure hd)
  clear hd
  go_upto_region 5 with fail
  have d2 : decide ((64 : Int) < (p.n : Int) + (N : Int)) = true := decide_eq_true (by omega)
  have hc4 : Chg [bt] W3.drew (W3.drew.setCell ⟨bt, 25, none⟩ (.int .i64 ((p.n + N : Nat) : Int))) := (Chg.refl _ _).setCell _ _ (.inl (by simp))
  refine Lay.with_world (fun W => telL.Box W bt { t with secs := ((p.n + N : Nat) : Int) } ∧ Chg [] w1 W) ⟨Tel.set_secs HD3.out.box _, HD3.out.chg.new hc4 HD3.out.o6⟩ (fun W4 hW => ?_)
  have CE := Lib.hid (hW.2)
  clear y25
  have y4 := Tel.c_segs hW.1
  have y25 := Tel.c_secs hW.1
  clear hc4 z25 y6 hsn hW
  go_wp2
  go_ret
  exact ⟨rfl, CE.out, fun h => absurd h (by decide)⟩
theorem segment_bad (l : List UInt8) (hE : ¬ segE l = 0) (hl : l.length ≤ 140737488355328) (v : Value) (w1 : World) (base bt bs : Nat) (p q : TP) (t : Tel) (xs : List Seg) (w : World) (h : TInv w1 base bt bs p t xs w) (hg : Env w) (rd : byteL.Rd w v l) :
    Calls Tryz.prog 40 #[.pointer (some ⟨bt, 0, none⟩), v] w (TelSays w1 base bt bs (segE l) q) := by
  have hsg := Segment_any l hl v w hg rd
  obtain ⟨E, hEE⟩ : ∃ E, E = segE l := ⟨_, rfl⟩
  rw [← hEE] at hE hsg ⊢
  have d0 : (E != 0) = true := by rw [bne_iff_ne]; exact hE
  have H := Lib.hid (h)
  have Hg := Lib.hid hg
  have RD := Lib.hid rd
  have Hl := Lib.hid hl
  have HSG := Lib.hid hsg
  have HE := Lib.hid hE
  have HEE := Lib.hid hEE
  clear hg rd hl hsg hE hEE
  clear h
  go_enter Tryz.func40, Tryz.ntmps40
  go_wp2_with fail
  refine (HSG.out).mono ?_
  rintro e W1 ⟨s, rfl, hch, _⟩
  have H1 := Lib.hid (H.out.pure hch)
  clear hch
  go_wp2_with ((with_reducible refine Lay.alL Tryz.tSg ?_); intro W2 bx ebx cbx xbx; replace ebx := Lib.hid ebx; replace cbx := Lib.hid cbx; replace xbx := Lib.hid xbx; refine Hid.out ?_)
  refine Lib.hid ?_
  go_wp2_with ((with_reducible refine Lay.stL Tryz.tSg s (xbx.out) ?_ ?_ ?_); exact rfl; exact rfl; intro W3 cW3 xW3; replace cW3 := Lib.hid cW3; replace xW3 := Lib.hid xW3; refine Hid.out ?_)
  refine Lib.hid ?_
  have c13 : Chg [] W1 W3 := cbx.out.new cW3.out (by rw [ebx.out]; exact Nat.le_refl _)
  have H3 := Lib.hid (H1.out.pure c13)
  clear c13
  go_wp2
  go_ret
  exact ⟨rfl, H3.out.chg, fun h => absurd h HE.out⟩
theorem segment_any (l : List UInt8) (hl : l.length ≤ 140737488355328) (v : Value) (w1 : World) (base bt bs : Nat) (p : TP) (t : Tel) (xs : List Seg) (w : World) (h : TInv w1 base bt bs p t xs w) (hg : Env w) (rd : byteL.Rd w v l) :
    Calls Tryz.prog 40 #[.pointer (some ⟨bt, 0, none⟩), v] w (TelSays w1 base bt bs (sgtE p l) { p with segs := p.segs ++ [segP l], n := p.n + n4 l 64 }) := by
  unfold sgtE
  by_cases hE : segE l = 0
  · rw [if_pos hE]
    by_cases h16 : p.segs.length = 16
    · rw [if_pos (.inl h16)]
      exact segment_16 l hE hl v w1 base bt bs p _ t xs w h h16 hg rd
    · by_cases h64 : 64 < p.n + n4 l 64
      · rw [if_pos (.inr h64)]
        exact segment_64 l hE hl v w1 base bt bs p _ t xs w h h16 h64 hg rd
      · rw [if_neg (by omega)]
        exact segment_ok l hE hl v w1 base bt bs p t xs w h h16 (by omega) hg rd
  · rw [if_neg hE]
    exact segment_bad l hE hl v w1 base bt bs p _ t xs w h hg rd
end Go.Proofs.YtgjlgamlmmjdpaaGreatDoor
/- A record is stored where one stands: a law for the walk. No program in sight. -/
namespace Go.Proofs.YtgjlgamlmmjdpaaGreatDoor
open Go.RowKit
set_option maxRecDepth 100000
section
variable {α : Type} {L : Lay α} {P : Program} {T : TypeId} {ops : Array Oper} {rest : List Oper} {a : Act} {Q : Exit → Act → World → Prop} {w : World}
theorem stAt (hT : Lay.Ty L P T) {p s : Operand} {ty : TypeId} {pos : String} {after : Array Edge} {b off : Nat} {y : α} (x : α) (hb : L.In w b off y) (hf : ∀ j, w.frozen? ⟨b, j, none⟩ = false) (hp : a.eval p = .pointer (some ⟨b, off, none⟩)) (hs : a.eval s = .agg (L.f x).toArray)
    (h : ∀ W, W = Lay.setW w b off (L.f x) → wpList P ops Q rest a W) : wpList P ops Q (⟨none, .store T p s, ty, pos, after, none⟩ :: rest) a w := by
  refine wpList_plain rfl fun K hK => ?_
  unfold Oper.wp execOp
  have := h _ rfl
  have hr := Lay.run_storeCells (P := P) (g := b) (L.f x) w off 0 (L.one x) (fun c hc => by
    rw [Nat.add_zero]
    have := hb c (by rw [← L.len x]; exact hc)
    rw [this]
    exact ⟨_, List.getElem?_eq_getElem (by rw [L.len]; rw [L.len] at hc; exact hc)⟩) hf
  simp [Instr.storeAt, Instr.sureAddr, hp, hs, storeVar, Lay.run_size hT, Value.cells, L.len, hr]
  exact hK _ _ this
end
end Go.Proofs.YtgjlgamlmmjdpaaGreatDoor
/- load: the teller's trie. -/
namespace Go.Proofs.YtgjlgamlmmjdpaaGreatDoor
open Go.RowKit
set_option maxRecDepth 100000

def trE (p : TP) (x : Spn) : Int := if x.size = 0 then 0 else if 0 < p.m.trS then 21 else 0
def trQ (p : TP) (x : Spn) : TP := if x.size = 0 then p else { p with m := { p.m with trO := x.off, trS := x.size } }
theorem Tel.in_tr {w : World} {g : Nat} {t : Tel} (h : telL.Box w g t) : spnL.In w g 14 ⟨t.m.trO, t.m.trS⟩ := fun c hc => by
  have h1 := Tel.c_tr h
  have : c = 0 ∨ c = 1 := by have : spnL.n = 2 := rfl; omega
  rcases this with rfl | rfl
  · exact h1.1
  · exact h1.2
set_option maxHeartbeats 4000000 in
theorem trie_any (x : Spn) (w1 : World) (base bt bs : Nat) (p : TP) (t : Tel) (xs : List Seg) (w : World) (h : TInv w1 base bt bs p t xs w) :
    Calls Tryz.prog 70 #[.pointer (some ⟨bt, 0, none⟩), spnL.val x] w (TelSays w1 base bt bs (trE p x) (trQ p x)) := by
  have htr : t.m.trS = p.m.trS := by rw [← h.m]; rfl
  have H := Lib.hid (h)
  clear h
  unfold trE trQ
  by_cases h0 : x.size = 0
  · rw [if_pos h0, if_pos h0]
    have d1 : (x.size == 0) = true := by rw [h0]; rfl
    have Htr := Lib.hid htr
    have H0 := Lib.hid h0
    clear htr h0
    go_enter Tryz.func70, Tryz.ntmps70
    go_wp2_with ((with_reducible refine Lay.bxL (L := spnL) 30 x ?_ ?_); exact rfl; intro W b eb cb xb; replace eb := Lib.hid eb; replace cb := Lib.hid cb; replace xb := Lib.hid xb; refine Hid.out ?_)
    refine Lib.hid ?_
    have H1 := Lib.hid (H.out.pure cb.out)
    have y1 := Spn.c_size xb.out
    go_wp2
    go_ret
    exact ⟨rfl, H1.out.chg, fun _ => ⟨_, _, H1.out⟩⟩
  · rw [if_neg h0, if_neg h0]
    have d1 : (x.size == 0) = false := by rw [beq_eq_false_iff_ne]; exact h0
    by_cases ht : 0 < p.m.trS
    · rw [if_pos ht]
      have d2 : decide ((0 : Int) < t.m.trS) = true := by rw [htr]; exact decide_eq_true ht
      have Htr := Lib.hid htr
      have H0 := Lib.hid h0
      have Ht := Lib.hid ht
      clear htr h0 ht
      go_enter Tryz.func70, Tryz.ntmps70
      go_wp2_with ((with_reducible refine Lay.bxL (L := spnL) 30 x ?_ ?_); exact rfl; intro W b eb cb xb; replace eb := Lib.hid eb; replace cb := Lib.hid cb; replace xb := Lib.hid xb; refine Hid.out ?_)
      refine Lib.hid ?_
      have H1 := Lib.hid (H.out.pure cb.out)
      have y1 := Spn.c_size xb.out
      have y2 := (Tel.c_tr H1.out.box).2
      go_wp2
      go_ret
      exact ⟨rfl, H1.out.chg, fun h => absurd h (by decide)⟩
    · rw [if_neg ht]
      have d2 : decide ((0 : Int) < t.m.trS) = false := by rw [htr]; exact decide_eq_false ht
      have Htr := Lib.hid htr
      have H0 := Lib.hid h0
      have Ht := Lib.hid ht
      clear htr h0 ht
      go_enter Tryz.func70, Tryz.ntmps70
      go_wp2_with ((with_reducible refine Lay.bxL (L := spnL) 30 x ?_ ?_); exact rfl; intro W b eb cb xb; replace eb := Lib.hid eb; replace cb := Lib.hid cb; replace xb := Lib.hid xb; refine Hid.out ?_)
      refine Lib.hid ?_
      have H1 := Lib.hid (H.out.pure cb.out)
      have y1 := Spn.c_size xb.out
      have y2 := (Tel.c_tr H1.out.box).2
      go_wp2_with ((with_reducible refine Lay.ldL Tryz.tSpn x (xb.out.in) ?_ ?_); exact rfl; refine Hid.out ?_)
      refine Lib.hid ?_
      go_wp2_with ((with_reducible refine stAt Tryz.tSpn x (Tel.in_tr H1.out.box) H1.out.box.frozen ?_ ?_ ?_); exact rfl; exact rfl; intro W3 eW3; replace eW3 := Lib.hid eW3; refine Hid.out ?_)
      refine Lib.hid ?_
      have hc : Chg [bt] W W3 := by rw [eW3.out]; exact Lay.setW_chg _ _ _ _
      have hb : telL.Box W3 bt { t with m := { t.m with trO := x.off, trS := x.size } } := by rw [eW3.out]; exact Tel.set_tr H1.out.box x
      have hq : ({ t.m with trO := x.off, trS := x.size } : Img).bare = { p.m with trO := x.off, trS := x.size } := by rw [← H.out.m]; rfl
      have hf := H1.out.upd hc hb (q := { p with m := { p.m with trO := x.off, trS := x.size } }) rfl H1.out.secs hq rfl rfl rfl rfl rfl H1.out.l3
      have Hf := Lib.hid hf
      clear hf
      clear hc hb hq y1 y2
      go_wp2
      go_ret
      exact ⟨rfl, Hf.out.chg, fun _ => ⟨_, _, Hf.out⟩⟩
end Go.Proofs.YtgjlgamlmmjdpaaGreatDoor
