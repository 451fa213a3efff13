/- Lemmas, laid together: part 18 of 42. Conditions: none but each lemma's own. -/
import Derived.Test.YtiljokmkiolpgaaGreatDoorJ17
import Derived.Test.YtiljokmkiolpgaaGreatDoorJ1
namespace Go.Proofs.YtiljokmkiolpgaaGreatDoor
open Go.RowKit
set_option maxRecDepth 100000
set_option maxHeartbeats 16000000 in
theorem cread_main (B : List UInt8) (hl1 : 28 ≤ B.length) (hl2 : B.length ≤ 2147483647) (hz : WN B 0 4 = 0 ∧ WN B 24 4 = 0) (hf : WN B 20 4 = 1 ∨ WN B 20 4 = 2 ∨ WN B 20 4 = 3) (hN : WN B 16 4 ≤ 4096) (m : Img) (ls : List Seg) (R : ChR (List StP × List Imp))
   (hR : R = (startsC B ls (WN B 4 4)).then fun s => (impC B m.deps.n (WN B 20 4 : Nat) (WN B 12 4) (WN B 16 4) (WN B 8 4) []).then fun l => .ok (s, l))
   (hls : SegsB ls) (hend : ∀ k, k < ls.length → (ls.getD k .zero).size ≤ 140737488355328) (hn1 : ls.length ≤ 1048576) (v : Value) (w : World) (hg : Env w) (rd : byteL.Rd w v B) (rdS : segL.Rd w m.segs.v ls) (hso : ∀ k, m.segs.v.ownBlock = some k → k < w.heap.size) :
    Calls Tryz.prog 17 #[v, imgL.val m] w (ChP w R) := by
  obtain ⟨a, cap, rfl, hc1, hc2⟩ := rd.shape
  have hmf : ∀ (fn : Fn) (first cap : Array Value) (w : World), (Instr.makeFunc fn first cap).run Tryz.prog w = .ok (.func fn first cap) w := fun _ _ _ _ => rfl
  have HNW : Hid (∀ W, Chg [] w W → Calls Tryz.prog 41 #[.slice a B.length cap, .bool false] W fun e w' => ∃ b, e = .returned (.pointer (some ⟨b, 0, none⟩)) ∧ W.heap.size ≤ b ∧ CurB w' b (cs B 0) ∧ Chg [] W w') := hY (fun W h => New_cur _ B false W (Rd_of_byte (rd.frame h)) (by omega))
  have HNV : Hid (∀ w (b p : Nat), p + 4 ≤ B.length → CurB w b (cs B p) → Calls Tryz.prog 45 #[.pointer (some ⟨b, 0, none⟩), .int .i64 4] w fun e w' => e = .returned (.int .u64 (WN B p 4)) ∧ CurB w' b (cs B (p + 4)) ∧ Chg [b] w w') := by
    refine hY ?_
    intro w b p hp hc
    have := Number_cur b (cs B p) 4 w hc
    rw [show ((4 : Int)) = ((4 : Nat) : Int) from rfl, numV (by decide) hp, numS (by decide) hp] at this
    exact this
  have q1 := fun W => (Lay.run_eql_func (P := Tryz.prog) Tryz.underlying115 W).2.2.2
  have q0 := fun W => (Lay.run_eql_func (P := Tryz.prog) Tryz.underlying115 W).2.2.1
  obtain ⟨n0, hw0⟩ : ∃ n, WN B 0 4 = n := ⟨_, rfl⟩
  obtain ⟨at_, hw1⟩ : ∃ n, WN B 4 4 = n := ⟨_, rfl⟩
  obtain ⟨ims, hw2⟩ : ∃ n, WN B 8 4 = n := ⟨_, rfl⟩
  obtain ⟨nms, hw3⟩ : ∃ n, WN B 12 4 = n := ⟨_, rfl⟩
  obtain ⟨N, hw4⟩ : ∃ n, WN B 16 4 = n := ⟨_, rfl⟩
  obtain ⟨n5, hw5⟩ : ∃ n, WN B 20 4 = n := ⟨_, rfl⟩
  obtain ⟨n6, hw6⟩ : ∃ n, WN B 24 4 = n := ⟨_, rfl⟩
  rw [hw0, hw6] at hz
  rw [hw5] at hf
  rw [hw4] at hN
  rw [hw1, hw3, hw4, hw5, hw2] at hR
  have hb1 : at_ < 4294967296 := by rw [← hw1]; exact WN_lt B 4 4
  have hb3 : nms < 4294967296 := by rw [← hw3]; exact WN_lt B 12 4
  have hf2 : (n5 : Int) = 1 ∨ (n5 : Int) = 2 ∨ (n5 : Int) = 3 := by omega
  obtain ⟨fv, hfv0, g, rfl, hcf, hrd⟩ := rdF_read hf2
  have hfv : (rdF (n5 : Int)).getD .nilFunc = .func (.func g) #[] #[] := by rw [hfv0]; rfl
  have d0 : ((n0 : Int) == 0) = true := by rw [hz.1]; rfl
  have d6 : ((n6 : Int) == 0) = true := by rw [hz.2]; rfl
  have dmany : decide ((N : Int) ≤ 4096) = true := by simp; omega
  have hgp := hg.pos
  have HSTS := hY (fun c p0 W hg hlo hcu rd hso => starts_any B hl2 c p0 at_ hb1 m ls hls hend hn1 W hg hlo hcu rd hso)
  have HSE := hY (fun b s n w h => seek_any b s n w h)
  have HST := hY (fun p q => seek_st hl2 p q)
  have HTX := hY (fun p q => text_st hl2 p q)
  have HRD : Hid (∀ (b : Nat) (s : CS) (w : World), CurB w b s → Calls Tryz.prog g #[.pointer (some ⟨b, 0, none⟩)] w fun e w' => e = .returned (rawL.val (rawS (n5 : Int) s)) ∧ CurB w' b (rawE (n5 : Int) s) ∧ Chg [b] w w') := hY (hrd)
  obtain ⟨d, hd⟩ : ∃ d, d = m.deps.n := ⟨_, rfl⟩
  rw [← hd] at hR
  have HORD := hY (fun n W => ordinal_any n m W)
  rw [← hd] at HORD
  have Hd := hY hd
  clear hd
  generalize hL : B.length = L at *
  have HL := hY hL
  have Rd := hY rd
  have HR := hY hR
  have HW0 := hY hw0
  have HW1 := hY hw1
  have HW2 := hY hw2
  have HW3 := hY hw3
  have HW4 := hY hw4
  have HW5 := hY hw5
  have HW6 := hY hw6
  have HFV := hY hfv
  have Hfv0 := hY hfv0
  have Hz := hY hz
  have Hf := hY hf
  have Hf2 := hY hf2
  have Hls := hY hls
  have Hend := hY hend
  have RDS := hY rdS
  have Hso := hY hso
  have Hrd := hY hrd
  have Hg := hY hg
  have Hb1 := hY hb1
  have Hb3 := hY hb3
  clear hL rd hR hw0 hw1 hw2 hw3 hw4 hw5 hw6 hfv hfv0 hz hf hf2 hls hend rdS hso hrd hg hb1 hb3
  go_enter_defers Tryz.func17, Tryz.ntmps17
  go_wp2_with ((with_reducible refine Lay.bxQ (L := imgL) 32 m ?_ ?_); exact rfl)
  refine hY fun W1 bm ebm cbm xbm => ?_
  go_wp2_with (with_reducible refine Lay.alQ Tryz.tChn ?_)
  refine hY fun W2 bc ebc cbc xbc => ?_
  go_upto_region 1 with fail
  obtain ⟨be, hbe⟩ : ∃ x, x = W2.heap.size := ⟨_, rfl⟩
  rw [← hbe]
  refine Lay.with_world (fun W => RS w W.heap.size bm bc be m .zero W) ⟨(xbm.out.frame cbc.out).alloc _, xbc.out.alloc _, by rw [hbe]; exact heap_alloc_eq _ _, (cbm.out.then cbc.out).alloc _, ?_⟩ (fun W hW => ?_)
  · have h1 := ebm.out
    have h2 := ebc.out
    have h3 := cbm.out.size
    have h4 := xbc.out.lt
    have h5 := (xbm.out.frame cbc.out).lt
    have h6 := xbm.out.lt
    have e9 : (W2.alloc (.cells #[.int .i64 0] 36)).heap.size = W2.heap.size + 1 := by simp
    rw [e9]
    omega
  have R0 := hY (hW)
  have HW00 : Hid (w.heap.size ≤ W.heap.size) := hY (hW.cg.size)
  clear hW hbe ebm cbm xbm ebc cbc xbc
  go_wp2_with fail
  refine (HNW.out _ R0.out.cg).mono ?_
  rintro e W3 ⟨c, rfl, hcb, hcu, hch⟩
  have R3 := hY (R0.out.pure hch)
  have C3 := hY (hcu)
  have hc0 : W.heap.size ≤ c := hcb
  clear hcu hch hcb
  have d28 : decide ((28 : Int) ≤ (L : Int)) = true := by simp; omega
  go_wp2_with fail
  refine (needC_ok 3 _).mono ?_
  rintro e W4 ⟨rfl, rfl⟩
  go_wp2_with fail
  refine (HNV.out _ c 0 (by omega) C3.out).mono ?_
  rintro e W5 ⟨rfl, hc, hg⟩
  rw [HW0.out]
  have C5 := hY (hc)
  have R5 := hY (R3.out.one hg hc0)
  clear hc hg
  go_wp2_with fail
  refine (HNV.out _ c 4 (by omega) C5.out).mono ?_
  rintro e W6 ⟨rfl, hc, hg⟩
  rw [HW1.out]
  have C6 := hY (hc)
  have R6 := hY (R5.out.one hg hc0)
  clear hc hg
  go_wp2_with fail
  refine (HNV.out _ c 8 (by omega) C6.out).mono ?_
  rintro e W7 ⟨rfl, hc, hg⟩
  rw [HW2.out]
  have C7 := hY (hc)
  have R7 := hY (R6.out.one hg hc0)
  clear hc hg
  go_wp2_with fail
  refine (HNV.out _ c 12 (by omega) C7.out).mono ?_
  rintro e W8 ⟨rfl, hc, hg⟩
  rw [HW3.out]
  have C8 := hY (hc)
  have R8 := hY (R7.out.one hg hc0)
  clear hc hg
  go_wp2_with fail
  refine (HNV.out _ c 16 (by omega) C8.out).mono ?_
  rintro e W9 ⟨rfl, hc, hg⟩
  rw [HW4.out]
  have C9 := hY (hc)
  have R9 := hY (R8.out.one hg hc0)
  clear hc hg
  go_wp2_with fail
  refine (HNV.out _ c 20 (by omega) C9.out).mono ?_
  rintro e WA ⟨rfl, hc, hg⟩
  rw [HW5.out]
  have CA := hY (hc)
  have RA := hY (R9.out.one hg hc0)
  clear hc hg
  go_wp2_with fail
  refine (HNV.out _ c 24 (by omega) CA.out).mono ?_
  rintro e WB ⟨rfl, hc, hg⟩
  rw [HW6.out]
  have CB := hY (hc)
  have RB := hY (RA.out.one hg hc0)
  clear hc hg
  go_wp2_with fail
  refine (readers_any _).mono ?_
  rintro e WC ⟨br, rfl, hm3, hg⟩
  have Hm3 := hY hm3
  clear hm3
  have CC := hY (CB.out.frame hg)
  have RC := hY (RB.out.pure hg)
  clear hg
  go_wp2_with ((with_reducible refine getV Tryz.tRdC Hm3.out (n5 : Int) (.func (.func g) #[] #[]) HFV.out ?_ ?_ ?_); exact rfl; exact rfl; refine Hid.out ?_)
  refine hY ?_
  go_wp2_with fail
  refine (needC_ok 15 _).mono ?_
  rintro e WD ⟨rfl, rfl⟩
  go_wp2_with fail
  refine (needC_ok 16 _).mono ?_
  rintro e WD ⟨rfl, rfl⟩
  go_wp2_with fail
  refine (needC_ok 11 _).mono ?_
  rintro e WD ⟨rfl, rfl⟩
  clear d0 d6 dmany R0 R3 C3 R5 R6 R7 R8 R9 RA RB C5 C6 C7 C8 C9 CA CB
  have hl0 := RC.out.lt
  have hsts := HSTS.out c 28 WD (Hg.out.frame RC.out.cg (by simp)) (by omega) CC.out (RDS.out.frame RC.out.cg) (fun k hk hm => by have := Hso.out k hk; simp at hm; omega)
  unfold SsP at hsts
  go_wp2_with ((with_reducible refine Lay.ldQ Tryz.tImg m (RC.out.im.in) ?_ ?_); exact rfl)
  refine hY ?_
  cases hsc : startsC B ls at_ with
  | bad n9 =>
    rw [hsc] at hsts
    have HB : Hid (R = .bad n9) := hY (by rw [HR.out, hsc]; rfl)
    have HNE : Hid (n9 ≠ 0) := hY (startsC_ne hsc)
    have Hsts := hY hsts
    have Hsc := hY hsc
    have Hl0 := hY hl0
    clear hsts hsc hl0
    go_wp2_with fail
    refine (Hsts.out).mono ?_
    rintro e WE ⟨hg, rfl⟩
    have RE := hY (RC.out.one hg hc0)
    clear hg
    unfold stopE
    have y0 : WE.cell? ⟨be, 0, none⟩ = some (.int .i64 0) := cell_of_heap RE.out.er 0
    have z0 : WE.frozen? ⟨be, 0, none⟩ = false := frozen_of_heap RE.out.er 0
    refine leaves_cons (f := 43) (args := #[.pointer (some ⟨be, 0, none⟩)]) (by simp) (by simp [go_sem]) ?_
    refine (caught_stop ⟨be, 0, none⟩ _ n9 _ y0 z0).mono ?_
    rintro e u' w'' ⟨rfl, rfl, rfl⟩
    obtain ⟨WZ, hWZ⟩ : ∃ x, x = (WE.alloc (.cells #[.int .i64 n9] 161)).setCell ⟨be, 0, none⟩ (.int .i64 n9) := ⟨_, rfl⟩
    rw [← hWZ]
    have hl3 := RE.out.lt
    have hbe : Chg [be] WE WZ := by rw [hWZ]; exact ((Chg.refl _ _).alloc _).setCell _ _ (.inl (by simp))
    have hct : Chg [] w WZ := RE.out.cg.trans hbe (fun i hi hw => by simp at hi; omega)
    have w0 : WZ.cell? ⟨be, 0, none⟩ = some (.int .i64 n9) := by
      rw [hWZ]
      exact World.cell?_setCell_same _ _ _ (by rw [World.cell?_alloc_lt _ _ _ (World.block_lt_of_cell? _ _ y0)]; exact y0)
    have hbx := RE.out.ch.frameS hbe (by simp; omega)
    clear hWZ hbe
    refine leaves_cons (f := 42) (args := #[.pointer (some ⟨be, 0, none⟩), .pointer (some ⟨bc, 0, none⟩)]) (by simp [settle]) (by simp [go_sem]) ?_
    refine (clos_bad ⟨be, 0, none⟩ bc _ n9 HNE.out _ _ w0 hbx).mono ?_
    rintro e u' w'' ⟨rfl, rfl, hb2, hg2⟩
    have w1 : w''.cell? ⟨be, 0, none⟩ = some (.int .i64 n9) := hg2.cell w0 (by simp; omega)
    have h2 : (loadVar 54 ⟨bc, 0, none⟩).run Tryz.prog w'' = .ok (chnL.val .zero) w'' := Lay.run_load_rec Tryz.tChn hb2.in
    simp only [settle]
    refine ⟨.tuple #[chnL.val .zero, .int .i64 n9], ?_, chP_bad HB.out (hct.trans hg2 (fun i hi hw => by simp at hi; omega))⟩
    exact results2 Tryz.results17 rfl rfl h2 (load_errC w1)
  | ok ss =>
  rw [hsc] at hsts
  have hr := HR.out
  clear HR
  rw [hsc] at hr
  have hr2 : R = (impC B d (n5 : Int) nms N ims []).then fun l => .ok (ss, l) := hr
  clear hr
  have Hsts := hY hsts
  have Hsc := hY hsc
  have Hl0 := hY hl0
  have HR := hY hr2
  clear hsts hsc hl0 hr2
  go_wp2_with fail
  refine (Hsts.out).mono ?_
  rintro e WE ⟨hg, sl, xs, p1, rfl, hbu, hsi, hc⟩
  have CE := hY (hc)
  have RE := hY (RC.out.one hg hc0)
  have BE := hY (hbu)
  have IE := hY (hsi)
  have HNEC : Hid (c ≠ bc) := hY (by have := RE.out.lt; omega)
  have HCD : Hid (c < WD.heap.size) := hY (CC.out.lt)
  have HCE : Hid (bc < WD.heap.size ∧ be < WD.heap.size) := by
    refine hY ?_
    have h1 := RC.out.ch.lt
    have h2 := lt_of_heap RC.out.er
    exact ⟨h1, h2⟩
  clear hc hg hbu hsi
  have y0 := Chn.c_starts RE.out.ch
  have z0 := RE.out.ch.frozen 0
  go_upto_region 12 with fail
  refine Lay.with_world (fun W' => CurB W' c (cs B p1) ∧ RS w W.heap.size bm bc be m ⟨sl, ⟨none, 0, 0⟩⟩ W' ∧ staL.Buf 51 W' WD.heap.size (.slice sl.a sl.n sl.cap) xs ∧ StsIn W' WD.heap.size xs ss) ?_ (fun WF hWF => ?_)
  · have kk : Chg [bc] WE (WE.setCell ⟨bc, 0, none⟩ (.slice sl.a sl.n sl.cap)) := (Chg.refl [bc] _).setCell _ _ (.inl (by simp))
    have h9 := HCE.out
    exact ⟨CE.out.frameC RE.out.ch HNEC.out kk, RE.out.sts sl, BE.out.frame kk (fun j hj hm => by have := (BE.out.lt j hj).1; simp at hm; omega), IE.out.low kk (fun j hj => by simp at hj; omega)⟩
  obtain ⟨hc, hr, hbu, hsi⟩ := hWF
  clear y0 z0 CE RE BE IE
  have CF := hY (hc)
  have RF := hY (hr)
  have BF := hY (hbu)
  have IF := hY (hsi)
  clear hc hr hbu hsi
  go_wp2_with fail
  refine (HSE.out c _ ims _ CF.out).mono ?_
  rintro e WG ⟨rfl, hc, hg⟩
  have RG := hY (RF.out.one hg hc0)
  have KG : Hid (Chg [c, bc] WF WG) := hY (hg.mono (by simp))
  have hst0 := HST.out p1 ims
  obtain ⟨s0, hs0⟩ : ∃ s0, s0 = seekC (cs B p1) ims := ⟨_, rfl⟩
  rw [← hs0] at hst0 hc
  have CG := hY (hc)
  have HST0 := hY hst0
  have Hs0 := hY hs0
  clear hst0 hs0
  clear hc hg
  go_wp2_with fail
  refine (HNW.out _ RG.out.cg).mono ?_
  rintro e WH ⟨t, rfl, htb, hcu, hch⟩
  have CH := hY (CG.out.frame hch)
  have TH := hY (hcu)
  have RH := hY (RG.out.pure hch)
  have KH := hY (KG.out.then hch)
  have ht0 : W.heap.size ≤ t := Nat.le_trans (by have := CG.out.lt; omega) htb
  have htf : WF.heap.size ≤ t := Nat.le_trans KG.out.size htb
  have hct : c < t := by have := CG.out.lt; omega
  have htz : t < WH.heap.size := hcu.lt
  have hcz : c < WH.heap.size := by omega
  have hbz : W.heap.size ≤ WH.heap.size := by omega
  have hwf : WF.heap.size ≤ WH.heap.size := Nat.le_trans htf (by omega)
  clear htb hcu hch
  go_wp2_with fail
  go_loopw [65] (fun s65 wr => ∃ (k p qt : Nat) (s : CS) (acc : List Imp) (sl2 : SlV), k ≤ N ∧ s65 = .int .u64 (k : Int) ∧ impC B d (n5 : Int) nms (N - k) p acc = impC B d (n5 : Int) nms N ims [] ∧ (p ≤ B.length → s = cs B p) ∧ (B.length < p → s.failed = true) ∧ CurB wr c s ∧ CurB wr t (cs B qt) ∧ RS w W.heap.size bm bc be m ⟨sl, sl2⟩ wr ∧ impL.Buf 59 wr WH.heap.size sl2.v acc ∧ acc.length = k ∧ WH.heap.size ≤ wr.heap.size ∧ Chg [c, bc] WF wr) (fun s65 _ => N - (intOf s65).toNat)
  case atStart => exact ⟨0, ims, 0, s0, [], ⟨none, 0, 0⟩, Nat.zero_le _, rfl, rfl, fun h => HST0.out.1 (by rw [← HL.out]; exact h), fun h => HST0.out.2 (by rw [← HL.out]; exact h), CH.out, TH.out, RH.out, Lay.Buf.nil _ _, rfl, Nat.le_refl _, KH.out⟩
  case round =>
    obtain ⟨k, p, qt, s, acc, sl2, hk, rfl, him, hs1, hs2, hcc, htt, hr, hu, hal, hsz, hkw⟩ := hrel
    by_cases hlt : k < N
    · have hwk : IntKind.u64.wrap ((k : Int) + 1) = (k : Int) + 1 := by rw [IntKind.wrap_u64]; omega
      obtain ⟨r, hr1⟩ : ∃ r, N - k = r + 1 := ⟨N - k - 1, by omega⟩
      rw [hr1, impC_succ] at him
      have hr2 : N - (k + 1) = r := by omega
      have h3 := HRD.out c s wr hcc
      by_cases h2 : p + isz (n5 : Int) ≤ B.length
      case neg =>
        have HB : Hid (R = .bad 3) := hY (by rw [HR.out, ← him, if_neg h2]; rfl)
        have hfa : (rawE (n5 : Int) s).failed = true := rawE_bad hs1 hs2 (by omega)
        generalize rawE (n5 : Int) s = s2 at *
        generalize rawS (n5 : Int) s = x at *
        have Hfa := hY hfa
        have H3 := hY h3
        have Him := hY him
        have Hs1 := hY hs1
        have Hs2 := hY hs2
        have Hcc := hY hcc
        have Htt := hY htt
        have Hr := hY hr
        have Hu := hY hu
        have Hal := hY hal
        have Hsz := hY hsz
        have Hkw := hY hkw
        have Hr1 := hY hr1
        have Hr2 := hY hr2
        have H2 := hY h2
        clear hfa h3 him hs1 hs2 hcc htt hr hu hal hsz hkw hr1 hr2 h2
        go_wp2_with fail
        refine H3.out.mono ?_
        rintro e V1 ⟨rfl, hc, hg⟩
        have C1 := hY (hc)
        have R1 := hY (Hr.out.one hg hc0)
        have hs1 : WH.heap.size ≤ V1.heap.size := Nat.le_trans Hsz.out hg.size
        clear hc hg
        go_wp2_with (with_reducible refine Lay.alQ Tryz.tRaw ?_)
        refine hY fun V2 bx ebx cbx xbx => ?_
        go_wp2_with ((with_reducible refine Lay.stQ Tryz.tRaw x (xbx.out) ?_ ?_ ?_); exact rfl; exact rfl)
        refine hY fun V3 cV3 xV3 => ?_
        have hbx : WH.heap.size ≤ bx := by rw [ebx.out]; exact hs1
        have D3 : Hid (Chg [bx] V1 V3) := hY (cbx.out.add.same cV3.out)
        have C3b := hY (C1.out.frameN D3.out CH.out (by simpa using hbx))
        have R3b := hY (R1.out.step D3.out (by simp; omega))
        clear cbx xbx cV3 xV3
        go_wp2_with fail
        refine (well_bad c _ _ (Hg.out.frame R3b.out.cg (by simp)) C3b.out Hfa.out).mono ?_
        rintro e V4 ⟨rfl, hg⟩
        have R4b := hY (R3b.out.pure hg)
        clear hg
        unfold stopE
        have y0 : V4.cell? ⟨be, 0, none⟩ = some (.int .i64 0) := cell_of_heap R4b.out.er 0
        have z0 : V4.frozen? ⟨be, 0, none⟩ = false := frozen_of_heap R4b.out.er 0
        refine leaves_cons (f := 43) (args := #[.pointer (some ⟨be, 0, none⟩)]) (by simp) (by simp [go_sem]) ?_
        refine (caught_stop ⟨be, 0, none⟩ _ 3 _ y0 z0).mono ?_
        rintro e u' w'' ⟨rfl, rfl, rfl⟩
        obtain ⟨WZ, hWZ⟩ : ∃ x, x = (V4.alloc (.cells #[.int .i64 3] 161)).setCell ⟨be, 0, none⟩ (.int .i64 3) := ⟨_, rfl⟩
        rw [← hWZ]
        have hl3 := R4b.out.lt
        have hbe : Chg [be] V4 WZ := by rw [hWZ]; exact ((Chg.refl _ _).alloc _).setCell _ _ (.inl (by simp))
        have hct : Chg [] w WZ := R4b.out.cg.trans hbe (fun i hi hw => by simp at hi; omega)
        have w0 : WZ.cell? ⟨be, 0, none⟩ = some (.int .i64 3) := by
          rw [hWZ]
          exact World.cell?_setCell_same _ _ _ (by rw [World.cell?_alloc_lt _ _ _ (World.block_lt_of_cell? _ _ y0)]; exact y0)
        have hbx := R4b.out.ch.frameS hbe (by simp; omega)
        clear hWZ hbe
        refine leaves_cons (f := 42) (args := #[.pointer (some ⟨be, 0, none⟩), .pointer (some ⟨bc, 0, none⟩)]) (by simp [settle]) (by simp [go_sem]) ?_
        refine (clos_bad ⟨be, 0, none⟩ bc _ 3 (by decide) _ _ w0 hbx).mono ?_
        rintro e u' w'' ⟨rfl, rfl, hb2, hg2⟩
        have w1 : w''.cell? ⟨be, 0, none⟩ = some (.int .i64 3) := hg2.cell w0 (by simp; omega)
        have h2 : (loadVar 54 ⟨bc, 0, none⟩).run Tryz.prog w'' = .ok (chnL.val .zero) w'' := Lay.run_load_rec Tryz.tChn hb2.in
        simp only [settle]
        refine ⟨.tuple #[chnL.val .zero, .int .i64 3], ?_, chP_bad HB.out (hct.trans hg2 (fun i hi hw => by simp at hi; omega))⟩
        exact results2 Tryz.results17 rfl rfl h2 (load_errC w1)
      case pos =>
      obtain ⟨nm, hnm, hnb, hsy⟩ := rawS_nm h2
      rw [hs1 (by omega), rawE_cs _ _ _ h2] at h3
      rw [if_pos h2] at him
      obtain ⟨x, hx⟩ : ∃ x, x = rawS (n5 : Int) (cs B p) := ⟨_, rfl⟩
      rw [← hx] at h3 him hnm hsy
      obtain ⟨xo, xw, xs, xa, xn⟩ := x
      dsimp only at hnm hsy him
      subst hnm hsy
      rw [Int.toNat_natCast] at him
      obtain ⟨P2, hP2⟩ : ∃ P2, P2 = p + isz (n5 : Int) := ⟨_, rfl⟩
      rw [← hP2] at h3 him
      have hp2 : P2 ≤ B.length := by omega
      obtain ⟨ad, nd, cd⟩ := sl2
      obtain ⟨_, _, he, _, _⟩ := hu.rd.shape
      cases he
      replace hu : impL.Buf 59 wr WH.heap.size (.slice ad acc.length cd) acc := hu
      have w1 : IntKind.u64.wrap ((nms : Int) + (nm : Int)) = ((nms + nm : Nat) : Int) := by have := Hb3.out; rw [IntKind.wrap_u64]; omega
      have hord := HORD.out xo
      have htx := HTX.out qt (nms + nm)
      obtain ⟨q3, hq3⟩ : ∃ q3, q3 = nms + nm := ⟨_, rfl⟩
      rw [← hq3] at him htx w1
      obtain ⟨s3, hs3⟩ : ∃ s3, s3 = seekC (cs B qt) q3 := ⟨_, rfl⟩
      rw [← hs3] at htx
      have H3 := hY h3
      have Hs1 := hY hs1
      have Hs2 := hY hs2
      have Hcc := hY hcc
      have Htt := hY htt
      have Hr := hY hr
      have Hu := hY hu
      have Hal := hY hal
      have Hsz := hY hsz
      have Hkw := hY hkw
      have Hr1 := hY hr1
      have Hr2 := hY hr2
      have H2 := hY h2
      have Hx := hY hx
      have HP2 := hY hP2
      have Hp2 := hY hp2
      have Hnb := hY hnb
      have Hq3 := hY hq3
      have Hs3 := hY hs3
      have Htx := hY htx
      clear h3 hs1 hs2 hcc htt hr hu hal hsz hkw hr1 hr2 h2 hx hP2 hp2 hnb hq3 hs3 htx
      cases hor : ordB xo d with
      | false =>
        rw [hor] at hord
        have HB : Hid (R = .bad 22) := hY (by rw [HR.out, ← him, hor, if_neg (by decide)]; rfl)
        have Hord := hY hord
        have Hor := hY hor
        have Him := hY him
        clear hord hor him
        go_wp2_with fail
        refine H3.out.mono ?_
        rintro e V1 ⟨rfl, hc, hg⟩
        have C1 := hY (hc)
        have R1 := hY (Hr.out.one hg hc0)
        have hs1 : WH.heap.size ≤ V1.heap.size := Nat.le_trans Hsz.out hg.size
        clear hc hg
        go_wp2_with (with_reducible refine Lay.alQ Tryz.tRaw ?_)
        refine hY fun V2 bx ebx cbx xbx => ?_
        go_wp2_with ((with_reducible refine Lay.stQ Tryz.tRaw (⟨xo, xw, ⟨#[]⟩, xa, (nm : Int)⟩ : Raw) (xbx.out) ?_ ?_ ?_); exact rfl; exact rfl)
        refine hY fun V3 cV3 xV3 => ?_
        have hbx : WH.heap.size ≤ bx := by rw [ebx.out]; exact hs1
        have D3 : Hid (Chg [bx] V1 V3) := hY (cbx.out.add.same cV3.out)
        have C3b := hY (C1.out.frameN D3.out CH.out (by simpa using hbx))
        have R3b := hY (R1.out.step D3.out (by simp; omega))
        have X3 := hY (xV3.out)
        clear cbx xbx cV3 xV3
        go_wp2_with fail
        refine (well_ok c _ _ C3b.out rfl).mono ?_
        rintro e V4 ⟨rfl, hg⟩
        have R4b := hY (R3b.out.pure hg)
        have X4 := hY (X3.out.frame hg)
        clear hg
        have x0 := Raw.c_ord X4.out
        go_wp2_with ((with_reducible refine Lay.ldQ Tryz.tImg m (R4b.out.im.in) ?_ ?_); exact rfl)
        refine hY ?_
        go_wp2_with fail
        refine (Hord.out _).mono ?_
        rintro e V5 ⟨rfl, hg⟩
        have R5b := hY (R4b.out.pure hg)
        clear hg
        go_wp2_with fail
        refine (needC_bad 22 _).mono ?_
        rintro e V6 ⟨rfl, rfl⟩
        unfold stopE
        have y0 : V6.cell? ⟨be, 0, none⟩ = some (.int .i64 0) := cell_of_heap R5b.out.er 0
        have z0 : V6.frozen? ⟨be, 0, none⟩ = false := frozen_of_heap R5b.out.er 0
        refine leaves_cons (f := 43) (args := #[.pointer (some ⟨be, 0, none⟩)]) (by simp) (by simp [go_sem]) ?_
        refine (caught_stop ⟨be, 0, none⟩ _ 22 _ y0 z0).mono ?_
        rintro e u' w'' ⟨rfl, rfl, rfl⟩
        obtain ⟨WZ, hWZ⟩ : ∃ x, x = (V6.alloc (.cells #[.int .i64 22] 161)).setCell ⟨be, 0, none⟩ (.int .i64 22) := ⟨_, rfl⟩
        rw [← hWZ]
        have hl3 := R5b.out.lt
        have hbe : Chg [be] V6 WZ := by rw [hWZ]; exact ((Chg.refl _ _).alloc _).setCell _ _ (.inl (by simp))
        have hct : Chg [] w WZ := R5b.out.cg.trans hbe (fun i hi hw => by simp at hi; omega)
        have w0 : WZ.cell? ⟨be, 0, none⟩ = some (.int .i64 22) := by
          rw [hWZ]
          exact World.cell?_setCell_same _ _ _ (by rw [World.cell?_alloc_lt _ _ _ (World.block_lt_of_cell? _ _ y0)]; exact y0)
        have hbx := R5b.out.ch.frameS hbe (by simp; omega)
        clear hWZ hbe
        refine leaves_cons (f := 42) (args := #[.pointer (some ⟨be, 0, none⟩), .pointer (some ⟨bc, 0, none⟩)]) (by simp [settle]) (by simp [go_sem]) ?_
        refine (clos_bad ⟨be, 0, none⟩ bc _ 22 (by decide) _ _ w0 hbx).mono ?_
        rintro e u' w'' ⟨rfl, rfl, hb2, hg2⟩
        have w1 : w''.cell? ⟨be, 0, none⟩ = some (.int .i64 22) := hg2.cell w0 (by simp; omega)
        have h2 : (loadVar 54 ⟨bc, 0, none⟩).run Tryz.prog w'' = .ok (chnL.val .zero) w'' := Lay.run_load_rec Tryz.tChn hb2.in
        simp only [settle]
        refine ⟨.tuple #[chnL.val .zero, .int .i64 22], ?_, chP_bad HB.out (hct.trans hg2 (fun i hi hw => by simp at hi; omega))⟩
        exact results2 Tryz.results17 rfl rfl h2 (load_errC w1)
      | true =>
      rw [hor] at hord
      rw [hor, if_pos rfl] at him
      have Hord := hY hord
      have Hor := hY hor
      clear hord hor
      go_wp2_with fail
      refine H3.out.mono ?_
      rintro e V1 ⟨rfl, hc, hg⟩
      have C1 := hY (hc)
      have T1 := hY (Htt.out.frame2 Hcc.out (by omega) hg)
      have R1 := hY (Hr.out.one hg hc0)
      have U1 := hY (Hu.out.frame hg (fun b hb hm => by have := (Hu.out.lt b hb).1; simp at hm; omega))
      have K1 := hY (Hkw.out.trans hg (fun i hi hw => by simp at hi; simp; omega))
      have hs1 : WH.heap.size ≤ V1.heap.size := Nat.le_trans Hsz.out hg.size
      clear hc hg Hcc Htt Hr Hu Hkw Hsz
      go_wp2_with (with_reducible refine Lay.alQ Tryz.tRaw ?_)
      refine hY fun V2 bx ebx cbx xbx => ?_
      go_wp2_with ((with_reducible refine Lay.stQ Tryz.tRaw (⟨xo, xw, ⟨#[]⟩, xa, (nm : Int)⟩ : Raw) (xbx.out) ?_ ?_ ?_); exact rfl; exact rfl)
      refine hY fun V3 cV3 xV3 => ?_
      have hbx : WH.heap.size ≤ bx := by rw [ebx.out]; exact hs1
      have D3 : Hid (Chg [bx] V1 V3) := hY (cbx.out.add.same cV3.out)
      have C3b := hY (C1.out.frameN D3.out CH.out (by simpa using hbx))
      have T3b := hY (T1.out.frameN D3.out TH.out (by simpa using hbx))
      have R3b := hY (R1.out.step D3.out (by simp; omega))
      have N3 : Hid (∀ b, (Value.slice ad acc.length cd).ownBlock = some b → b ≠ bx) := by
        refine hY ?_
        intro b hb
        have := (U1.out.lt b hb).2
        rw [ebx.out]
        omega
      have U3 := hY (U1.out.frame D3.out (fun b hb hm => N3.out b hb (by simpa using hm)))
      have K3 := hY (K1.out.trans D3.out (fun i hi hw => by simp at hi; omega))
      have hs3 : WH.heap.size ≤ V3.heap.size := Nat.le_trans hs1 D3.out.size
      have X3 := hY (xV3.out)
      clear cbx xbx cV3 xV3 C1 T1 R1 U1 K1 D3
      go_wp2_with fail
      refine (well_ok c _ _ C3b.out rfl).mono ?_
      rintro e V4 ⟨rfl, hg⟩
      have G4 := hY (hg)
      clear hg
      have X4 := hY (X3.out.frame G4.out)
      have x0 := Raw.c_ord X4.out
      have I4 := hY ((R3b.out.pure G4.out))
      go_wp2_with ((with_reducible refine Lay.ldQ Tryz.tImg m (I4.out.im.in) ?_ ?_); exact rfl)
      refine hY ?_
      go_wp2_with fail
      refine (Hord.out _).mono ?_
      rintro e V5 ⟨rfl, hg⟩
      have G5 := hY (G4.out.then hg)
      clear hg x0 X4 I4
      go_wp2_with fail
      refine (needC_ok 22 _).mono ?_
      rintro e V5b ⟨rfl, rfl⟩
      have X5 := hY (X3.out.frame G5.out)
      have x4 := Raw.c_name X5.out
      have T5 := hY (T3b.out.frame G5.out)
      go_wp2_with fail
      refine (HSE.out t _ q3 _ T5.out).mono ?_
      rintro e V6 ⟨rfl, hc, hg⟩
      rw [← Hs3.out] at hc
      have T6 := hY (hc)
      have G6 : Hid (Chg [t] V3 V6) := hY (G5.out.add.same hg)
      clear hc hg x4
      go_wp2_with fail
      refine (Text_cur t _ 255 _ T6.out).mono ?_
      rintro e V7 ⟨rfl, hc, hg⟩
      have T7 := hY (hc)
      have G7 := hY (G6.out.same hg)
      clear hc hg T6 G6 T5 X5 G5 G4
      have htx0 : t < bx := by omega
      have X7 := hY (X3.out.frameS G7.out (by simp; omega))
      have C7b := hY (C3b.out.frame2 T3b.out (by omega) G7.out)
      have R7b := hY (R3b.out.one G7.out ht0)
      have U7 := hY (U3.out.frame G7.out (fun b hb hm => by have := (U3.out.lt b hb).1; simp at hm; omega))
      have K7 := hY (K3.out.trans G7.out (fun i hi hw => by simp at hi; omega))
      have hs7 : WH.heap.size ≤ V7.heap.size := Nat.le_trans hs3 G7.out.size
      clear X3 C3b T3b R3b U3 G7 K3
      have y2 := Raw.c_sym X7.out
      have z2 := X7.out.frozen 2
      obtain ⟨sy, hsy⟩ : ∃ sy : ByteArray, sy = ⟨(textL s3 255).toArray⟩ := ⟨_, rfl⟩
      go_upto_region 21 with fail
      refine Lay.with_world (fun W' => rawL.Box W' bx ⟨xo, xw, sy, xa, (nm : Int)⟩ ∧ Chg [bx] V7 W') ⟨by rw [hsy]; exact Raw.set_sym X7.out _, (Chg.refl [bx] _).setCell _ _ (.inl (by simp))⟩ (fun V8 hV => ?_)
      obtain ⟨hx, hg⟩ := hV
      clear y2 z2
      have X8 := hY (hx)
      have C8b := hY (C7b.out.frameN hg CH.out (by simpa using hbx))
      have T8 := hY (T7.out.frameN hg TH.out (by simpa using hbx))
      have R8b := hY (R7b.out.step hg (by simp; omega))
      have U8 := hY (U7.out.frame hg (fun b hb hm => N3.out b hb (by simpa using hm)))
      have K8 := hY (K7.out.trans hg (fun i hi hw => by simp at hi; omega))
      have hs8 : WH.heap.size ≤ V8.heap.size := Nat.le_trans hs7 hg.size
      clear hx hg X7 C7b T7 R7b U7 K7
      rcases Htx.out with ⟨tx, hn, htl, htn, q4, hts⟩ | ⟨hn, hfl⟩ | ⟨hn, hfl, htl⟩
      · rw [hn] at him
        dsimp only at him
        rw [htl] at hsy
        rw [← hsy] at him
        have T8q : Hid (CurB V8 t (cs B q4)) := hY (by rw [← hts]; exact T8.out)
        have e5n : ¬ sy.toList = [] := by
          rw [hsy, Lib.toList_data]
          intro e
          exact htn (by rw [show tx = [] from e]; rfl)
        have e5e : sy.toList.isEmpty = false := by cases e : sy.toList with | nil => exact absurd e e5n | cons a b => rfl
        have Him := hY him
        have Hn := hY hn
        have Htl := hY htl
        have Htn := hY htn
        have Hts := hY hts
        have Hsy := hY hsy
        clear him hn htl htn hts hsy
        go_wp2_with fail
        refine (Err_ok t _ _ T8q.out rfl).mono ?_
        rintro e V9 ⟨rfl, hg⟩
        have X9 := hY (X8.out.frame hg)
        have C9b := hY (C8b.out.frame hg)
        have T9 := hY (T8q.out.frame hg)
        have R9b := hY (R8b.out.pure hg)
        have U9 := hY (U8.out.pure hg)
        have K9 := hY (K8.out.then hg)
        have hs9 : WH.heap.size ≤ V9.heap.size := Nat.le_trans hs8 hg.size
        clear hg X8 C8b T8 T8q R8b U8 K8
        have y2 := Raw.c_sym X9.out
        go_wp2_with fail
        refine (needC_ok 10 _).mono ?_
        rintro e V9b ⟨rfl, rfl⟩
        clear y2
        have y1 := Chn.c_imps R9b.out.ch
        obtain ⟨xi, hxi⟩ : ∃ xi : Imp, xi = ⟨xo, xw, sy, xa⟩ := ⟨_, rfl⟩
        have I9 : Hid (impL.In V9b bx 0 xi) := by
          refine hY ?_
          rw [hxi]
          intro c hc
          have := X9.out.in c (Nat.lt_of_lt_of_le hc (by decide))
          rw [this]
          have hc4 : c = 0 ∨ c = 1 ∨ c = 2 ∨ c = 3 := by have : c < 4 := hc; omega
          rcases hc4 with rfl | rfl | rfl | rfl <;> rfl
        have Hxi := hY hxi
        clear hxi
        go_wp2_with ((with_reducible refine Lay.ldQ Tryz.tImp xi (I9.out) ?_ ?_); exact rfl)
        refine hY ?_
        go_wp2_with ((with_reducible refine bs1 (xi) ((imp_built xi)) ?_ ?_ ?_); exact rfl; exact rfl; intro VA va cva rva; replace cva := hY cva; replace rva := hY rva; refine Hid.out ?_)
        refine hY ?_
        have UA := hY (U9.out.pure cva.out)
        go_wp2_with (at_builtin; go_must (refine Lay.app (L := impL) Tryz.infoImp rfl _ _ rfl WH.heap.size (.slice ad acc.length cd) acc rfl UA.out _ rfl [xi] rva.out (by have := Hal.out; simp; omega) (by have := Hal.out; simp; omega) (Nat.le_trans hs9 cva.out.size) ?_); intro vb VB hov hgv hlc; refine Hid.out ?_)
        refine hY ?_
        have DB : Hid (Chg (Value.slice ad acc.length cd).ownBlock.toList V9b VB) := hY (cva.out.add.same (Lay.chg_grown hgv))
        have SB : Hid (∀ i ∈ (Value.slice ad acc.length cd).ownBlock.toList, WH.heap.size ≤ i) := hY (fun i hi => (UA.out.lt i (by simpa using hi)).1)
        obtain ⟨ab, cb, rfl, hb1, hb2⟩ := hov.rd.shape
        have hlen1 : (acc ++ [xi]).length = k + 1 := by rw [List.length_append, Hal.out]; rfl
        rw [hlen1] at hov ⊢
        have UB := hY (hov)
        have CB9 := hY (C9b.out.frameN DB.out CH.out SB.out)
        have TB9 := hY (T9.out.frameN DB.out TH.out SB.out)
        have RB9 := hY (R9b.out.step DB.out (fun i hi => Nat.le_trans hbz (SB.out i hi)))
        have KB9 := hY (K9.out.trans DB.out (fun i hi hw => by have := SB.out i hi; omega))
        have hsB : WH.heap.size ≤ VB.heap.size := Nat.le_trans hs9 DB.out.size
        clear hov hgv hlc y1 C9b T9 R9b U9 UA X9 I9 K9 cva rva hb1 hb2
        have Hlen1 := hY hlen1
        clear hlen1
        have z1 := RB9.out.ch.frozen 1
        have y1 := Chn.c_imps RB9.out.ch
        go_wp2
        go_roundw
        case rel =>
          have hl3 := RB9.out.lt
          have hgc : Chg [bc] VB (VB.setCell ⟨bc, 1, none⟩ (.slice ab (k + 1) cb)) := (Chg.refl _ _).setCell _ _ (.inl (by simp))
          refine ⟨k + 1, P2, q4, cs B P2, acc ++ [xi], ⟨ab, k + 1, cb⟩, hlt, by first | rfl | exact congrArg (Value.int .u64) hwk | go_num, by rw [Hr2.out, Hxi.out]; exact Him.out, fun _ => rfl, fun h => absurd Hp2.out (by omega), CB9.out.frameC RB9.out.ch (by omega) hgc, TB9.out.frameC RB9.out.ch (by omega) hgc, RB9.out.imps ⟨ab, k + 1, cb⟩, UB.out.frame hgc (fun b hb hm => by have := (UB.out.lt b hb).1; simp at hm; omega), Hlen1.out, Nat.le_trans hsB hgc.size, KB9.out.trans hgc (fun i hi hw => by simp at hi; simp; omega)⟩
        case measure => first | exact measC_u hwk hlt | (simp [intOf]; omega)
      · rw [hn] at him
        have HB : Hid (R = .bad 10) := hY (by rw [HR.out, ← him]; rfl)
        have Him := hY him
        have Hn := hY hn
        have Hfl := hY hfl
        have Hsy := hY hsy
        clear him hn hfl hsy
        go_wp2_with fail
        refine (Err_bad t _ _ (Hg.out.frame R8b.out.cg (by simp)) T8.out Hfl.out).mono ?_
        rintro e V9 ⟨rfl, hg⟩
        have R9b := hY (R8b.out.pure hg)
        clear hg
        go_wp2_with fail
        refine (needC_bad 10 _).mono ?_
        rintro e V9b ⟨rfl, rfl⟩
        unfold stopE
        have y0 : V9b.cell? ⟨be, 0, none⟩ = some (.int .i64 0) := cell_of_heap R9b.out.er 0
        have z0 : V9b.frozen? ⟨be, 0, none⟩ = false := frozen_of_heap R9b.out.er 0
        refine leaves_cons (f := 43) (args := #[.pointer (some ⟨be, 0, none⟩)]) (by simp) (by simp [go_sem]) ?_
        refine (caught_stop ⟨be, 0, none⟩ _ 10 _ y0 z0).mono ?_
        rintro e u' w'' ⟨rfl, rfl, rfl⟩
        obtain ⟨WZ, hWZ⟩ : ∃ x, x = (V9b.alloc (.cells #[.int .i64 10] 161)).setCell ⟨be, 0, none⟩ (.int .i64 10) := ⟨_, rfl⟩
        rw [← hWZ]
        have hl3 := R9b.out.lt
        have hbe : Chg [be] V9b WZ := by rw [hWZ]; exact ((Chg.refl _ _).alloc _).setCell _ _ (.inl (by simp))
        have hct : Chg [] w WZ := R9b.out.cg.trans hbe (fun i hi hw => by simp at hi; omega)
        have w0 : WZ.cell? ⟨be, 0, none⟩ = some (.int .i64 10) := by
          rw [hWZ]
          exact World.cell?_setCell_same _ _ _ (by rw [World.cell?_alloc_lt _ _ _ (World.block_lt_of_cell? _ _ y0)]; exact y0)
        have hbx := R9b.out.ch.frameS hbe (by simp; omega)
        clear hWZ hbe
        refine leaves_cons (f := 42) (args := #[.pointer (some ⟨be, 0, none⟩), .pointer (some ⟨bc, 0, none⟩)]) (by simp [settle]) (by simp [go_sem]) ?_
        refine (clos_bad ⟨be, 0, none⟩ bc _ 10 (by decide) _ _ w0 hbx).mono ?_
        rintro e u' w'' ⟨rfl, rfl, hb2, hg2⟩
        have w1 : w''.cell? ⟨be, 0, none⟩ = some (.int .i64 10) := hg2.cell w0 (by simp; omega)
        have h2 : (loadVar 54 ⟨bc, 0, none⟩).run Tryz.prog w'' = .ok (chnL.val .zero) w'' := Lay.run_load_rec Tryz.tChn hb2.in
        simp only [settle]
        refine ⟨.tuple #[chnL.val .zero, .int .i64 10], ?_, chP_bad HB.out (hct.trans hg2 (fun i hi hw => by simp at hi; omega))⟩
        exact results2 Tryz.results17 rfl rfl h2 (load_errC w1)
      · rw [hn] at him
        have HB : Hid (R = .bad 10) := hY (by rw [HR.out, ← him]; rfl)
        rw [htl] at hsy
        have e5n : sy.toList = [] := by rw [hsy, Lib.toList_data]
        have e5e : sy.toList.isEmpty = true := by rw [e5n]; rfl
        have Him := hY him
        have Hn := hY hn
        have Hfl := hY hfl
        have Htl := hY htl
        have Hsy := hY hsy
        clear him hn hfl htl hsy
        go_wp2_with fail
        refine (Err_ok t _ _ T8.out Hfl.out).mono ?_
        rintro e V9 ⟨rfl, hg⟩
        have X9 := hY (X8.out.frame hg)
        have R9b := hY (R8b.out.pure hg)
        clear hg
        have y2 := Raw.c_sym X9.out
        go_wp2_with fail
        refine (needC_bad 10 _).mono ?_
        rintro e V9b ⟨rfl, rfl⟩
        unfold stopE
        have y0 : V9b.cell? ⟨be, 0, none⟩ = some (.int .i64 0) := cell_of_heap R9b.out.er 0
        have z0 : V9b.frozen? ⟨be, 0, none⟩ = false := frozen_of_heap R9b.out.er 0
        refine leaves_cons (f := 43) (args := #[.pointer (some ⟨be, 0, none⟩)]) (by simp) (by simp [go_sem]) ?_
        refine (caught_stop ⟨be, 0, none⟩ _ 10 _ y0 z0).mono ?_
        rintro e u' w'' ⟨rfl, rfl, rfl⟩
        obtain ⟨WZ, hWZ⟩ : ∃ x, x = (V9b.alloc (.cells #[.int .i64 10] 161)).setCell ⟨be, 0, none⟩ (.int .i64 10) := ⟨_, rfl⟩
        rw [← hWZ]
        have hl3 := R9b.out.lt
        have hbe : Chg [be] V9b WZ := by rw [hWZ]; exact ((Chg.refl _ _).alloc _).setCell _ _ (.inl (by simp))
        have hct : Chg [] w WZ := R9b.out.cg.trans hbe (fun i hi hw => by simp at hi; omega)
        have w0 : WZ.cell? ⟨be, 0, none⟩ = some (.int .i64 10) := by
          rw [hWZ]
          exact World.cell?_setCell_same _ _ _ (by rw [World.cell?_alloc_lt _ _ _ (World.block_lt_of_cell? _ _ y0)]; exact y0)
        have hbx := R9b.out.ch.frameS hbe (by simp; omega)
        clear hWZ hbe
        refine leaves_cons (f := 42) (args := #[.pointer (some ⟨be, 0, none⟩), .pointer (some ⟨bc, 0, none⟩)]) (by simp [settle]) (by simp [go_sem]) ?_
        refine (clos_bad ⟨be, 0, none⟩ bc _ 10 (by decide) _ _ w0 hbx).mono ?_
        rintro e u' w'' ⟨rfl, rfl, hb2, hg2⟩
        have w1 : w''.cell? ⟨be, 0, none⟩ = some (.int .i64 10) := hg2.cell w0 (by simp; omega)
        have h2 : (loadVar 54 ⟨bc, 0, none⟩).run Tryz.prog w'' = .ok (chnL.val .zero) w'' := Lay.run_load_rec Tryz.tChn hb2.in
        simp only [settle]
        refine ⟨.tuple #[chnL.val .zero, .int .i64 10], ?_, chP_bad HB.out (hct.trans hg2 (fun i hi hw => by simp at hi; omega))⟩
        exact results2 Tryz.results17 rfl rfl h2 (load_errC w1)
    · obtain rfl : k = N := by omega
      rw [Nat.sub_self] at him
      have hri : R = .ok (ss, acc) := by rw [HR.out, ← him]; rfl
      have Him := hY him
      have Hcc := hY hcc
      have Htt := hY htt
      have Hr := hY hr
      have Hu := hY hu
      have Hsz := hY hsz
      have Hkw := hY hkw
      have Hri := hY hri
      have Hs1 := hY hs1
      have Hs2 := hY hs2
      have Hal := hY hal
      clear him hcc htt hr hu hsz hkw hri hs1 hs2 hal
      go_wp2_with ((with_reducible refine Lay.ldQ Tryz.tChn (⟨sl, sl2⟩ : Chn) (Hr.out.ch.in) ?_ ?_); exact rfl)
      refine hY ?_
      go_wp2_with ((with_reducible refine Lay.stQ Tryz.tChn (⟨sl, sl2⟩ : Chn) (Hr.out.ch) ?_ ?_ ?_); exact rfl; exact rfl)
      refine hY fun V1 cV1 xV1 => ?_
      have hlt3 := Hr.out.lt
      have hnb : be ∉ [bc] := by simp; omega
      have E1 : Hid (errC be 0 V1) := hY (cV1.out.heap Hr.out.er hnb)
      have y0 : V1.cell? ⟨be, 0, none⟩ = some (.int .i64 0) := cell_of_heap E1.out 0
      have z0 : V1.frozen? ⟨be, 0, none⟩ = false := frozen_of_heap E1.out 0
      go_wp2
      obtain ⟨WZ, hWZ⟩ : ∃ x, x = V1.setCell ⟨be, 0, none⟩ (.int .i64 0) := ⟨_, rfl⟩
      rw [← hWZ]
      have hbe : Chg [be] V1 WZ := by rw [hWZ]; exact (Chg.refl _ _).setCell _ _ (.inl (by simp))
      have hct : Chg [] w WZ := (Hr.out.cg.trans cV1.out (fun i hi hw => by simp at hi; omega)).trans hbe (fun i hi hw => by simp at hi; omega)
      have hrd' : impL.Rd WZ sl2.v acc := ((Hu.out.frame cV1.out (fun b hb hm => by have := (Hu.out.lt b hb).1; simp at hm; omega)).frame hbe (fun b hb hm => by have := (Hu.out.lt b hb).1; simp at hm; omega)).rd
      have h9 := HCE.out
      have hcd := HCD.out
      have hkz : Chg [c, bc, be] WF WZ := ((Hkw.out.mono (fun i hi hw => by simp at hi; simp; omega)).trans cV1.out (fun i hi hw => by simp at hi; simp; omega)).trans hbe (fun i hi hw => by simp at hi; simp; omega)
      have hst' := BF.out.frame hkz (fun j hj hm => by have := (BF.out.lt j hj).1; simp at hm; omega)
      have hin' := IF.out.low hkz (fun j hj => by simp at hj; omega)
      have w0 : WZ.cell? ⟨be, 0, none⟩ = some (.int .i64 0) := by rw [hWZ]; exact World.cell?_setCell_same _ _ _ y0
      have hbx : chnL.Box WZ bc ⟨sl, sl2⟩ := xV1.out.frameS hbe (by simp; omega)
      clear hWZ hbe
      refine leaves_cons (f := 43) (args := #[.pointer (some ⟨be, 0, none⟩)]) (by simp) (by simp [go_sem]) ?_
      refine (caught_idle ⟨be, 0, none⟩ _).mono ?_
      rintro e u' w'' ⟨rfl, rfl, rfl⟩
      refine leaves_cons (f := 42) (args := #[.pointer (some ⟨be, 0, none⟩), .pointer (some ⟨bc, 0, none⟩)]) (by simp [settle]) (by simp [go_sem]) ?_
      refine (clos_ok ⟨be, 0, none⟩ _ _ _ w0).mono ?_
      rintro e u' w'' ⟨rfl, rfl, rfl⟩
      have h2 : (loadVar 54 ⟨bc, 0, none⟩).run Tryz.prog w'' = .ok (chnL.val ⟨sl, sl2⟩) w'' := Lay.run_load_rec Tryz.tChn hbx.in
      simp only [settle, Leaves]
      refine ⟨.tuple #[chnL.val ⟨sl, sl2⟩, .int .i64 0], ?_, ?_⟩
      · exact results2 Tryz.results17 rfl rfl h2 (load_errC w0)
      · rw [Hri.out]
        have hw00 := HW00.out
        exact ⟨hct, _, rfl, xs, ⟨hst'.rd, hin'.rd, hrd'⟩, fun j hj => Nat.le_trans (by omega) (BF.out.lt j hj).1, fun i hi j hj => Nat.le_trans (by omega) ((IF.out.2 i hi).bg.lt j hj).1, fun j hj => Nat.le_trans (by omega) (Hu.out.lt j hj).1⟩
theorem cread_gen (B : List UInt8) (hl2 : B.length ≤ 2147483647) (m : Img) (ls : List Seg) (hls : SegsB ls) (hend : ∀ k, k < ls.length → (ls.getD k .zero).size ≤ 140737488355328) (hn1 : ls.length ≤ 1048576) (v : Value) (w : World) (hg : Env w) (rd : byteL.Rd w v B) (rdS : segL.Rd w m.segs.v ls) (hso : ∀ k, m.segs.v.ownBlock = some k → k < w.heap.size) :
  Calls Tryz.prog 17 #[v, imgL.val m] w (ChP w (readC B ls m.deps.n)) := by
 by_cases h1 : 28 ≤ B.length
 ·by_cases h2 : WN B 0 4 = 0 ∧ WN B 24 4 = 0
  ·by_cases h3 : WN B 20 4 = 1 ∨ WN B 20 4 = 2 ∨ WN B 20 4 = 3
   ·by_cases h4 : WN B 16 4 ≤ 4096
    ·exact cread_main B h1 hl2 h2 h3 h4 m ls _ (by unfold readC; rw [if_pos h1, if_pos h2, if_pos h3, if_pos h4]) hls hend hn1 v w hg rd rdS hso
    ·exact cread_11 B h1 hl2 h2 h3 h4 _ (by unfold readC; rw [if_pos h1, if_pos h2, if_pos h3, if_neg h4]) m v w rd
   ·exact cread_16 B h1 hl2 h2 h3 _ (by unfold readC; rw [if_pos h1, if_pos h2, if_neg h3]) m v w rd
  ·exact cread_15 B h1 hl2 h2 _ (by unfold readC; rw [if_pos h1, if_neg h2]) m v w rd
 ·exact cread_short B (by omega) _ (by unfold readC; rw [if_neg h1]) m v w rd
end Go.Proofs.YtiljokmkiolpgaaGreatDoor
