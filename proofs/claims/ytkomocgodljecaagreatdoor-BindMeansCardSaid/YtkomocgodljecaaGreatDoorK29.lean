/- Lemmas, laid together: part 29 of 41. Conditions: none but each lemma's own. -/
import Derived.Test.YtkomocgodljecaaGreatDoorK28
import Derived.Deep.DeepCutAuto
import Derived.Deep.CutRange
/- bind.Decode, of any stream. -/
namespace Go.Proofs.YtkomocgodljecaaGreatDoor
open Go.RowKit
set_option maxRecDepth 100000

def bd00 : BdS := ⟨0, { Fx.zero with kind := 2 }, false, 1, [], false⟩
set_option linter.unusedSimpArgs false in
set_option maxHeartbeats 8000000 in
theorem Decode_D (m : Img) (kd : Int) (stv : Value) (B : List UInt8) (hB : B.length ≤ 1099511627776) (w : World) (hw0 : Env w) (hst : Rd w stv (bytesV B)) (ls : List Seg) (hsg : SgD w m ls) (hdn : m.deps.n ≤ 4611686018427387904) :
    Calls Tryz.prog 10 #[imgL.val m, .int .i64 kd, stv] w (DecP w (bindD B ls m.deps.n kd)) := by
  obtain ⟨R, hR⟩ : ∃ R, R = bindD B ls m.deps.n kd := ⟨_, rfl⟩
  rw [← hR]
  by_cases hk : 1 ≤ kd ∧ kd ≤ 3
  case neg =>
    have e1 : R = .bad 2 := by rw [hR]; unfold bindD; rw [if_neg hk]
    rw [e1]
    have hk2 : decide (kd < 1) = true ∨ (decide (kd < 1) = false ∧ decide (3 < kd) = true) := by
      by_cases h1 : kd < 1
      · exact .inl (decide_eq_true h1)
      · exact .inr ⟨decide_eq_false h1, decide_eq_true (by omega)⟩
    have Hst := Lib.hid hst
    have Hsg := Lib.hid hsg
    have HR := Lib.hid hR
    have E1 := Lib.hid e1
    have Hk := Lib.hid hk
    have Hdn := Lib.hid hdn
    have Hw0 := Lib.hid hw0
    clear hst hsg hR e1 hk hdn hw0
    rcases hk2 with k1 | ⟨k1, k2⟩
    all_goals
      go_enter_defers Tryz.func10, Tryz.ntmps10
      go_wp2_with ((with_reducible refine Lay.bxL (L := imgL) 30 m ?_ ?_); exact rfl; intro W1 bi ebi cbi xbi; replace ebi := Lib.hid ebi; replace cbi := Lib.hid cbi; replace xbi := Lib.hid xbi; refine Hid.out ?_)
      refine Lib.hid ?_
      go_upto_region 1 with fail
      obtain ⟨bl, hbl⟩ : ∃ x, x = W1.heap.size := ⟨_, rfl⟩
      obtain ⟨be, hbe⟩ : ∃ x, x = W1.heap.size + 1 := ⟨_, rfl⟩
      rw [← hbe, ← hbl]
      refine Lay.with_world (fun W => slcL.Box W bl ⟨none, 0, 0⟩ ∧ errL.Box W be 0 ∧ Chg [] w W) ⟨?_, ?_, (cbi.out.alloc _).alloc _⟩ (fun W2 hW => ?_)
      · rw [hbl]
        exact (Lay.Box.of_alloc (L := slcL) W1 ⟨none, 0, 0⟩ 31).alloc _
      · have h := Lay.Box.of_alloc (L := errL) (W1.alloc (.cells #[.slice none 0 0] 31)) 0 35
        rw [show (W1.alloc (.cells #[.slice none 0 0] 31)).heap.size = W1.heap.size + 1 by simp] at h
        rw [hbe]
        exact h
      obtain ⟨h1, h2, h4⟩ := hW
      have hne : bl ≠ be := by omega
      have hblw : w.heap.size ≤ bl := by rw [hbl]; exact cbi.out.size
      have hbew : w.heap.size ≤ be := by omega
      have L2 := Lib.hid h1
      have E2 := Lib.hid h2
      have C2 := Lib.hid h4
      clear h1 h2 h4 hbl hbe ebi cbi xbi
      have y1 := slcL.c L2.out
      have y2 := errL.c E2.out
      have z1 := L2.out.frozen 0
      have z2 := E2.out.frozen 0
      have hne2 : be ≠ bl := fun e => hne e.symm
      go_wp2
      obtain ⟨WZ, hWZ⟩ : ∃ x, x = (W2.setCell ⟨bl, 0, none⟩ (.slice none 0 0)).setCell ⟨be, 0, none⟩ (.int .i64 2) := ⟨_, rfl⟩
      rw [← hWZ]
      have l1 : slcL.Box WZ bl ⟨none, 0, 0⟩ := by rw [hWZ]; exact (slcL.set L2.out ⟨none, 0, 0⟩).setCell _ _ hne
      have e1 : errL.Box WZ be 2 := by rw [hWZ]; exact errL.set (E2.out.setCell _ _ hne2) 2
      have c1 : Chg [bl, be] W2 WZ := by rw [hWZ]; exact ((Chg.refl _ _).setCell _ _ (.inl (by simp))).setCell _ _ (.inl (by simp))
      clear hWZ y1 y2 z1 z2
      try simp only [settle, Leaves]
      exact ⟨.tuple #[.slice none 0 0, .int .i64 2], results2B Tryz.results10 rfl rfl (load_slB (slcL.c l1)) (load_errB (errL.c e1)), decP_bad (C2.out.trans c1 (fun i hi hw => by simp at hi; omega))⟩
  case pos =>
  have k1 : decide (kd < 1) = false := decide_eq_false (by omega)
  have k2 : decide (3 < kd) = false := decide_eq_false (by omega)
  have HR0 : Hid (decD B ls m.deps.n kd (B.length + 1) (bd0 kd) = R) := Lib.hid (by rw [hR]; unfold bindD; rw [if_pos hk])
  have HNW := Lib.hid (fun w hv => New_cur stv B false w hv (by omega))
  have hmf : ∀ (fn : Fn) (first cap : Array Value) (w : World), (Instr.makeFunc fn first cap).run Tryz.prog w = .ok (.func fn first cap) w := fun _ _ _ _ => rfl
  have q1 := fun W => (Lay.run_eql_func (P := Tryz.prog) Tryz.underlying71 W).2.1
  have q2 := fun W => (Lay.run_eql_func (P := Tryz.prog) Tryz.underlying71 W).1
  have Hst := Lib.hid hst
  have Hsg := Lib.hid hsg
  have HR := Lib.hid hR
  have Hk := Lib.hid hk
  have Hdn := Lib.hid hdn
  have Hw0 := Lib.hid hw0
  clear hst hsg hR hk hdn hw0
  go_enter_defers Tryz.func10, Tryz.ntmps10
  go_wp2_with ((with_reducible refine Lay.bxL (L := imgL) 30 m ?_ ?_); exact rfl; intro W1 bi ebi cbi xbi; replace ebi := Lib.hid ebi; replace cbi := Lib.hid cbi; replace xbi := Lib.hid xbi; refine Hid.out ?_)
  refine Lib.hid ?_
  go_upto_region 1 with fail
  obtain ⟨bl, hbl⟩ : ∃ x, x = W1.heap.size := ⟨_, rfl⟩
  obtain ⟨be, hbe⟩ : ∃ x, x = W1.heap.size + 1 := ⟨_, rfl⟩
  rw [← hbe, ← hbl]
  refine Lay.with_world (fun W => slcL.Box W bl ⟨none, 0, 0⟩ ∧ errL.Box W be 0 ∧ imgL.Box W bi m ∧ Chg [] w W) ⟨?_, ?_, (xbi.out.alloc _).alloc _, (cbi.out.alloc _).alloc _⟩ (fun W2 hW => ?_)
  · rw [hbl]
    exact (Lay.Box.of_alloc (L := slcL) W1 ⟨none, 0, 0⟩ 31).alloc _
  · have h := Lay.Box.of_alloc (L := errL) (W1.alloc (.cells #[.slice none 0 0] 31)) 0 35
    rw [show (W1.alloc (.cells #[.slice none 0 0] 31)).heap.size = W1.heap.size + 1 by simp] at h
    rw [hbe]
    exact h
  obtain ⟨h1, h2, h3, h4⟩ := hW
  have hne : bl ≠ be := by omega
  have hblw : w.heap.size ≤ bl := by rw [hbl]; exact cbi.out.size
  have hbew : w.heap.size ≤ be := by omega
  have L2 := Lib.hid h1
  have E2 := Lib.hid h2
  have I2 := Lib.hid h3
  have C2 := Lib.hid h4
  clear h1 h2 h3 h4
  clear hbl hbe ebi cbi xbi
  have hw : Env W2 := Hw0.out.frame C2.out (by simp)
  have hs : SgD W2 m ls := ⟨Hsg.out.b, Hsg.out.rd.frame C2.out, fun k hk => Nat.lt_of_lt_of_le (Hsg.out.own k hk) C2.out.size⟩
  have HS := Lib.hid hs
  clear hs
  go_upto_region 4 with fail
  refine wp_region_noPanic ?_
  refine wp_region_held_drew (S := fun w' => Chg [] W2 w') (by kernel_rfl) ((Chg.refl _ _).drew) (fun hHeld => ?_)
  refine take_read (i := 0) (v := ?_) (by simp only [List.getElem?_toArray, List.getElem?_cons_zero]; rfl) (by kernel_rfl) (by kernel_rfl) (by kernel_rfl) (fun _ _ _ h => h) hHeld ?_ ?_
  rotate_left
  · intro w hSw
    go_simp
    try with_reducible rfl
  try simp only [Act.put, List.setIfInBounds_toArray, List.set_cons_zero, List.set_cons_succ]
  refine take_read (i := 2) (v := ?_) (by simp only [List.getElem?_toArray, List.getElem?_cons_succ, List.getElem?_cons_zero]; rfl) (by kernel_rfl) (by kernel_rfl) (by kernel_rfl) (fun _ _ _ h => h) hHeld ?_ ?_
  rotate_left
  · intro w hSw
    refine Lay.read_ld Tryz.tImg ((I2.out.frame hSw).in) ?_ ?_
    exact rfl
    exact rfl
  try simp only [Act.put, List.setIfInBounds_toArray, List.set_cons_zero, List.set_cons_succ]
  refine take_read (i := 3) (v := ?_) (by simp only [List.getElem?_toArray, List.getElem?_cons_succ, List.getElem?_cons_zero]; rfl) (by kernel_rfl) (by kernel_rfl) (by kernel_rfl) (fun _ _ _ h => h) hHeld ?_ ?_
  rotate_left
  · intro w hSw
    go_simp
    try with_reducible rfl
  try simp only [Act.put, List.setIfInBounds_toArray, List.set_cons_zero, List.set_cons_succ]
  refine take_read (i := 4) (v := ?_) (by simp only [List.getElem?_toArray, List.getElem?_cons_succ, List.getElem?_cons_zero]; rfl) (by kernel_rfl) (by kernel_rfl) (by kernel_rfl) (fun _ _ _ h => h) hHeld ?_ ?_
  rotate_left
  · intro w hSw
    refine Lay.read_bd (xs := [(1, .const (.int .i64 2))]) ?_ ?_
    exact rfl
    exact fx_build2 _
  try simp only [Act.put, List.setIfInBounds_toArray, List.set_cons_zero, List.set_cons_succ]
  refine wpAnyH_ready (rs := [1]) (by kernel_rfl) (by simp) ?_
  refine AllReadyH.cons rfl (fun K hK => ?_) AllReadyH.nil
  go_simp
  refine (HNW.out _ (Hst.out.frame (C2.out.then hHeld) (fun _ _ hm => by cases hm))).mono ?_
  rintro e W3 ⟨bc, rfl, hle, hcur, hc⟩
  have A3 : Hid (Chg [] W2 W3) := Lib.hid (hHeld.then hc)
  have CU3 := Lib.hid hcur
  clear hcur
  clear hc
  refine hK.out _ _ A3.out (fun hHeld2 => ?_)
  clear hK hHeld K
  have hHeld := hHeld2
  clear hHeld2
  try (unfold Act.put; simp only [List.setIfInBounds_toArray, List.set_cons_zero, List.set_cons_succ])
  refine take_read (i := 5) (v := ?_) (by simp only [List.getElem?_toArray, List.getElem?_cons_succ, List.getElem?_cons_zero]; rfl) (by kernel_rfl) (by kernel_rfl) (by kernel_rfl) (fun _ _ _ h => h) hHeld ?_ ?_
  rotate_left
  · intro w hSw
    refine Lay.read_bd (xs := [(0, .tmp 19), (1, .tmp 20), (2, .tmp 21), (4, .tmp 22), (6, .const (.int .u8 1))]) ?_ ?_
    exact rfl
    exact brd_buildK (some ⟨bc, 0, none⟩) m kd _
  try simp only [Act.put, List.setIfInBounds_toArray, List.set_cons_zero, List.set_cons_succ]
  refine wpAnyH_ready (rs := [6]) (by kernel_rfl) (by simp) ?_
  refine AllReadyH.cons (by simp only [List.getElem?_toArray, List.getElem?_cons_succ, List.getElem?_cons_zero]; rfl) (fun K hK => ?_) AllReadyH.nil
  refine Lay.armBx (L := brdL) rfl _ rfl (brdK bc m kd) rfl (fun W4 b hbm hcW hbox => ?_)
  have A4 : Hid (Chg [] W2 W4) := Lib.hid (hHeld.then hcW)
  have EB := Lib.hid hbm
  have CW := Lib.hid hcW
  have BX4 := Lib.hid hbox
  clear hbm hcW hbox
  refine hK.out _ _ A4.out (fun hHeld2 => ?_)
  clear hK hHeld K
  have hHeld := hHeld2
  clear hHeld2
  try (unfold Act.put; simp only [List.setIfInBounds_toArray, List.set_cons_zero, List.set_cons_succ])
  refine take_read (i := 7) (v := ?_) (by simp only [List.getElem?_toArray, List.getElem?_cons_succ, List.getElem?_cons_zero]; rfl) (by kernel_rfl) (by kernel_rfl) (by kernel_rfl) (fun _ _ _ h => h) hHeld ?_ ?_
  rotate_left
  · intro w hSw
    go_simp
    try with_reducible rfl
  try simp only [Act.put, List.setIfInBounds_toArray, List.set_cons_zero, List.set_cons_succ]
  refine wpAnyH_done (by kernel_rfl) ?_ _
  refine NoPanic.normal ?_
  have hbc : bc < b := by have := CU3.out.lt; have := EB.out; omega
  have hle1 : W2.heap.size ≤ bc := Nat.le_trans ((Chg.refl [] W2).drew).size hle
  have ST0 : Hid (StD W2 B m kd 0 bd00 bc b W4) := Lib.hid (⟨hle1, hbc, hw.frame A4.out (by simp), CU3.out.frame CW.out, A4.out, ⟨⟨none, 0, 0⟩, BX4.out, Lay.Buf.nil _ _⟩, by decide, by decide⟩)
  clear A3 CU3 hHeld A4 EB CW BX4 hle
  go_upto_if 26 with fail
  go_cut [] from 27 to 30 (fun wx => StD W2 B m kd 0 (bd0 kd) bc b wx)
  case first =>
    by_cases kw : kd = 2
    · have e2 : (kd == 2) = true := by rw [kw]; rfl
      obtain ⟨so, hb4, hf4⟩ := ST0.out.box
      have x30 : W4.cell? ⟨b, 30, none⟩ = some (.int .i64 0) := Brd.c_ord hb4
      have z30 := hb4.frozen 30
      have Hb4 := Lib.hid hb4
      have Hf4 := Lib.hid hf4
      have Kw := Lib.hid kw
      clear hb4 hf4 kw
      go_wp2_with fail
      go_meet
      have kk : Chg [b] W4 (W4.setCell ⟨b, 30, none⟩ (.int .i64 (-3))) := (Chg.refl [b] _).setCell _ _ (.inl (by simp))
      have hb5 : brdL.Box (W4.setCell ⟨b, 30, none⟩ (.int .i64 (-3))) b (dR bc m kd 0 (bd0 kd) so) := by
        have := Brd.set_ord Hb4.out (-3)
        unfold bd0
        rw [if_pos Kw.out]
        exact this
      have hat : 0 ≤ (bd0 kd).f.at_ ∧ (bd0 kd).f.at_ < 18446744073709551616 := by
        show (0 : Int) ≤ 0 ∧ (0 : Int) < 18446744073709551616
        decide
      have r := (ST0.out.set (imm' := 0) (s' := bd0 kd) hw Hb4.out Hf4.out kk rfl rfl hb5 hat).1
      exact r
    · have e2 : (kd == 2) = false := by rw [beq_eq_false_iff_ne]; exact kw
      have Kw := Lib.hid kw
      clear kw
      go_wp2_with fail
      go_meet
      have : bd0 kd = bd00 := by unfold bd0; rw [if_neg Kw.out]; rfl
      rw [this]
      exact ST0.out
  case rest =>
  obtain ⟨W4, rfl⟩ : ∃ W, W = wc := ⟨_, rfl⟩
  clear ST0
  have ST0 := Lib.hid hcut
  clear hcut
  go_wp2_with fail
  refine (steps_any _).mono ?_
  rintro e W5 ⟨rfl, h5⟩
  have ST1 := Lib.hid (ST0.out.pure h5)
  clear h5 ST0
  go_wp2_with ((with_reducible refine Lay.alL Tryz.tFns ?_); intro W6 p0 ep0 cp0 xp0; replace ep0 := Lib.hid ep0; replace cp0 := Lib.hid cp0; replace xp0 := Lib.hid xp0; refine Hid.out ?_)
  refine Lib.hid ?_
  go_wp2_with ((with_reducible refine Lay.stL Tryz.tFns true (xp0.out) ?_ ?_ ?_); exact rfl; exact rfl; intro W7 cW7 xW7; replace cW7 := Lib.hid cW7; replace xW7 := Lib.hid xW7; refine Hid.out ?_)
  refine Lib.hid ?_
  have ST2 := Lib.hid (ST1.out.pure (cp0.out.new cW7.out (by rw [ep0.out]; exact Nat.le_refl _)))
  have F7 := Lib.hid (xW7.out)
  clear ep0 cp0 xp0 cW7 xW7 ST1
  go_wp2_with fail
  unfold Act.put
  simp only [List.setIfInBounds_toArray, List.set_cons_zero, List.set_cons_succ]
  go_loopw [9] (fun s9 wr => ∃ (f : Nat) (s : BdS) (p : Nat) (imm : Int), decD B ls m.deps.n kd f s = R ∧ B.length - s.p < f ∧ s.p ≤ B.length ∧ s9 = .pointer (some ⟨p, 0, none⟩) ∧ fnsL.Box wr p true ∧ StD W2 B m kd imm s bc b wr) (fun _ wr => curM B.length (wr.cell? ⟨bc, 1, none⟩))
  case atStart => exact ⟨B.length + 1, bd0 kd, _, 0, HR0.out, Nat.lt_succ_self _, Nat.zero_le _, rfl, F7.out, ST2.out⟩
  case round =>
    obtain ⟨f, s, p, imm, hr, hf, hpl, rfl, hfx, hst⟩ := hrel
    obtain ⟨so, hbx, hfb⟩ := hst.box
    have x0 : wr.cell? ⟨b, 0, none⟩ = some (.pointer (some ⟨bc, 0, none⟩)) := Brd.c_c hbx
    have hcu := hst.cur
    have ST := Lib.hid hst
    have CU := Lib.hid hcu
    have BX := Lib.hid hbx
    have FB0 := Lib.hid hfb
    have FX := Lib.hid hfx
    have HR1 := Lib.hid hr
    clear hst hcu hbx hfb hfx hr
    obtain ⟨d, hdd⟩ : ∃ d : Int, (B.length : Int) - (s.p : Nat) = d := ⟨_, rfl⟩
    have HLF := Lib.hid (Left_cur bc ⟨B, s.p, false, false⟩ wr CU.out)
    dsimp only at HLF
    rw [hdd] at HLF
    by_cases hl : s.p < B.length ∧ s.ended = false
    · obtain ⟨hl, hend⟩ := hl
      have hgt : decide ((0 : Int) < d) = true := by simp; omega
      obtain ⟨x, hx⟩ : ∃ x : Nat, (B.getD s.p 0).toNat = x := ⟨_, rfl⟩
      have hx256 : x < 256 := by rw [← hx]; exact (B.getD s.p 0).toNat_lt
      have hnv : numberV ⟨B, s.p, false, false⟩ 1 = x := by rw [← hx]; exact numberV_one rfl hl
      have hns : numberS ⟨B, s.p, false, false⟩ 1 = ⟨B, s.p + 1, false, false⟩ := by
        unfold numberS
        rw [show okSize 1 = true from rfl, if_pos rfl]
        unfold takeS
        rw [canTake_of rfl (by omega) (by dsimp only; omega)]
        rfl
      have HNM := Lib.hid (fun w hc => Number_cur bc ⟨B, s.p, false, false⟩ 1 w hc)
      rw [hnv, hns] at HNM
      have hw8 : IntKind.u8.wrap (x : Int) = (x : Int) := by rw [IntKind.wrap_u8]; omega
      obtain ⟨o, ho⟩ : ∃ o : Nat, x / 16 = o := ⟨_, rfl⟩
      obtain ⟨mm, hmm⟩ : ∃ mm : Nat, x % 16 = mm := ⟨_, rfl⟩
      have ho1 : o < 16 := by omega
      have hi1 : mm < 16 := by omega
      have hs : (x : Int) / 16 = (o : Int) := by omega
      have ha : bits .and .u8 (x : Int) 15 = (mm : Int) := by rw [and15c x hx256, hmm]
      obtain ⟨s1, hs1⟩ : ∃ s1, s1 = { s with p := s.p + 1 } := ⟨_, rfl⟩
      have hp1 : s1.p ≤ B.length := by rw [hs1]; exact hl
      obtain ⟨f', hf'⟩ : ∃ f', f = f' + 1 := ⟨f - 1, by omega⟩
      have HRS : Hid ((opD B ls m.deps.n kd o mm s1).then (decD B ls m.deps.n kd f') = R) := by
        refine Lib.hid ?_
        rw [← HR1.out, hf']
        show _ = if s.p < B.length ∧ s.ended = false then (stepD B ls m.deps.n kd s).then (decD B ls m.deps.n kd f') else .ok s
        rw [if_pos ⟨hl, hend⟩]
        unfold stepD byteD
        rw [hx, ho, hmm, hs1]
      have HFW : Hid (∀ s2, opD B ls m.deps.n kd o mm s1 = .ok s2 → s.p < s2.p ∧ s2.p ≤ B.length) := by
        refine Lib.hid ?_
        intro s2 h2
        have := opD_fwd h2 hp1
        rw [hs1] at this
        have h3 : s.p + 1 ≤ s2.p := this.1
        omega
      by_cases ho13 : o < 13
      · obtain ⟨hfo, hcf⟩ := fnI_at o ho13
        have hop := fun W h => op_D (w := W2) (B := B) (m := m) (kd := kd) (im := mm) (op := o) (s := s1) (bc := bc) (b := b) (W := W) h hw hi1 ho13 hB hp1 HS.out Hdn.out
        obtain ⟨fi, hfi⟩ : ∃ fi, fi = fnI o := ⟨_, rfl⟩
        rw [← hfi] at hfo hcf hop
        have Hx := Lib.hid hx
        have Hdd := Lib.hid hdd
        have Ho := Lib.hid ho
        have Hmm := Lib.hid hmm
        have Hend := Lib.hid hend
        have Hfo := Lib.hid hfo
        have Hns := Lib.hid hns
        have Hnv := Lib.hid hnv
        have HS1 := Lib.hid hs1
        have Hop := Lib.hid hop
        have Hfi := Lib.hid hfi
        clear hx hdd ho hmm hend hfo hns hnv hs1 hop hfi
        go_wp2_with fail
        refine (HLF.out).mono ?_
        rintro e W4 ⟨rfl, hd⟩
        have C4 : Hid (Chg [] wr W4) := Lib.hid ((Chg.refl [] wr).dr hd)
        clear hd
        replace x0 := C4.out.cell x0 (by simp)
        have x37 : W4.cell? ⟨b, 37, none⟩ = some (.bool s.ended) := Brd.c_ended (BX.out.frame C4.out)
        rw [Hend.out] at x37
        go_wp2_with fail
        refine (HNM.out _ (CU.out.frame C4.out)).mono ?_
        rintro e W5 ⟨rfl, hc5, h5⟩
        have C5 : Hid (Chg [bc] wr W5) := Lib.hid (C4.out.add.same h5)
        have CU5 := Lib.hid hc5
        clear hc5
        clear x0 h5 x37
        have S5 := Lib.hid ((ST.out.took hw BX.out FB0.out C5.out CU5.out).1)
        obtain ⟨so5, hb5, hf5⟩ := S5.out.box
        have F5 : Hid (fnsL.Box W5 p true) := Lib.hid (FX.out.frameS C5.out (by simp; exact fns_ne_c CU.out FX.out))
        have x26 : W5.cell? ⟨b, 26, none⟩ = some (.int .u8 imm) := Brd.c_imm hb5
        have z26 := hb5.frozen 26
        have Hb5 := Lib.hid hb5
        have Hf5 := Lib.hid hf5
        clear hb5 hf5
        go_upto_region 11 with fail
        refine Lay.with_world (fun W => StD W2 B m kd (mm : Int) s1 bc b W ∧ fnsL.Box W p true) ⟨?_, F5.out.setCell _ _ (by show p ≠ b; exact fns_ne_b Hb5.out F5.out)⟩ (fun W6 hW => ?_)
        · rw [HS1.out]
          exact (S5.out.set (imm' := (mm : Int)) (s' := { s with p := s.p + 1 }) hw Hb5.out Hf5.out ((Chg.refl [b] _).setCell _ _ (.inl (by simp))) rfl rfl (Brd.set_imm Hb5.out _) S5.out.at_).1
        obtain ⟨hs6, hf6⟩ := hW
        have S6 := Lib.hid hs6
        have F6 := Lib.hid hf6
        clear hs6 hf6
        clear x26 z26
        have y1 : W6.cell? ⟨p, o, none⟩ = some (.func (.func fi) #[] #[]) := by
          have := F6.out.in o (by exact ho1)
          rw [Nat.zero_add] at this
          rw [this]
          exact Hfo.out
        go_wp2_with fail
        refine (refuse_ok 14 _).mono ?_
        rintro e W7 ⟨rfl, hw7⟩
        subst hw7
        go_wp2_with fail
        cases hq : opD B ls m.deps.n kd o mm s1 with
        | bad q =>
          have ho8 := Hop.out _ S6.out
          rw [hq] at ho8
          have HB : Hid (R = .bad q) := Lib.hid (by rw [← HRS.out, hq]; rfl)
          refine ho8.mono ?_
          rintro e W8 ⟨rfl, h8⟩
          have L8 := Lib.hid (L2.out.frame h8)
          have E8 := Lib.hid (E2.out.frame h8)
          have C8 := Lib.hid (C2.out.then h8)
          clear h8 y1
          unfold stopB
          refine leaves_cons (f := 28) (args := #[.pointer (some ⟨bl, 0, none⟩), .pointer (some ⟨be, 0, none⟩)]) (by simp) (by simp [go_sem]) ?_
          refine (dclos_stop bl be _ _ q _ L8.out E8.out hne).mono ?_
          rintro e u' W9 ⟨rfl, rfl, hl9, he9, hc9⟩
          simp only [settle]
          refine ⟨.tuple #[.slice none 0 0, .int .i64 q], results2B Tryz.results10 rfl rfl (load_slB (slcL.c hl9)) (load_errB (errL.c he9)), ?_⟩
          rw [HB.out]
          exact decP_bad (C8.out.trans hc9 (fun i hi hw => by simp at hi; omega))
        | ok s2 =>
          have ho8 := Hop.out _ S6.out
          rw [hq] at ho8
          have hfw := HFW.out s2 hq
          have HR2 : Hid (decD B ls m.deps.n kd f' s2 = R) := Lib.hid (by rw [← HRS.out, hq]; rfl)
          refine ho8.mono ?_
          rintro e W8 ⟨rfl, h8, hk8⟩
          have F8 := Lib.hid (hk8 p F6.out)
          have S8 := Lib.hid h8
          clear h8
          clear hk8 y1 ho8
          have Hq := Lib.hid hq
          clear hq
          go_wp2_with ((with_reducible refine Lay.ldL Tryz.tFns true (F8.out.in) ?_ ?_); exact rfl; refine Hid.out ?_)
          refine Lib.hid ?_
          go_wp2_with ((with_reducible refine Lay.alL Tryz.tFns ?_); intro W9 p9 ep9 cp9 xp9; replace ep9 := Lib.hid ep9; replace cp9 := Lib.hid cp9; replace xp9 := Lib.hid xp9; refine Hid.out ?_)
          refine Lib.hid ?_
          go_wp2_with ((with_reducible refine Lay.stL Tryz.tFns true (xp9.out) ?_ ?_ ?_); exact rfl; exact rfl; intro WA cWA xWA; replace cWA := Lib.hid cWA; replace xWA := Lib.hid xWA; refine Hid.out ?_)
          refine Lib.hid ?_
          have SA := Lib.hid (S8.out.pure (cp9.out.new cWA.out (by rw [ep9.out]; exact Nat.le_refl _)))
          unfold Act.put
          simp only [List.setIfInBounds_toArray, List.set_cons_zero, List.set_cons_succ]
          go_wp2
          go_roundw
          case rel => exact ⟨f', s2, _, _, HR2.out, by omega, hfw.2, rfl, xWA.out, SA.out⟩
          case measure =>
            have h1 := SA.out.cur.cell1b
            have h2 := CU.out.cell1b
            rw [h1, h2, curM_some, curM_some]
            dsimp only
            omega
      · have hnf : (fnC true)[o]? = some .nilFunc := by
          have hc : o = 13 ∨ o = 14 ∨ o = 15 := by omega
          rcases hc with rfl | rfl | rfl <;> rfl
        have HB : Hid (R = .bad 14) := Lib.hid (by rw [← HRS.out, opD_13 (by omega)]; rfl)
        have Hx := Lib.hid hx
        have Hdd := Lib.hid hdd
        have Ho := Lib.hid ho
        have Hmm := Lib.hid hmm
        have Hend := Lib.hid hend
        have Hnf := Lib.hid hnf
        have Hns := Lib.hid hns
        have Hnv := Lib.hid hnv
        have HS1 := Lib.hid hs1
        clear hx hdd ho hmm hend hnf hns hnv hs1
        go_wp2_with fail
        refine (HLF.out).mono ?_
        rintro e W4 ⟨rfl, hd⟩
        have C4 : Hid (Chg [] wr W4) := Lib.hid ((Chg.refl [] wr).dr hd)
        clear hd
        replace x0 := C4.out.cell x0 (by simp)
        have x37 : W4.cell? ⟨b, 37, none⟩ = some (.bool s.ended) := Brd.c_ended (BX.out.frame C4.out)
        rw [Hend.out] at x37
        go_wp2_with fail
        refine (HNM.out _ (CU.out.frame C4.out)).mono ?_
        rintro e W5 ⟨rfl, hc5, h5⟩
        have C5 : Hid (Chg [bc] wr W5) := Lib.hid (C4.out.add.same h5)
        have CU5 := Lib.hid hc5
        clear hc5
        clear x0 h5 x37
        have S5 := Lib.hid ((ST.out.took hw BX.out FB0.out C5.out CU5.out).1)
        obtain ⟨so5, hb5, hf5⟩ := S5.out.box
        have F5 : Hid (fnsL.Box W5 p true) := Lib.hid (FX.out.frameS C5.out (by simp; exact fns_ne_c CU.out FX.out))
        have x26 : W5.cell? ⟨b, 26, none⟩ = some (.int .u8 imm) := Brd.c_imm hb5
        have z26 := hb5.frozen 26
        have Hb5 := Lib.hid hb5
        have Hf5 := Lib.hid hf5
        clear hb5 hf5
        go_upto_region 11 with fail
        refine Lay.with_world (fun W => StD W2 B m kd (mm : Int) s1 bc b W ∧ fnsL.Box W p true) ⟨?_, F5.out.setCell _ _ (by show p ≠ b; exact fns_ne_b Hb5.out F5.out)⟩ (fun W6 hW => ?_)
        · rw [HS1.out]
          exact (S5.out.set (imm' := (mm : Int)) (s' := { s with p := s.p + 1 }) hw Hb5.out Hf5.out ((Chg.refl [b] _).setCell _ _ (.inl (by simp))) rfl rfl (Brd.set_imm Hb5.out _) S5.out.at_).1
        obtain ⟨hs6, hf6⟩ := hW
        have S6 := Lib.hid hs6
        have F6 := Lib.hid hf6
        clear hs6 hf6
        clear x26 z26
        have y1 : W6.cell? ⟨p, o, none⟩ = some .nilFunc := by
          have := F6.out.in o (by exact ho1)
          rw [Nat.zero_add] at this
          rw [this]
          exact Hnf.out
        go_wp2_with fail
        refine (refuse_bad 14 _).mono ?_
        rintro e W8 ⟨rfl, hw7⟩
        subst hw7
        obtain ⟨q, hq⟩ : ∃ q : Int, q = 14 := ⟨_, rfl⟩
        rw [← hq] at HB ⊢
        have L8 := Lib.hid (L2.out.frame S6.out.chg)
        have E8 := Lib.hid (E2.out.frame S6.out.chg)
        have C8 := Lib.hid (C2.out.then S6.out.chg)
        clear y1
        unfold stopB
        refine leaves_cons (f := 28) (args := #[.pointer (some ⟨bl, 0, none⟩), .pointer (some ⟨be, 0, none⟩)]) (by simp) (by simp [go_sem]) ?_
        refine (dclos_stop bl be _ _ q _ L8.out E8.out hne).mono ?_
        rintro e u' W9 ⟨rfl, rfl, hl9, he9, hc9⟩
        simp only [settle]
        refine ⟨.tuple #[.slice none 0 0, .int .i64 q], results2B Tryz.results10 rfl rfl (load_slB (slcL.c hl9)) (load_errB (errL.c he9)), ?_⟩
        rw [HB.out]
        exact decP_bad (C8.out.trans hc9 (fun i hi hw => by simp at hi; omega))
    · have HB : Hid (R = .ok s) := by
        refine Lib.hid ?_
        rw [← HR1.out]
        obtain ⟨f', hf'⟩ : ∃ f', f = f' + 1 := ⟨f - 1, by omega⟩
        rw [hf']
        unfold decD
        rw [if_neg hl]
      have hor : s.p = B.length ∨ (s.p < B.length ∧ s.ended = true) := by
        by_cases h : s.p < B.length
        · refine .inr ⟨h, ?_⟩
          cases he : s.ended with
          | true => rfl
          | false => exact absurd ⟨h, he⟩ hl
        · exact .inl (by omega)
      clear hl
      obtain ⟨en, hen⟩ : ∃ en, en = s.ended := ⟨_, rfl⟩
      rw [← hen] at hor
      rcases hor with hor | ⟨hor, rfl⟩
      · have hgt : decide ((0 : Int) < d) = false := by simp; omega
        have Hdd := Lib.hid hdd
        have Hor := Lib.hid hor
        have Hen := Lib.hid hen
        clear hdd hor hen
        go_wp2_with fail
        refine (HLF.out).mono ?_
        rintro e W4 ⟨rfl, hd⟩
        have C4 : Hid (Chg [] wr W4) := Lib.hid ((Chg.refl [] wr).dr hd)
        clear hd
        replace x0 := C4.out.cell x0 (by simp)
        have x37 : W4.cell? ⟨b, 37, none⟩ = some (.bool s.ended) := Brd.c_ended (BX.out.frame C4.out)
        rw [← Hen.out] at x37
        have x29 : W4.cell? ⟨b, 36, none⟩ = some (.slice so.a so.n so.cap) := Brd.c_out (BX.out.frame C4.out)
        have L4 := Lib.hid (L2.out.frame (ST.out.chg.then C4.out))
        have E4 := Lib.hid (E2.out.frame (ST.out.chg.then C4.out))
        have y1 := slcL.c L4.out
        have y2 := errL.c E4.out
        have z1 := L4.out.frozen 0
        have z2 := E4.out.frozen 0
        have hne2 : be ≠ bl := fun e => hne e.symm
        go_wp2
        obtain ⟨WZ, hWZ⟩ : ∃ x, x = (W4.setCell ⟨bl, 0, none⟩ (.slice so.a so.n so.cap)).setCell ⟨be, 0, none⟩ (.int .i64 0) := ⟨_, rfl⟩
        rw [← hWZ]
        have l1 : slcL.Box WZ bl so := by rw [hWZ]; exact (slcL.set L4.out so).setCell _ _ hne
        have e1 : errL.Box WZ be 0 := by rw [hWZ]; exact errL.set (E4.out.setCell _ _ hne2) 0
        have c1 : Chg [bl, be] W4 WZ := by rw [hWZ]; exact ((Chg.refl _ _).setCell _ _ (.inl (by simp))).setCell _ _ (.inl (by simp))
        clear hWZ y1 y2 z1 z2 x29
        refine leaves_cons (f := 28) (args := #[.pointer (some ⟨bl, 0, none⟩), .pointer (some ⟨be, 0, none⟩)]) (by simp) (by simp [go_sem]) ?_
        refine (dclos_idle _ _ _).mono ?_
        rintro e u' W9 ⟨rfl, rfl, rfl⟩
        simp only [settle, Leaves]
        have hbl2 := L2.out.lt
        have hbe2 := E2.out.lt
        have hlo := ST.out.lo
        refine ⟨.tuple #[.slice so.a so.n so.cap, .int .i64 0], results2B Tryz.results10 rfl rfl (load_slB (slcL.c l1)) (load_errB (errL.c e1)), ?_⟩
        rw [HB.out]
        refine decP_ok (so := so) (((C2.out.then ST.out.chg).then C4.out).trans c1 (fun i hi hw => by simp at hi; omega)) ?_
        have hfz : FB W9 (b + 1) so.v s.fs := (FB0.out.pure C4.out).frame c1 (fun i hi hm => by have := (FB0.out.lt i hi).1; simp at hm; omega)
        exact Lay.Buf.mono hfz (by have := C2.out.size; omega)
      · have hgt : decide ((0 : Int) < d) = true := by simp; omega
        have Hdd := Lib.hid hdd
        have Hen := Lib.hid hen
        clear hdd hen
        go_wp2_with fail
        refine (HLF.out).mono ?_
        rintro e W4 ⟨rfl, hd⟩
        have C4 : Hid (Chg [] wr W4) := Lib.hid ((Chg.refl [] wr).dr hd)
        clear hd
        replace x0 := C4.out.cell x0 (by simp)
        have x37 : W4.cell? ⟨b, 37, none⟩ = some (.bool s.ended) := Brd.c_ended (BX.out.frame C4.out)
        rw [← Hen.out] at x37
        have x29 : W4.cell? ⟨b, 36, none⟩ = some (.slice so.a so.n so.cap) := Brd.c_out (BX.out.frame C4.out)
        have L4 := Lib.hid (L2.out.frame (ST.out.chg.then C4.out))
        have E4 := Lib.hid (E2.out.frame (ST.out.chg.then C4.out))
        have y1 := slcL.c L4.out
        have y2 := errL.c E4.out
        have z1 := L4.out.frozen 0
        have z2 := E4.out.frozen 0
        have hne2 : be ≠ bl := fun e => hne e.symm
        go_wp2
        obtain ⟨WZ, hWZ⟩ : ∃ x, x = (W4.setCell ⟨bl, 0, none⟩ (.slice so.a so.n so.cap)).setCell ⟨be, 0, none⟩ (.int .i64 0) := ⟨_, rfl⟩
        rw [← hWZ]
        have l1 : slcL.Box WZ bl so := by rw [hWZ]; exact (slcL.set L4.out so).setCell _ _ hne
        have e1 : errL.Box WZ be 0 := by rw [hWZ]; exact errL.set (E4.out.setCell _ _ hne2) 0
        have c1 : Chg [bl, be] W4 WZ := by rw [hWZ]; exact ((Chg.refl _ _).setCell _ _ (.inl (by simp))).setCell _ _ (.inl (by simp))
        clear hWZ y1 y2 z1 z2 x29
        refine leaves_cons (f := 28) (args := #[.pointer (some ⟨bl, 0, none⟩), .pointer (some ⟨be, 0, none⟩)]) (by simp) (by simp [go_sem]) ?_
        refine (dclos_idle _ _ _).mono ?_
        rintro e u' W9 ⟨rfl, rfl, rfl⟩
        simp only [settle, Leaves]
        have hbl2 := L2.out.lt
        have hbe2 := E2.out.lt
        have hlo := ST.out.lo
        refine ⟨.tuple #[.slice so.a so.n so.cap, .int .i64 0], results2B Tryz.results10 rfl rfl (load_slB (slcL.c l1)) (load_errB (errL.c e1)), ?_⟩
        rw [HB.out]
        refine decP_ok (so := so) (((C2.out.then ST.out.chg).then C4.out).trans c1 (fun i hi hw => by simp at hi; omega)) ?_
        have hfz : FB W9 (b + 1) so.v s.fs := (FB0.out.pure C4.out).frame c1 (fun i hi hm => by have := (FB0.out.lt i hi).1; simp at hm; omega)
        exact Lay.Buf.mono hfz (by have := C2.out.size; omega)
end Go.Proofs.YtkomocgodljecaaGreatDoor
