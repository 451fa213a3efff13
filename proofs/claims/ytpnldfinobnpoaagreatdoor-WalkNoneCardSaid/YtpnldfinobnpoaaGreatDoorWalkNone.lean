/- clevislaw16.WalkNone, walked. -/
import Derived.Test.YtpnldfinobnpoaaGreatDoorEmpty
import Derived.Test.YtpnldfinobnpoaaGreatDoorCMk0
import Derived.Test.YtpnldfinobnpoaaGreatDoorKnown16
import Derived.Test.YtpnldfinobnpoaaGreatDoorStr
import Derived.Test.YtpnldfinobnpoaaGreatDoorRdl
namespace Go.Proofs.YtpnldfinobnpoaaGreatDoor
open Go.RowKit
set_option maxRecDepth 100000

theorem may_0 (m : Img) (w : World) : Calls Tryz.prog 13 #[imgL.val m, .slice none 0 0] w fun e w' => e = .returned (.int .i64 0) ∧ Chg [] w w' := by
  have hmf : ∀ (fn : Fn) (first cap : Array Value) (w : World), (Instr.makeFunc fn first cap).run Tryz.prog w = .ok (.func fn first cap) w := fun _ _ _ _ => rfl
  go_enter Tryz.func13, Tryz.ntmps13
  go_wp2_with ((with_reducible refine Lay.bxL (L := imgL) 30 m ?_ ?_); exact rfl; intro W1 bm ebm cbm xbm; replace ebm := Lib.hid ebm; replace cbm := Lib.hid cbm; replace xbm := Lib.hid xbm; refine Hid.out ?_)
  refine Lib.hid ?_
  go_upto_region 1 with fail
  obtain ⟨p, hp⟩ : ∃ p, p = W1.heap.size := ⟨_, rfl⟩
  rw [← hp]
  refine Lay.with_world (fun W => W.cell? ⟨p, 0, none⟩ = some (.slice none 0 0) ∧ Chg [] w W) ⟨by rw [hp]; exact cell_of_heap (heap_alloc_eq W1 _) 0, cbm.out.alloc _⟩ (fun W hW => ?_)
  obtain ⟨y, hc⟩ := hW
  have Hc := Lib.hid hc
  have Hp := Lib.hid hp
  clear hc hp
  clear ebm cbm xbm
  have HA : Hid (∀ f, Calls Tryz.prog 40 #[f, .pointer (some ⟨p, 0, none⟩)] W fun e w' => e = .returned (.bool false) ∧ w' = W) := Lib.hid (fun f => any_0 ⟨p, 0, none⟩ f W y)
  go_wp2_with fail
  refine (HA.out _).mono ?_
  rintro e w1 ⟨rfl, rfl⟩
  go_wp2_with fail
  refine (meet_0 _).mono ?_
  rintro e w1 ⟨rfl, rfl⟩
  go_wp2_with fail
  refine (HA.out _).mono ?_
  rintro e w1 ⟨rfl, rfl⟩
  go_wp2_with fail
  refine (imports_0 _).mono ?_
  rintro e w1 ⟨rfl, rfl⟩
  go_wp2_with fail
  refine (HA.out _).mono ?_
  rintro e w1 ⟨rfl, rfl⟩
  go_wp2_with fail
  refine (HA.out _).mono ?_
  rintro e w1 ⟨rfl, rfl⟩
  go_wp2_with fail
  refine (HA.out _).mono ?_
  rintro e w1 ⟨rfl, rfl⟩
  go_wp2
  go_ret
  exact ⟨rfl, Hc.out⟩
theorem fixups_0 (v : Value) (m : Img) (hm : m.chS = 0) (w : World) : Calls Tryz.prog 5 #[v, imgL.val m] w fun e w' => e = .returned (.tuple #[.slice none 0 0, .int .i64 0]) ∧ Chg [] w w' := by
  go_enter Tryz.func5, Tryz.ntmps5
  go_wp2_with ((with_reducible refine Lay.bxL (L := imgL) 30 m ?_ ?_); exact rfl; intro W1 bm ebm cbm xbm; replace ebm := Lib.hid ebm; replace cbm := Lib.hid cbm; replace xbm := Lib.hid xbm; refine Hid.out ?_)
  refine Lib.hid ?_
  have y := Img.c_chS xbm.out
  rw [hm] at y
  go_wp2
  go_ret2
  exact ⟨rfl, cbm.out⟩
set_option maxHeartbeats 2000000 in
theorem make_0 (m : Img) (hn : m.segs.n = 2) (w : World) : Calls Tryz.prog 6 #[imgL.val m, .slice none 0 0] w fun e w' => (∃ v, e = .returned (.tuple #[.slice none 0 0, v, .int .i64 0]) ∧ BB w' w.heap.size v mkB0) ∧ Chg [] w w' := by
  have HMK : Hid (∀ W, Calls Tryz.prog 20 #[.agg (chnL.f Chn.zero).toArray, .agg (imgL.f m).toArray, .int .i64 3] W fun e w' => (∃ v, e = .returned (.tuple #[v, .int .i64 0]) ∧ BB w' W.heap.size v mkB0) ∧ Chg [] W w') := Lib.hid (fun W => cmake_0 .zero rfl rfl m hn W)
  clear hn
  go_enter Tryz.func6, Tryz.ntmps6
  go_wp2_with ((with_reducible refine Lay.bxL (L := imgL) 30 m ?_ ?_); exact rfl; intro W1 bm ebm cbm xbm; replace ebm := Lib.hid ebm; replace cbm := Lib.hid cbm; replace xbm := Lib.hid xbm; refine Hid.out ?_)
  refine Lib.hid ?_
  go_wp2_with fail
  refine (set_0 _).mono ?_
  rintro e w1 ⟨rfl, rfl⟩
  go_wp2_with ((with_reducible refine Lay.ldL Tryz.tImg m (xbm.out.in) ?_ ?_); exact rfl; refine Hid.out ?_)
  refine Lib.hid ?_
  go_wp2_with fail
  refine (may_0 m _).mono ?_
  rintro e W2 ⟨rfl, hc⟩
  have C2 := Lib.hid (cbm.out.then hc)
  have X2 := Lib.hid (xbm.out.frame hc)
  clear hc
  go_wp2_with fail
  refine (imports_0 _).mono ?_
  rintro e w1 ⟨rfl, rfl⟩
  go_wp2_with ((with_reducible refine Lay.alL Tryz.tChn ?_); intro W3 bc ebc cbc xbc; replace ebc := Lib.hid ebc; replace cbc := Lib.hid cbc; replace xbc := Lib.hid xbc; refine Hid.out ?_)
  refine Lib.hid ?_
  go_wp2_with ((with_reducible refine Lay.stL Tryz.tChn Chn.zero (xbc.out) ?_ ?_ ?_); exact rfl; exact rfl; intro W4 cW4 xW4; replace cW4 := Lib.hid cW4; replace xW4 := Lib.hid xW4; refine Hid.out ?_)
  refine Lib.hid ?_
  have D4 : Hid (Chg [] w1 W4) := Lib.hid (cbc.out.new cW4.out (by rw [ebc.out]; exact Nat.le_refl _))
  have X4 := Lib.hid (X2.out.frame D4.out)
  have C4 := Lib.hid (C2.out.then D4.out)
  have Y4 := Lib.hid (xW4.out)
  clear cbc xbc ebc cW4 xW4
  go_wp2_with fail
  go_loopw [9, 34] (fun s9 s34 wr => s9 = .slice none 0 0 ∧ s34 = .int .i64 0 ∧ wr = W4) (fun _ _ _ => 0)
  case atStart => exact ⟨rfl, rfl, rfl⟩
  case round =>
    obtain ⟨rfl, rfl, rfl⟩ := hrel
    go_wp2_with ((with_reducible refine Lay.ldL Tryz.tChn Chn.zero (Y4.out.in) ?_ ?_); exact rfl; refine Hid.out ?_)
    refine Lib.hid ?_
    go_wp2_with ((with_reducible refine Lay.ldL Tryz.tImg m (X4.out.in) ?_ ?_); exact rfl; refine Hid.out ?_)
    refine Lib.hid ?_
    go_wp2_with fail
    refine (HMK.out _).mono ?_
    rintro e W5 ⟨⟨v, rfl, hb⟩, hc⟩
    have C5 := Lib.hid (C4.out.then hc)
    have B5 := Lib.hid (hb.mono C4.out.size)
    clear hc hb
    go_wp2
    go_ret3
    exact ⟨⟨_, rfl, B5.out⟩, C5.out⟩
theorem empty_0 (m : Img) (hn : m.segs.n = 2) (w : World) : Calls Tryz.prog 7 #[imgL.val m] w fun e w' => (∃ v, e = .returned v ∧ BB w' w.heap.size v mkB0) ∧ Chg [] w w' := by
  go_enter Tryz.func7, Tryz.ntmps7
  go_wp2_with ((with_reducible refine Lay.bxL (L := imgL) 30 m ?_ ?_); exact rfl; intro W1 bm ebm cbm xbm; replace ebm := Lib.hid ebm; replace cbm := Lib.hid cbm; replace xbm := Lib.hid xbm; refine Hid.out ?_)
  refine Lib.hid ?_
  go_wp2_with ((with_reducible refine Lay.ldL Tryz.tImg m (xbm.out.in) ?_ ?_); exact rfl; refine Hid.out ?_)
  refine Lib.hid ?_
  go_wp2_with fail
  refine (cmake_0 .zero rfl rfl m hn _).mono ?_
  rintro e W5 ⟨⟨v, rfl, hb⟩, hc⟩
  have C5 := Lib.hid (cbm.out.then hc)
  have B5 := Lib.hid (hb.mono cbm.out.size)
  clear hc hb
  go_wp2
  go_ret
  exact ⟨⟨_, rfl, B5.out⟩, C5.out⟩
theorem zeros8 (w : World) (n : Nat) (hn : n ≤ 1048576) : ∃ o, (Instr.makeSlice 36 (.int .i64 (n : Int)) (.int .i64 (n : Int))).run Tryz.prog w = .ok (.slice (some ⟨w.heap.size, 0, none⟩) n n) (w.alloc o) := by
  obtain ⟨i, z, hi, hz, hz1, hz2, hz3⟩ := Tryz.infoByte.i
  have hz' : i.zero = some (.int .u8 0) := by
    have e : (Tryz.prog.info? 5).map (fun i => i.zero) = some (some (.int .u8 0)) := by kernel_rfl
    rw [hi] at e
    simpa using e
  have hb : (i.bytes : Int) * (n : Int) ≤ 281474976710656 := by rw [hz2]; omega
  have hr := run_make (P := Tryz.prog) w 36 5 i (.int .u8 0) Tryz.infoByte.u hi hz' .i64 .i64 n n (by omega) (by omega) hb (by omega)
  simp only [Int.toNat_natCast] at hr
  exact ⟨_, hr⟩
set_option maxHeartbeats 4000000 in
theorem WalkNone_walk (w : World) : Calls Tryz.prog 3 #[] w fun e w' => e = .returned (.bool true) ∧ Chg [] w w' := by
  have HK := Lib.hid (known16)
  have HPL : Hid (∀ w, Calls Tryz.prog 4 #[.int .u64 0, .int .i64 0] w fun e w' => ∃ sg dp, e = .returned (imgL.val (plainImg sg dp)) ∧ segL.Rd w' sg.v (plainSegs 0) ∧ depL.Rd w' dp.v (plainDeps 0) ∧ Chg [] w w') := Lib.hid (fun w => plain_any 0 0 (by decide) w)
  go_enter Tryz.func3, Tryz.ntmps3
  go_wp2_with fail
  refine (HPL.out _).mono ?_
  rintro e W1 ⟨sg, dp, rfl, hs, hd, hc⟩
  have n1 : sg.n = 2 := by
    obtain ⟨a, c, e, _, _⟩ := hs.shape
    cases sg
    cases e
    rfl
  have C1 := Lib.hid (hc)
  clear hs hd hc
  obtain ⟨m, hm⟩ : ∃ m, m = plainImg sg dp := ⟨_, rfl⟩
  have m1 : m.segs.n = 2 := by rw [hm]; exact n1
  have m2 : m.chS = 0 := by rw [hm]; rfl
  rw [← hm]
  clear hm n1
  go_wp2_with ((with_reducible refine Lay.alL Tryz.tImg ?_); intro W2 bm ebm cbm xbm; replace ebm := Lib.hid ebm; replace cbm := Lib.hid cbm; replace xbm := Lib.hid xbm; refine Hid.out ?_)
  refine Lib.hid ?_
  go_wp2_with ((with_reducible refine Lay.stL Tryz.tImg m (xbm.out) ?_ ?_ ?_); exact rfl; exact rfl; intro W3 cW3 xW3; replace cW3 := Lib.hid cW3; replace xW3 := Lib.hid xW3; refine Hid.out ?_)
  refine Lib.hid ?_
  have C3 := Lib.hid (C1.out.then (cbm.out.new cW3.out (by rw [ebm.out]; exact Nat.le_refl _)))
  have X3 := Lib.hid (xW3.out)
  clear ebm cbm xbm cW3 xW3 C1
  go_upto_region 2 with fail
  refine wp_region_noPanic ?_
  refine wp_region_held_drew (S := fun w' => Chg [] W3 w') (by kernel_rfl) ((Chg.refl _ _).drew) (fun hHeld => ?_)
  refine take_read (i := 1) (v := ?_) (by simp only [List.getElem?_toArray, List.getElem?_cons_succ, List.getElem?_cons_zero]; rfl) (by kernel_rfl) (by kernel_rfl) (by kernel_rfl) (fun _ _ _ h => h) hHeld ?_ ?_
  rotate_left
  · intro w hSw
    refine Lay.read_ld Tryz.tImg ((X3.out.frame hSw).in) ?_ ?_
    exact rfl
    exact rfl
  try simp only [Act.put, List.setIfInBounds_toArray, List.set_cons_zero, List.set_cons_succ]
  refine wpAnyH_ready (rs := [0]) (by kernel_rfl) (by simp) ?_
  refine AllReadyH.cons rfl (fun K hK => ?_) AllReadyH.nil
  go_simp
  obtain ⟨o, hmk⟩ := zeros8 W3.drew 8192 (by decide)
  replace hmk : (Instr.makeSlice 36 (.int .i64 8192) (.int .i64 8192)).run Tryz.prog W3.drew = .ok (.slice (some ⟨W3.drew.heap.size, 0, none⟩) 8192 8192) (W3.drew.alloc o) := hmk
  rw [hmk]
  simp only [Result.andThen_ok]
  rw [Oper.upon_value]
  generalize hz : W3.drew.heap.size = z
  generalize hw4 : W3.drew.alloc o = W4
  have H4 : Hid (Chg [] W3 W4) := Lib.hid (by rw [← hw4]; exact hHeld.alloc _)
  clear hmk hz hw4
  refine hK.out _ _ H4.out (fun hHeld2 => ?_)
  clear hK hHeld K
  have hHeld := hHeld2
  clear hHeld2
  try (unfold Act.put; simp only [List.setIfInBounds_toArray, List.set_cons_zero, List.set_cons_succ])
  refine wpAnyH_ready (rs := [2]) (by kernel_rfl) (by simp) ?_
  refine AllReadyH.cons rfl (fun K hK => ?_) AllReadyH.nil
  go_simp
  refine (fixups_0 _ m m2 _).mono ?_
  rintro e W5 ⟨rfl, hc⟩
  have H5 : Hid (Chg [] W3 W5) := Lib.hid (H4.out.then hc)
  clear hc
  refine hK.out _ _ H5.out (fun hHeld2 => ?_)
  clear hK hHeld K
  have hHeld := hHeld2
  clear hHeld2
  try (unfold Act.put; simp only [List.setIfInBounds_toArray, List.set_cons_zero, List.set_cons_succ])
  refine take_read (i := 3) (v := ?_) (by simp only [List.getElem?_toArray, List.getElem?_cons_succ, List.getElem?_cons_zero]; rfl) (by kernel_rfl) (by kernel_rfl) (by kernel_rfl) (fun _ _ _ h => h) hHeld ?_ ?_
  rotate_left
  · intro w hSw
    go_simp
    try with_reducible rfl
  try simp only [Act.put, List.setIfInBounds_toArray, List.set_cons_zero, List.set_cons_succ]
  refine take_read (i := 4) (v := ?_) (by simp only [List.getElem?_toArray, List.getElem?_cons_succ, List.getElem?_cons_zero]; rfl) (by kernel_rfl) (by kernel_rfl) (by kernel_rfl) (fun _ _ _ h => h) hHeld ?_ ?_
  rotate_left
  · intro w hSw
    go_simp
    try with_reducible rfl
  try simp only [Act.put, List.setIfInBounds_toArray, List.set_cons_zero, List.set_cons_succ]
  refine take_read (i := 5) (v := ?_) (by simp only [List.getElem?_toArray, List.getElem?_cons_succ, List.getElem?_cons_zero]; rfl) (by kernel_rfl) (by kernel_rfl) (by kernel_rfl) (fun _ _ _ h => h) hHeld ?_ ?_
  rotate_left
  · intro w hSw
    go_simp
    try with_reducible rfl
  try simp only [Act.put, List.setIfInBounds_toArray, List.set_cons_zero, List.set_cons_succ]
  refine take_read (i := 6) (v := ?_) (by simp only [List.getElem?_toArray, List.getElem?_cons_succ, List.getElem?_cons_zero]; rfl) (by kernel_rfl) (by kernel_rfl) (by kernel_rfl) (fun _ _ _ h => h) hHeld ?_ ?_
  rotate_left
  · intro w hSw
    go_simp
    try with_reducible rfl
  try simp only [Act.put, List.setIfInBounds_toArray, List.set_cons_zero, List.set_cons_succ]
  refine take_read (i := 7) (v := ?_) (by simp only [List.getElem?_toArray, List.getElem?_cons_succ, List.getElem?_cons_zero]; rfl) (by kernel_rfl) (by kernel_rfl) (by kernel_rfl) (fun _ _ _ h => h) hHeld ?_ ?_
  rotate_left
  · intro w hSw
    go_simp
    try with_reducible rfl
  try simp only [Act.put, List.setIfInBounds_toArray, List.set_cons_zero, List.set_cons_succ]
  refine wpAnyH_done (by kernel_rfl) ?_ _
  refine NoPanic.normal ?_
  have X5 := Lib.hid (X3.out.frame H5.out)
  have C5 := Lib.hid (C3.out.then H5.out)
  go_wp2_with ((with_reducible refine Lay.ldL Tryz.tImg m (X5.out.in) ?_ ?_); exact rfl; refine Hid.out ?_)
  refine Lib.hid ?_
  go_wp2_with fail
  refine (make_0 m m1 _).mono ?_
  rintro e W6 ⟨⟨v, rfl, hb⟩, hc⟩
  obtain ⟨a6, c6, rfl, _, _⟩ := hb.rd.shape
  rw [mkB0_len] at hb ⊢
  replace hb : BB W6 W5.heap.size (.slice a6 41 c6) mkB0 := hb
  have C6 := Lib.hid (C5.out.then hc)
  have X6 := Lib.hid (X5.out.frame hc)
  have B6 := Lib.hid (hb.rd)
  clear hc hb
  go_upto_region 4 with fail
  refine wp_region_noPanic ?_
  refine wp_region_held_drew (S := fun w' => Chg [] W6 w') (by kernel_rfl) ((Chg.refl _ _).drew) (fun hHeld => ?_)
  refine take_read (i := 0) (v := ?_) (by simp only [List.getElem?_toArray, List.getElem?_cons_zero]; rfl) (by kernel_rfl) (by kernel_rfl) (by kernel_rfl) (fun _ _ _ h => h) hHeld ?_ ?_
  rotate_left
  · intro w hSw
    go_simp
    try with_reducible rfl
  try simp only [Act.put, List.setIfInBounds_toArray, List.set_cons_zero, List.set_cons_succ]
  refine take_read (i := 1) (v := ?_) (by simp only [List.getElem?_toArray, List.getElem?_cons_succ, List.getElem?_cons_zero]; rfl) (by kernel_rfl) (by kernel_rfl) (by kernel_rfl) (fun _ _ _ h => h) hHeld ?_ ?_
  rotate_left
  · intro w hSw
    go_simp
    try with_reducible rfl
  try simp only [Act.put, List.setIfInBounds_toArray, List.set_cons_zero, List.set_cons_succ]
  refine take_read (i := 2) (v := ?_) (by simp only [List.getElem?_toArray, List.getElem?_cons_succ, List.getElem?_cons_zero]; rfl) (by kernel_rfl) (by kernel_rfl) (by kernel_rfl) (fun _ _ _ h => h) hHeld ?_ ?_
  rotate_left
  · intro w hSw
    go_simp
    try with_reducible rfl
  try simp only [Act.put, List.setIfInBounds_toArray, List.set_cons_zero, List.set_cons_succ]
  refine take_read (i := 3) (v := ?_) (by simp only [List.getElem?_toArray, List.getElem?_cons_succ, List.getElem?_cons_zero]; rfl) (by kernel_rfl) (by kernel_rfl) (by kernel_rfl) (fun _ _ _ h => h) hHeld ?_ ?_
  rotate_left
  · intro w hSw
    go_simp
    try with_reducible rfl
  try simp only [Act.put, List.setIfInBounds_toArray, List.set_cons_zero, List.set_cons_succ]
  refine take_read (i := 4) (v := ?_) (by simp only [List.getElem?_toArray, List.getElem?_cons_succ, List.getElem?_cons_zero]; rfl) (by kernel_rfl) (by kernel_rfl) (by kernel_rfl) (fun _ _ _ h => h) hHeld ?_ ?_
  rotate_left
  · intro w hSw
    go_simp
    try with_reducible rfl
  try simp only [Act.put, List.setIfInBounds_toArray, List.set_cons_zero, List.set_cons_succ]
  refine take_read (i := 5) (v := ?_) (by simp only [List.getElem?_toArray, List.getElem?_cons_succ, List.getElem?_cons_zero]; rfl) (by kernel_rfl) (by kernel_rfl) (by kernel_rfl) (fun _ _ _ h => h) hHeld ?_ ?_
  rotate_left
  · intro w hSw
    go_simp
    try with_reducible rfl
  try simp only [Act.put, List.setIfInBounds_toArray, List.set_cons_zero, List.set_cons_succ]
  refine take_read (i := 6) (v := ?_) (by simp only [List.getElem?_toArray, List.getElem?_cons_succ, List.getElem?_cons_zero]; rfl) (by kernel_rfl) (by kernel_rfl) (by kernel_rfl) (fun _ _ _ h => h) hHeld ?_ ?_
  rotate_left
  · intro w hSw
    go_simp
    try with_reducible rfl
  try simp only [Act.put, List.setIfInBounds_toArray, List.set_cons_zero, List.set_cons_succ]
  refine take_read (i := 7) (v := ?_) (by simp only [List.getElem?_toArray, List.getElem?_cons_succ, List.getElem?_cons_zero]; rfl) (by kernel_rfl) (by kernel_rfl) (by kernel_rfl) (fun _ _ _ h => h) hHeld ?_ ?_
  rotate_left
  · intro w hSw
    go_simp
    try with_reducible rfl
  try simp only [Act.put, List.setIfInBounds_toArray, List.set_cons_zero, List.set_cons_succ]
  refine take_read (i := 8) (v := ?_) (by simp only [List.getElem?_toArray, List.getElem?_cons_succ, List.getElem?_cons_zero]; rfl) (by kernel_rfl) (by kernel_rfl) (by kernel_rfl) (fun _ _ _ h => h) hHeld ?_ ?_
  rotate_left
  · intro w hSw
    go_simp
    try with_reducible rfl
  try simp only [Act.put, List.setIfInBounds_toArray, List.set_cons_zero, List.set_cons_succ]
  refine take_read (i := 9) (v := ?_) (by simp only [List.getElem?_toArray, List.getElem?_cons_succ, List.getElem?_cons_zero]; rfl) (by kernel_rfl) (by kernel_rfl) (by kernel_rfl) (fun _ _ _ h => h) hHeld ?_ ?_
  rotate_left
  · intro w hSw
    go_simp
    try with_reducible rfl
  try simp only [Act.put, List.setIfInBounds_toArray, List.set_cons_zero, List.set_cons_succ]
  refine take_read (i := 10) (v := ?_) (by simp only [List.getElem?_toArray, List.getElem?_cons_succ, List.getElem?_cons_zero]; rfl) (by kernel_rfl) (by kernel_rfl) (by kernel_rfl) (fun _ _ _ h => h) hHeld ?_ ?_
  rotate_left
  · intro w hSw
    go_simp
    try with_reducible rfl
  try simp only [Act.put, List.setIfInBounds_toArray, List.set_cons_zero, List.set_cons_succ]
  refine take_read (i := 11) (v := ?_) (by simp only [List.getElem?_toArray, List.getElem?_cons_succ, List.getElem?_cons_zero]; rfl) (by kernel_rfl) (by kernel_rfl) (by kernel_rfl) (fun _ _ _ h => h) hHeld ?_ ?_
  rotate_left
  · intro w hSw
    go_simp
    try with_reducible rfl
  try simp only [Act.put, List.setIfInBounds_toArray, List.set_cons_zero, List.set_cons_succ]
  refine take_read (i := 12) (v := ?_) (by simp only [List.getElem?_toArray, List.getElem?_cons_succ, List.getElem?_cons_zero]; rfl) (by kernel_rfl) (by kernel_rfl) (by kernel_rfl) (fun _ _ _ h => h) hHeld ?_ ?_
  rotate_left
  · intro w hSw
    go_simp
    try with_reducible rfl
  try simp only [Act.put, List.setIfInBounds_toArray, List.set_cons_zero, List.set_cons_succ]
  refine take_read (i := 13) (v := ?_) (by simp only [List.getElem?_toArray, List.getElem?_cons_succ, List.getElem?_cons_zero]; rfl) (by kernel_rfl) (by kernel_rfl) (by kernel_rfl) (fun _ _ _ h => h) hHeld ?_ ?_
  rotate_left
  · intro w hSw
    go_simp
    try with_reducible rfl
  try simp only [Act.put, List.setIfInBounds_toArray, List.set_cons_zero, List.set_cons_succ]
  refine take_read (i := 14) (v := ?_) (by simp only [List.getElem?_toArray, List.getElem?_cons_succ, List.getElem?_cons_zero]; rfl) (by kernel_rfl) (by kernel_rfl) (by kernel_rfl) (fun _ _ _ h => h) hHeld ?_ ?_
  rotate_left
  · intro w hSw
    go_simp
    try with_reducible rfl
  try simp only [Act.put, List.setIfInBounds_toArray, List.set_cons_zero, List.set_cons_succ]
  refine take_read (i := 15) (v := ?_) (by simp only [List.getElem?_toArray, List.getElem?_cons_succ, List.getElem?_cons_zero]; rfl) (by kernel_rfl) (by kernel_rfl) (by kernel_rfl) (fun _ _ _ h => h) hHeld ?_ ?_
  rotate_left
  · intro w hSw
    go_simp
    try with_reducible rfl
  try simp only [Act.put, List.setIfInBounds_toArray, List.set_cons_zero, List.set_cons_succ]
  refine take_read (i := 16) (v := ?_) (by simp only [List.getElem?_toArray, List.getElem?_cons_succ, List.getElem?_cons_zero]; rfl) (by kernel_rfl) (by kernel_rfl) (by kernel_rfl) (fun _ _ _ h => h) hHeld ?_ ?_
  rotate_left
  · intro w hSw
    go_simp
    try with_reducible rfl
  try simp only [Act.put, List.setIfInBounds_toArray, List.set_cons_zero, List.set_cons_succ]
  refine take_read (i := 17) (v := ?_) (by simp only [List.getElem?_toArray, List.getElem?_cons_succ, List.getElem?_cons_zero]; rfl) (by kernel_rfl) (by kernel_rfl) (by kernel_rfl) (fun _ _ _ h => h) hHeld ?_ ?_
  rotate_left
  · intro w hSw
    go_simp
    try with_reducible rfl
  try simp only [Act.put, List.setIfInBounds_toArray, List.set_cons_zero, List.set_cons_succ]
  refine take_read (i := 18) (v := ?_) (by simp only [List.getElem?_toArray, List.getElem?_cons_succ, List.getElem?_cons_zero]; rfl) (by kernel_rfl) (by kernel_rfl) (by kernel_rfl) (fun _ _ _ h => h) hHeld ?_ ?_
  rotate_left
  · intro w hSw
    have hs1 := run_strB (B6.out.frame hSw)
    go_simp
    try with_reducible rfl
  try simp only [Act.put, List.setIfInBounds_toArray, List.set_cons_zero, List.set_cons_succ]
  refine take_read (i := 19) (v := ?_) (by simp only [List.getElem?_toArray, List.getElem?_cons_succ, List.getElem?_cons_zero]; rfl) (by kernel_rfl) (by kernel_rfl) (by kernel_rfl) (fun _ _ _ h => h) hHeld ?_ ?_
  rotate_left
  · intro w hSw
    refine Lay.read_ld Tryz.tImg ((X6.out.frame hSw).in) ?_ ?_
    exact rfl
    exact rfl
  try simp only [Act.put, List.setIfInBounds_toArray, List.set_cons_zero, List.set_cons_succ]
  refine wpAnyH_ready (rs := [20]) (by kernel_rfl) (by simp) ?_
  refine AllReadyH.cons rfl (fun K hK => ?_) AllReadyH.nil
  go_simp
  refine (empty_0 m m1 _).mono ?_
  rintro e W7 ⟨⟨v7, rfl, hb⟩, hc⟩
  obtain ⟨a7, c7, rfl, _, _⟩ := hb.rd.shape
  rw [mkB0_len] at hb ⊢
  replace hb : BB W7 W6.drew.heap.size (.slice a7 41 c7) mkB0 := hb
  have H7 : Hid (Chg [] W6 W7) := Lib.hid (hHeld.then hc)
  have B7 := Lib.hid (hb.rd)
  clear hc hb
  refine hK.out _ _ H7.out (fun hHeld2 => ?_)
  clear hK hHeld K
  refine wpAnyH_mono (S' := fun w' => Chg [] W7 w') (fun W h => H7.out.then h) _ _ _ _ ?_
  clear hHeld2
  have hHeld : Chg [] W7 W7 := Chg.refl _ _
  try (unfold Act.put; simp only [List.setIfInBounds_toArray, List.set_cons_zero, List.set_cons_succ])
  refine take_read (i := 21) (v := ?_) (by simp only [List.getElem?_toArray, List.getElem?_cons_succ, List.getElem?_cons_zero]; rfl) (by kernel_rfl) (by kernel_rfl) (by kernel_rfl) (fun _ _ _ h => h) hHeld ?_ ?_
  rotate_left
  · intro w hSw
    have hs2 := run_strB (B7.out.frame hSw)
    go_simp
    try with_reducible rfl
  try simp only [Act.put, List.setIfInBounds_toArray, List.set_cons_zero, List.set_cons_succ]
  refine take_read (i := 22) (v := ?_) (by simp only [List.getElem?_toArray, List.getElem?_cons_succ, List.getElem?_cons_zero]; rfl) (by kernel_rfl) (by kernel_rfl) (by kernel_rfl) (fun _ _ _ h => h) hHeld ?_ ?_
  rotate_left
  · intro w hSw
    go_simp
    try with_reducible rfl
  try simp only [Act.put, List.setIfInBounds_toArray, List.set_cons_zero, List.set_cons_succ]
  refine take_read (i := 23) (v := ?_) (by simp only [List.getElem?_toArray, List.getElem?_cons_succ, List.getElem?_cons_zero]; rfl) (by kernel_rfl) (by kernel_rfl) (by kernel_rfl) (fun _ _ _ h => h) hHeld ?_ ?_
  rotate_left
  · intro w hSw
    go_simp
    try with_reducible rfl
  try simp only [Act.put, List.setIfInBounds_toArray, List.set_cons_zero, List.set_cons_succ]
  refine take_read (i := 24) (v := ?_) (by simp only [List.getElem?_toArray, List.getElem?_cons_succ, List.getElem?_cons_zero]; rfl) (by kernel_rfl) (by kernel_rfl) (by kernel_rfl) (fun _ _ _ h => h) hHeld ?_ ?_
  rotate_left
  · intro w hSw
    go_simp
    try with_reducible rfl
  try simp only [Act.put, List.setIfInBounds_toArray, List.set_cons_zero, List.set_cons_succ]
  refine wpAnyH_ready (rs := [25]) (by kernel_rfl) (by simp) ?_
  refine AllReadyH.cons rfl (fun K hK => ?_) AllReadyH.nil
  go_simp
  refine (HK.out _).mono ?_
  rintro e W8 ⟨rfl, hc⟩
  have H8 : Hid (Chg [] W7 W8) := Lib.hid (hHeld.then hc)
  clear hc
  refine hK.out _ _ H8.out (fun hHeld2 => ?_)
  clear hK hHeld K
  have hHeld := hHeld2
  clear hHeld2
  try (unfold Act.put; simp only [List.setIfInBounds_toArray, List.set_cons_zero, List.set_cons_succ])
  refine take_read (i := 26) (v := ?_) (by simp only [List.getElem?_toArray, List.getElem?_cons_succ, List.getElem?_cons_zero]; rfl) (by kernel_rfl) (by kernel_rfl) (by kernel_rfl) (fun _ _ _ h => h) hHeld ?_ ?_
  rotate_left
  · intro w hSw
    go_simp
    try with_reducible rfl
  try simp only [Act.put, List.setIfInBounds_toArray, List.set_cons_zero, List.set_cons_succ]
  refine take_read (i := 27) (v := ?_) (by simp only [List.getElem?_toArray, List.getElem?_cons_succ, List.getElem?_cons_zero]; rfl) (by kernel_rfl) (by kernel_rfl) (by kernel_rfl) (fun _ _ _ h => h) hHeld ?_ ?_
  rotate_left
  · intro w hSw
    go_simp
    try with_reducible rfl
  try simp only [Act.put, List.setIfInBounds_toArray, List.set_cons_zero]
  refine wpAnyH_done (by kernel_rfl) ?_ _
  refine NoPanic.normal ?_
  go_wp2
  go_ret
  exact ⟨rfl, (C6.out.then H7.out).then H8.out⟩
end Go.Proofs.YtpnldfinobnpoaaGreatDoor
