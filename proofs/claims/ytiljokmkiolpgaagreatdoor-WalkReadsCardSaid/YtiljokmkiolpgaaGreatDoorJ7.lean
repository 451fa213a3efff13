/- Lemmas, laid together: part 7 of 42. Conditions: none but each lemma's own. -/
import Derived.Test.YtiljokmkiolpgaaGreatDoorJ6
import Derived.Test.YtiljokmkiolpgaaGreatDoorJ1
namespace Go.Proofs.YtiljokmkiolpgaaGreatDoor
open Go.RowKit
set_option maxRecDepth 100000
def linkS (low : Nat) (fmt : Int) (n : Nat) : Option Say :=
 if fmt = 12 then some (youngS low true 24 n) else if fmt = 6 then some (oldS low true 24 n) else if fmt = 2 then some (oldS low false 24 n) else if fmt = 1 then some (youngS low false 16 n) else none
def linkE (low : Nat) (fmt : Int) (n : Nat) (l : List Imp) : Int := match linkS low fmt n with | none => 2 | some s => fixN s l
def linkF (low : Nat) (fmt : Int) (n : Nat) (l : List Imp) : Fy := match linkS low fmt n with | none => .zero | some s => if fixN s l = 0 then fixF s l else .zero
def linkN (low : Nat) (fmt : Int) (n : Nat) (l : List Imp) : Int := match linkS low fmt n with | none => 0 | some s => if fixN s l = 0 then s.next else 0
theorem old_ok (low : Nat) (ab : Bool) (k n : Nat) (hk : k ≤ 63) : (oldS low ab k n).ok := by
 have h1 := bt_lt n 0 k
 have h2 := bt_lt n 0 36
 have h3 := bt_lt n 36 8
 have h4 : 2 ^ k ≤ 9223372036854775808 := (two_pow_le hk).2
 have h5 : (2 : Nat) ^ 36 = 68719476736 := by decide
 have h6 : (2 : Nat) ^ 8 = 256 := by decide
 unfold oldS Say.ok
 split
 ·simp only; omega
 ·simp only; split <;> omega
theorem young_ok (low : Nat) (ab : Bool) (k n : Nat) (hk : k ≤ 63) : (youngS low ab k n).ok := by
 have h1 := bt_lt n 0 k
 have h2 := bt_lt n 0 43
 have h3 := bt_lt n 43 8
 have h4 : 2 ^ k ≤ 9223372036854775808 := (two_pow_le hk).2
 have h5 : (2 : Nat) ^ 43 = 8796093022208 := by decide
 have h6 : (2 : Nat) ^ 8 = 256 := by decide
 unfold youngS Say.ok
 split
 ·simp only; omega
 ·split
  ·simp only; omega
  ·simp only; split <;> omega
theorem Tryz.tSay : Lay.Ty sayL Tryz.prog 96 := Lay.Ty.mk' (by kernel_rfl) (by kernel_rfl)
theorem Tryz.tFy : Lay.Ty fyL Tryz.prog 44 := Lay.Ty.mk' (by kernel_rfl) (by kernel_rfl)
set_option maxHeartbeats 2000000 in
theorem link_any (n : Nat) (hn : n < 18446744073709551616) (fmt : Int) (m : Img) (ls : List Seg) (low : Nat) (hlow : lowS ls = low) (l : List Imp) (v : Value) (w : World) (rd : segL.Rd w m.segs.v ls) (rdI : impL.Rd w v l) :
  Calls Tryz.prog 13 #[.int .u64 n, .int .i64 fmt, imgL.val m, v] w fun e w' => e = .returned (.tuple #[fyL.val (linkF low fmt n l), .int .i64 (linkN low fmt n l), .int .i64 (linkE low fmt n l)]) ∧ Chg [] w w' := by
 have HL := hY (reader_any fmt m ls)
 rw [hlow] at HL
 clear hlow
 have Rd := hY rd
 have RdI := hY rdI
 clear rd rdI
 have q1 := fun W => (Lay.run_eql_func (P := Tryz.prog) Tryz.underlying93 W).1
 have q2 := fun W => (Lay.run_eql_func (P := Tryz.prog) Tryz.underlying93 W).2.1
 cases hS : linkS low fmt n with
 | none =>
  have hv : readV low fmt = .nilFunc := by
   unfold linkS at hS
   unfold readV
   by_cases h1 : fmt = 12
   ·simp [h1] at hS
   by_cases h2 : fmt = 6
   ·simp [h2] at hS
   by_cases h3 : fmt = 2
   ·simp [h3] at hS
   by_cases h4 : fmt = 1
   ·simp [h4] at hS
   simp [h1, h2, h3, h4]
  have e1 : linkF low fmt n l = .zero := by simp [linkF, hS]
  have e2 : linkN low fmt n l = 0 := by simp [linkN, hS]
  have e3 : linkE low fmt n l = 2 := by simp [linkE, hS]
  rw [e1, e2, e3]
  rw [hv] at HL
  clear e1 e2 e3 hS hv
  go_enter Tryz.func13, Tryz.ntmps13
  go_wp2_with ((with_reducible refine Lay.bxQ (L := imgL) 32 m ?_ ?_); exact rfl)
  refine hY fun W1 bm ebm cbm xbm => ?_
  go_wp2_with (with_reducible refine Lay.alQ Tryz.tFy ?_)
  refine hY fun W2 br ebr cbr xbr => ?_
  go_wp2_with ((with_reducible refine Lay.ldQ Tryz.tImg m ((xbm.out.frame cbr.out).in) ?_ ?_); exact rfl)
  refine hY ?_
  go_wp2_with fail
  refine (HL.out _ ((Rd.out.frame cbm.out).frame cbr.out)).mono ?_
  rintro e W3 ⟨rfl, hc⟩
  have Hc := hY hc
  clear hc
  go_wp2_with ((with_reducible refine Lay.stQ Tryz.tFy Fy.zero (xbr.out.frame Hc.out) ?_ ?_ ?_); exact rfl; exact rfl)
  refine hY fun W4 cW4 xW4 => ?_
  go_wp2
  refine Lay.ret3 Tryz.tFy Tryz.results13 xW4.out rfl rfl ?_
  exact ⟨rfl, (((cbm.out.then cbr.out).then Hc.out).new cW4.out (by rw [ebr.out]; exact cbm.out.size))⟩
 | some s =>
  have hok : s.ok := by
   unfold linkS at hS
   (repeat' split at hS)
   ·cases hS; exact young_ok _ _ _ _ (by decide)
   ·cases hS; exact old_ok _ _ _ _ (by decide)
   ·cases hS; exact old_ok _ _ _ _ (by decide)
   ·cases hS; exact young_ok _ _ _ _ (by decide)
   ·cases hS
  have hv : ∃ F ab k, (F = 71 ∨ F = 72) ∧ readV low fmt = .func (.func F) #[Fmt.v ⟨low, ab, k⟩] #[] ∧ ∀ w, Calls Tryz.prog F #[Fmt.v ⟨low, ab, k⟩, .int .u64 n] w fun e w' => e = .returned s.v ∧ Chg [] w w' := by
   unfold linkS at hS
   unfold readV
   by_cases h1 : fmt = 12
   ·subst h1
    have hS' : youngS low true 24 n = s := by simpa using hS
    subst hS'
    exact ⟨71, true, 24, .inl rfl, by simp, young_any n hn low true 24 (by decide)⟩
   by_cases h2 : fmt = 6
   ·subst h2
    have hS' : oldS low true 24 n = s := by simpa using hS
    subst hS'
    exact ⟨72, true, 24, .inr rfl, by simp, old_any n hn low true 24 (by decide)⟩
   by_cases h3 : fmt = 2
   ·subst h3
    have hS' : oldS low false 24 n = s := by simpa using hS
    subst hS'
    exact ⟨72, false, 24, .inr rfl, by simp, old_any n hn low false 24 (by decide)⟩
   by_cases h4 : fmt = 1
   ·subst h4
    have hS' : youngS low false 16 n = s := by simpa using hS
    subst hS'
    exact ⟨71, false, 16, .inl rfl, by simp, young_any n hn low false 16 (by decide)⟩
   simp [h1, h2, h3, h4] at hS
  obtain ⟨F, ab, kk, hF, hv, hcall⟩ := hv
  rw [hv] at HL
  have e3 : linkE low fmt n l = fixN s l := by simp [linkE, hS]
  have e1 : linkF low fmt n l = if fixN s l = 0 then fixF s l else .zero := by simp [linkF, hS]
  have e2 : linkN low fmt n l = if fixN s l = 0 then s.next else 0 := by simp [linkN, hS]
  rw [e1, e2, e3]
  clear e1 e2 e3 hS hv
  have Hcall := hY hcall
  clear hcall
  have HFX : Hid (∀ w, impL.Rd w v l → Calls Tryz.prog 34 #[sayL.val s, v] w fun e w' => e = .returned (.tuple #[fyL.val (fixF s l), .int .i64 (fixN s l)]) ∧ Chg [] w w') := hY (fix_any s hok l v)
  clear hok
  generalize fixF s l = fx at *
  generalize fixN s l = N at *
  by_cases hN : N = 0
  ·subst hN
   rw [if_pos rfl, if_pos rfl]
   rcases hF with rfl | rfl
   ·go_enter Tryz.func13, Tryz.ntmps13
    go_wp2_with ((with_reducible refine Lay.bxQ (L := imgL) 32 m ?_ ?_); exact rfl)
    refine hY fun W1 bm ebm cbm xbm => ?_
    go_wp2_with (with_reducible refine Lay.alQ Tryz.tFy ?_)
    refine hY fun W2 br ebr cbr xbr => ?_
    go_wp2_with ((with_reducible refine Lay.ldQ Tryz.tImg m ((xbm.out.frame cbr.out).in) ?_ ?_); exact rfl)
    refine hY ?_
    go_wp2_with fail
    refine (HL.out _ ((Rd.out.frame cbm.out).frame cbr.out)).mono ?_
    rintro e W3 ⟨rfl, hc⟩
    have C3 := hY ((cbm.out.then cbr.out).then hc)
    have R3 := hY (xbr.out.frame hc)
    clear hc
    go_wp2_with fail
    refine (Hcall.out _).mono ?_
    rintro e W4 ⟨rfl, hc⟩
    have C4 := hY (C3.out.then hc)
    have R4 := hY (R3.out.frame hc)
    clear hc
    go_wp2_with (with_reducible refine Lay.alQ Tryz.tSay ?_)
    refine hY fun W5 bs ebs cbs xbs => ?_
    go_wp2_with ((with_reducible refine Lay.stQ Tryz.tSay s (xbs.out) ?_ ?_ ?_); exact rfl; exact rfl)
    refine hY fun W6 cW6 xW6 => ?_
    have C6 : Hid (Chg [] w W6) := hY ((C4.out.then cbs.out).new cW6.out (by rw [ebs.out]; exact C4.out.size))
    have R6 : Hid (fyL.Box W6 br fyL.d) := hY ((R4.out.frame cbs.out).frameS cW6.out (by have := R4.out.lt; have := ebs.out; simp; omega))
    go_wp2_with ((with_reducible refine Lay.ldQ Tryz.tSay s (xW6.out.in) ?_ ?_); exact rfl)
    refine hY ?_
    go_wp2_with fail
    refine (HFX.out _ (RdI.out.frame C6.out)).mono ?_
    rintro e W7 ⟨rfl, hc⟩
    have C7 := hY (C6.out.then hc)
    have R7 := hY (R6.out.frame hc)
    have S7 := hY (xW6.out.frame hc)
    clear hc
    go_wp2_with (with_reducible refine Lay.alQ Tryz.tFy ?_)
    refine hY fun W8 bf ebf cbf xbf => ?_
    go_wp2_with ((with_reducible refine Lay.stQ Tryz.tFy fx (xbf.out) ?_ ?_ ?_); exact rfl; exact rfl)
    refine hY fun W9 cW9 xW9 => ?_
    have C9 : Hid (Chg [] w W9) := hY ((C7.out.then cbf.out).new cW9.out (by rw [ebf.out]; exact C7.out.size))
    have R9 : Hid (fyL.Box W9 br fyL.d) := hY ((R7.out.frame cbf.out).frameS cW9.out (by have := R7.out.lt; have := ebf.out; simp; omega))
    have S9 : Hid (sayL.Box W9 bs s) := hY ((S7.out.frame cbf.out).frameS cW9.out (by have := S7.out.lt; have := ebf.out; simp; omega))
    have LB : Hid (w.heap.size ≤ br) := hY (by rw [ebr.out]; exact cbm.out.size)
    clear C3 R3 C4 C6 R6 C7 S7
    go_upto_region 8 with fail
    obtain ⟨x0, x1, x2, x3, x4, x5, x6⟩ := Fy.at0B xW9.out
    obtain ⟨y0, y1, y2, y3, y4, y5, y6⟩ := Fy.at0B R9.out
    have z0 := (R9.out).frozen 0
    have z1 := (R9.out).frozen 1
    have z2 := (R9.out).frozen 2
    have z3 := (R9.out).frozen 3
    have z4 := (R9.out).frozen 4
    have z5 := (R9.out).frozen 5
    have z6 := (R9.out).frozen 6
    obtain ⟨_, _, _, _, _, s5⟩ := Say.at0B S9.out
    have N1 : Hid (bf ≠ br) := hY (by have := (R7.out.frame cbf.out).lt; have := ebf.out; have := R7.out.lt; omega)
    have N2 : Hid (bs ≠ br) := hY (by have := xbs.out.lt; have := ebs.out; have := R4.out.lt; omega)
    refine wp_region_noPanic ?_
    refine wp_region_held_drew (S := fun w' => Chg [br] W9 w') (by kernel_rfl) (Chg.refl _ _).drew (fun hHeld => ?_)
    refine tkr 0 ?_ hHeld ?_ ?_
    rotate_left
    ·intro w hSw
     have x0 := hSw.cell x0 (by simp; exact N1.out); have x1 := hSw.cell x1 (by simp; exact N1.out); have x2 := hSw.cell x2 (by simp; exact N1.out); have x3 := hSw.cell x3 (by simp; exact N1.out); have x4 := hSw.cell x4 (by simp; exact N1.out); have x5 := hSw.cell x5 (by simp; exact N1.out); have x6 := hSw.cell x6 (by simp; exact N1.out)
     go_simp
     try with_reducible rfl
    try simp only [Act.put, aS, aZ, aC]
    refine tkr 1 ?_ hHeld ?_ ?_
    rotate_left
    ·intro w hSw
     go_simp
     try with_reducible rfl
    try simp only [Act.put, aS, aZ, aC]
    refine tkr 2 ?_ hHeld ?_ ?_
    rotate_left
    ·intro w hSw
     have s5 := hSw.cell s5 (by simp; exact N2.out)
     go_simp
     try with_reducible rfl
    try simp only [Act.put, aS, aZ, aC]
    refine wpAnyH_ready (rs := [3]) (by kernel_rfl) (by simp) ?_
    refine AllReadyH.cons rfl (fun K hK => ?_) AllReadyH.nil
    go_simp
    refine hK.out _ _ (Chg.drew (Fy.chg0 W9 br fx)) ?_
    clear hK hHeld K
    intro hHeld
    try (unfold Act.put; simp only [aS, aZ, aC])
    refine tkr 4 ?_ hHeld ?_ ?_
    rotate_left
    ·intro w hSw
     go_simp
     try with_reducible rfl
    try simp only [Act.put, aS, aZ, aC]
    refine tkr 5 ?_ hHeld ?_ ?_
    rotate_left
    ·intro w hSw
     go_simp
     try with_reducible rfl
    try simp only [Act.put, aS, aZ, aC]
    refine wpAnyH_done (by kernel_rfl) ?_ _
    refine NoPanic.normal ?_
    go_wp2
    refine Lay.with_post (fun W => fyL.Box W br fx ∧ Chg [br] W9 W) ⟨Lay.Box.drew (Fy.put0 (g := br) R9.out fx), Chg.drew (Fy.chg0 W9 br fx)⟩ (fun W hW => ?_)
    refine Lay.ret3 Tryz.tFy Tryz.results13 hW.1 rfl rfl ?_
    exact ⟨rfl, C9.out.new hW.2 LB.out⟩
   ·go_enter Tryz.func13, Tryz.ntmps13
    go_wp2_with ((with_reducible refine Lay.bxQ (L := imgL) 32 m ?_ ?_); exact rfl)
    refine hY fun W1 bm ebm cbm xbm => ?_
    go_wp2_with (with_reducible refine Lay.alQ Tryz.tFy ?_)
    refine hY fun W2 br ebr cbr xbr => ?_
    go_wp2_with ((with_reducible refine Lay.ldQ Tryz.tImg m ((xbm.out.frame cbr.out).in) ?_ ?_); exact rfl)
    refine hY ?_
    go_wp2_with fail
    refine (HL.out _ ((Rd.out.frame cbm.out).frame cbr.out)).mono ?_
    rintro e W3 ⟨rfl, hc⟩
    have C3 := hY ((cbm.out.then cbr.out).then hc)
    have R3 := hY (xbr.out.frame hc)
    clear hc
    go_wp2_with fail
    refine (Hcall.out _).mono ?_
    rintro e W4 ⟨rfl, hc⟩
    have C4 := hY (C3.out.then hc)
    have R4 := hY (R3.out.frame hc)
    clear hc
    go_wp2_with (with_reducible refine Lay.alQ Tryz.tSay ?_)
    refine hY fun W5 bs ebs cbs xbs => ?_
    go_wp2_with ((with_reducible refine Lay.stQ Tryz.tSay s (xbs.out) ?_ ?_ ?_); exact rfl; exact rfl)
    refine hY fun W6 cW6 xW6 => ?_
    have C6 : Hid (Chg [] w W6) := hY ((C4.out.then cbs.out).new cW6.out (by rw [ebs.out]; exact C4.out.size))
    have R6 : Hid (fyL.Box W6 br fyL.d) := hY ((R4.out.frame cbs.out).frameS cW6.out (by have := R4.out.lt; have := ebs.out; simp; omega))
    go_wp2_with ((with_reducible refine Lay.ldQ Tryz.tSay s (xW6.out.in) ?_ ?_); exact rfl)
    refine hY ?_
    go_wp2_with fail
    refine (HFX.out _ (RdI.out.frame C6.out)).mono ?_
    rintro e W7 ⟨rfl, hc⟩
    have C7 := hY (C6.out.then hc)
    have R7 := hY (R6.out.frame hc)
    have S7 := hY (xW6.out.frame hc)
    clear hc
    go_wp2_with (with_reducible refine Lay.alQ Tryz.tFy ?_)
    refine hY fun W8 bf ebf cbf xbf => ?_
    go_wp2_with ((with_reducible refine Lay.stQ Tryz.tFy fx (xbf.out) ?_ ?_ ?_); exact rfl; exact rfl)
    refine hY fun W9 cW9 xW9 => ?_
    have C9 : Hid (Chg [] w W9) := hY ((C7.out.then cbf.out).new cW9.out (by rw [ebf.out]; exact C7.out.size))
    have R9 : Hid (fyL.Box W9 br fyL.d) := hY ((R7.out.frame cbf.out).frameS cW9.out (by have := R7.out.lt; have := ebf.out; simp; omega))
    have S9 : Hid (sayL.Box W9 bs s) := hY ((S7.out.frame cbf.out).frameS cW9.out (by have := S7.out.lt; have := ebf.out; simp; omega))
    have LB : Hid (w.heap.size ≤ br) := hY (by rw [ebr.out]; exact cbm.out.size)
    clear C3 R3 C4 C6 R6 C7 S7
    go_upto_region 8 with fail
    obtain ⟨x0, x1, x2, x3, x4, x5, x6⟩ := Fy.at0B xW9.out
    obtain ⟨y0, y1, y2, y3, y4, y5, y6⟩ := Fy.at0B R9.out
    have z0 := (R9.out).frozen 0
    have z1 := (R9.out).frozen 1
    have z2 := (R9.out).frozen 2
    have z3 := (R9.out).frozen 3
    have z4 := (R9.out).frozen 4
    have z5 := (R9.out).frozen 5
    have z6 := (R9.out).frozen 6
    obtain ⟨_, _, _, _, _, s5⟩ := Say.at0B S9.out
    have N1 : Hid (bf ≠ br) := hY (by have := (R7.out.frame cbf.out).lt; have := ebf.out; have := R7.out.lt; omega)
    have N2 : Hid (bs ≠ br) := hY (by have := xbs.out.lt; have := ebs.out; have := R4.out.lt; omega)
    refine wp_region_noPanic ?_
    refine wp_region_held_drew (S := fun w' => Chg [br] W9 w') (by kernel_rfl) (Chg.refl _ _).drew (fun hHeld => ?_)
    refine tkr 0 ?_ hHeld ?_ ?_
    rotate_left
    ·intro w hSw
     have x0 := hSw.cell x0 (by simp; exact N1.out); have x1 := hSw.cell x1 (by simp; exact N1.out); have x2 := hSw.cell x2 (by simp; exact N1.out); have x3 := hSw.cell x3 (by simp; exact N1.out); have x4 := hSw.cell x4 (by simp; exact N1.out); have x5 := hSw.cell x5 (by simp; exact N1.out); have x6 := hSw.cell x6 (by simp; exact N1.out)
     go_simp
     try with_reducible rfl
    try simp only [Act.put, aS, aZ, aC]
    refine tkr 1 ?_ hHeld ?_ ?_
    rotate_left
    ·intro w hSw
     go_simp
     try with_reducible rfl
    try simp only [Act.put, aS, aZ, aC]
    refine tkr 2 ?_ hHeld ?_ ?_
    rotate_left
    ·intro w hSw
     have s5 := hSw.cell s5 (by simp; exact N2.out)
     go_simp
     try with_reducible rfl
    try simp only [Act.put, aS, aZ, aC]
    refine wpAnyH_ready (rs := [3]) (by kernel_rfl) (by simp) ?_
    refine AllReadyH.cons rfl (fun K hK => ?_) AllReadyH.nil
    go_simp
    refine hK.out _ _ (Chg.drew (Fy.chg0 W9 br fx)) ?_
    clear hK hHeld K
    intro hHeld
    try (unfold Act.put; simp only [aS, aZ, aC])
    refine tkr 4 ?_ hHeld ?_ ?_
    rotate_left
    ·intro w hSw
     go_simp
     try with_reducible rfl
    try simp only [Act.put, aS, aZ, aC]
    refine tkr 5 ?_ hHeld ?_ ?_
    rotate_left
    ·intro w hSw
     go_simp
     try with_reducible rfl
    try simp only [Act.put, aS, aZ, aC]
    refine wpAnyH_done (by kernel_rfl) ?_ _
    refine NoPanic.normal ?_
    go_wp2
    refine Lay.with_post (fun W => fyL.Box W br fx ∧ Chg [br] W9 W) ⟨Lay.Box.drew (Fy.put0 (g := br) R9.out fx), Chg.drew (Fy.chg0 W9 br fx)⟩ (fun W hW => ?_)
    refine Lay.ret3 Tryz.tFy Tryz.results13 hW.1 rfl rfl ?_
    exact ⟨rfl, C9.out.new hW.2 LB.out⟩
  ·have dN : (N == 0) = false := by simpa using hN
   have dN2 : (N != 0) = true := by simpa using hN
   rw [if_neg hN, if_neg hN]
   clear hN
   rcases hF with rfl | rfl
   ·go_enter Tryz.func13, Tryz.ntmps13
    go_wp2_with ((with_reducible refine Lay.bxQ (L := imgL) 32 m ?_ ?_); exact rfl)
    refine hY fun W1 bm ebm cbm xbm => ?_
    go_wp2_with (with_reducible refine Lay.alQ Tryz.tFy ?_)
    refine hY fun W2 br ebr cbr xbr => ?_
    go_wp2_with ((with_reducible refine Lay.ldQ Tryz.tImg m ((xbm.out.frame cbr.out).in) ?_ ?_); exact rfl)
    refine hY ?_
    go_wp2_with fail
    refine (HL.out _ ((Rd.out.frame cbm.out).frame cbr.out)).mono ?_
    rintro e W3 ⟨rfl, hc⟩
    have C3 := hY ((cbm.out.then cbr.out).then hc)
    have R3 := hY (xbr.out.frame hc)
    clear hc
    go_wp2_with fail
    refine (Hcall.out _).mono ?_
    rintro e W4 ⟨rfl, hc⟩
    have C4 := hY (C3.out.then hc)
    have R4 := hY (R3.out.frame hc)
    clear hc
    go_wp2_with (with_reducible refine Lay.alQ Tryz.tSay ?_)
    refine hY fun W5 bs ebs cbs xbs => ?_
    go_wp2_with ((with_reducible refine Lay.stQ Tryz.tSay s (xbs.out) ?_ ?_ ?_); exact rfl; exact rfl)
    refine hY fun W6 cW6 xW6 => ?_
    have C6 : Hid (Chg [] w W6) := hY ((C4.out.then cbs.out).new cW6.out (by rw [ebs.out]; exact C4.out.size))
    have R6 : Hid (fyL.Box W6 br fyL.d) := hY ((R4.out.frame cbs.out).frameS cW6.out (by have := R4.out.lt; have := ebs.out; simp; omega))
    go_wp2_with ((with_reducible refine Lay.ldQ Tryz.tSay s (xW6.out.in) ?_ ?_); exact rfl)
    refine hY ?_
    go_wp2_with fail
    refine (HFX.out _ (RdI.out.frame C6.out)).mono ?_
    rintro e W7 ⟨rfl, hc⟩
    have C7 := hY (C6.out.then hc)
    have R7 := hY (R6.out.frame hc)
    have S7 := hY (xW6.out.frame hc)
    clear hc
    go_wp2_with (with_reducible refine Lay.alQ Tryz.tFy ?_)
    refine hY fun W8 bf ebf cbf xbf => ?_
    go_wp2_with ((with_reducible refine Lay.stQ Tryz.tFy fx (xbf.out) ?_ ?_ ?_); exact rfl; exact rfl)
    refine hY fun W9 cW9 xW9 => ?_
    have C9 : Hid (Chg [] w W9) := hY ((C7.out.then cbf.out).new cW9.out (by rw [ebf.out]; exact C7.out.size))
    have R9 : Hid (fyL.Box W9 br fyL.d) := hY ((R7.out.frame cbf.out).frameS cW9.out (by have := R7.out.lt; have := ebf.out; simp; omega))
    have S9 : Hid (sayL.Box W9 bs s) := hY ((S7.out.frame cbf.out).frameS cW9.out (by have := S7.out.lt; have := ebf.out; simp; omega))
    have LB : Hid (w.heap.size ≤ br) := hY (by rw [ebr.out]; exact cbm.out.size)
    clear C3 R3 C4 C6 R6 C7 S7
    go_wp2_with ((with_reducible refine Lay.stQ Tryz.tFy Fy.zero (R9.out) ?_ ?_ ?_); exact rfl; exact rfl)
    refine hY fun W10 cW10 xW10 => ?_
    go_wp2
    refine Lay.ret3 Tryz.tFy Tryz.results13 xW10.out rfl rfl ?_
    exact ⟨rfl, C9.out.new cW10.out LB.out⟩
   ·go_enter Tryz.func13, Tryz.ntmps13
    go_wp2_with ((with_reducible refine Lay.bxQ (L := imgL) 32 m ?_ ?_); exact rfl)
    refine hY fun W1 bm ebm cbm xbm => ?_
    go_wp2_with (with_reducible refine Lay.alQ Tryz.tFy ?_)
    refine hY fun W2 br ebr cbr xbr => ?_
    go_wp2_with ((with_reducible refine Lay.ldQ Tryz.tImg m ((xbm.out.frame cbr.out).in) ?_ ?_); exact rfl)
    refine hY ?_
    go_wp2_with fail
    refine (HL.out _ ((Rd.out.frame cbm.out).frame cbr.out)).mono ?_
    rintro e W3 ⟨rfl, hc⟩
    have C3 := hY ((cbm.out.then cbr.out).then hc)
    have R3 := hY (xbr.out.frame hc)
    clear hc
    go_wp2_with fail
    refine (Hcall.out _).mono ?_
    rintro e W4 ⟨rfl, hc⟩
    have C4 := hY (C3.out.then hc)
    have R4 := hY (R3.out.frame hc)
    clear hc
    go_wp2_with (with_reducible refine Lay.alQ Tryz.tSay ?_)
    refine hY fun W5 bs ebs cbs xbs => ?_
    go_wp2_with ((with_reducible refine Lay.stQ Tryz.tSay s (xbs.out) ?_ ?_ ?_); exact rfl; exact rfl)
    refine hY fun W6 cW6 xW6 => ?_
    have C6 : Hid (Chg [] w W6) := hY ((C4.out.then cbs.out).new cW6.out (by rw [ebs.out]; exact C4.out.size))
    have R6 : Hid (fyL.Box W6 br fyL.d) := hY ((R4.out.frame cbs.out).frameS cW6.out (by have := R4.out.lt; have := ebs.out; simp; omega))
    go_wp2_with ((with_reducible refine Lay.ldQ Tryz.tSay s (xW6.out.in) ?_ ?_); exact rfl)
    refine hY ?_
    go_wp2_with fail
    refine (HFX.out _ (RdI.out.frame C6.out)).mono ?_
    rintro e W7 ⟨rfl, hc⟩
    have C7 := hY (C6.out.then hc)
    have R7 := hY (R6.out.frame hc)
    have S7 := hY (xW6.out.frame hc)
    clear hc
    go_wp2_with (with_reducible refine Lay.alQ Tryz.tFy ?_)
    refine hY fun W8 bf ebf cbf xbf => ?_
    go_wp2_with ((with_reducible refine Lay.stQ Tryz.tFy fx (xbf.out) ?_ ?_ ?_); exact rfl; exact rfl)
    refine hY fun W9 cW9 xW9 => ?_
    have C9 : Hid (Chg [] w W9) := hY ((C7.out.then cbf.out).new cW9.out (by rw [ebf.out]; exact C7.out.size))
    have R9 : Hid (fyL.Box W9 br fyL.d) := hY ((R7.out.frame cbf.out).frameS cW9.out (by have := R7.out.lt; have := ebf.out; simp; omega))
    have S9 : Hid (sayL.Box W9 bs s) := hY ((S7.out.frame cbf.out).frameS cW9.out (by have := S7.out.lt; have := ebf.out; simp; omega))
    have LB : Hid (w.heap.size ≤ br) := hY (by rw [ebr.out]; exact cbm.out.size)
    clear C3 R3 C4 C6 R6 C7 S7
    go_wp2_with ((with_reducible refine Lay.stQ Tryz.tFy Fy.zero (R9.out) ?_ ?_ ?_); exact rfl; exact rfl)
    refine hY fun W10 cW10 xW10 => ?_
    go_wp2
    refine Lay.ret3 Tryz.tFy Tryz.results13 xW10.out rfl rfl ?_
    exact ⟨rfl, C9.out.new cW10.out LB.out⟩
end Go.Proofs.YtiljokmkiolpgaaGreatDoor
