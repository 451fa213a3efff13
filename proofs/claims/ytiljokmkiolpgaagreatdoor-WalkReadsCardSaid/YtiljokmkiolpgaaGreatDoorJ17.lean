/- Lemmas, laid together: part 17 of 42. Conditions: none but each lemma's own. -/
import Derived.Test.YtiljokmkiolpgaaGreatDoorJ16
import Derived.Test.YtiljokmkiolpgaaGreatDoorJ1
namespace Go.Proofs.YtiljokmkiolpgaaGreatDoor
open Go.RowKit
set_option maxRecDepth 100000
def ChP (w : World) (r : ChR (List StP × List Imp)) (e : Ending) (w' : World) : Prop :=
 Chg [] w w' ∧ match r with
 | .ok p => ∃ c : Chn, e = .returned (.tuple #[chnL.val c, .int .i64 0]) ∧ ChnOwn w' w.heap.size c p
 | .bad n => e = .returned (.tuple #[chnL.val .zero, .int .i64 n])
theorem chP_bad {w : World} {R : ChR (List StP × List Imp)} {n : Int} {w' : World} (hR : R = .bad n) (h : Chg [] w w') : ChP w R (.returned (.tuple #[chnL.val .zero, .int .i64 n])) w' := by rw [hR]; exact ⟨h, rfl⟩
set_option maxHeartbeats 4000000 in
theorem cread_short (B : List UInt8) (h : B.length < 28) (R : ChR (List StP × List Imp)) (hR : R = .bad 3) (m : Img) (v : Value) (w : World) (rd : byteL.Rd w v B) :
  Calls Tryz.prog 17 #[v, imgL.val m] w (ChP w R) := by
 obtain ⟨a, cap, rfl, hc1, hc2⟩ := rd.shape
 have hmf : ∀ (fn : Fn) (first cap : Array Value) (w : World), (Instr.makeFunc fn first cap).run Tryz.prog w = .ok (.func fn first cap) w := fun _ _ _ _ => rfl
 have HNW : Hid (∀ W, Chg [] w W → Calls Tryz.prog 41 #[.slice a B.length cap, .bool false] W fun e w' => ∃ b, e = .returned (.pointer (some ⟨b, 0, none⟩)) ∧ W.heap.size ≤ b ∧ CurB w' b (cs B 0) ∧ Chg [] W w') := hY (fun W h => New_cur _ B false W (Rd_of_byte (rd.frame h)) (by omega))
 generalize hL : B.length = L at *
 have HL := hY hL
 have Rd := hY rd
 have HB := hY hR
 clear hL rd hR
 go_enter_defers Tryz.func17, Tryz.ntmps17
 go_wp2_with ((with_reducible refine Lay.bxQ (L := imgL) 32 m ?_ ?_); exact rfl)
 refine hY fun W1 bm ebm cbm xbm => ?_
 go_wp2_with (with_reducible refine Lay.alQ Tryz.tChn ?_)
 refine hY fun W2 bc ebc cbc xbc => ?_
 go_upto_region 1 with fail
 obtain ⟨be, hbe⟩ : ∃ x, x = W2.heap.size := ⟨_, rfl⟩
 rw [← hbe]
 refine Lay.with_world (fun W => RS w W.heap.size bm bc be m .zero W) ⟨(xbm.out.frame cbc.out).alloc _, xbc.out.alloc _, by rw [hbe]; exact heap_alloc_eq _ _, (cbm.out.then cbc.out).alloc _, ?_⟩ (fun W hW => ?_)
 ·have h1 := ebm.out
  have h2 := ebc.out
  have h3 := cbm.out.size
  have h4 := xbc.out.lt
  have h5 := (xbm.out.frame cbc.out).lt
  have h6 := xbm.out.lt
  have e9 : (W2.alloc (.cells #[.int .i64 0] 36)).heap.size = W2.heap.size + 1 := by simp
  rw [e9]
  omega
 have R0 := hY (hW)
 clear hW hbe ebm cbm xbm ebc cbc xbc
 go_wp2_with fail
 refine (HNW.out _ R0.out.cg).mono ?_
 rintro e W3 ⟨c, rfl, hcb, hcu, hch⟩
 have R3 := hY (R0.out.pure hch)
 have C3 := hY (hcu)
 have hc0 : W.heap.size ≤ c := hcb
 clear hcu hch hcb
 have d28 : decide ((28 : Int) ≤ (L : Int)) = false := by simp; omega
 go_wp2_with fail
 refine (needC_bad 3 _).mono ?_
 rintro e W4 ⟨rfl, rfl⟩
 unfold stopE
 have y0 : W4.cell? ⟨be, 0, none⟩ = some (.int .i64 0) := cell_of_heap R3.out.er 0
 have z0 : W4.frozen? ⟨be, 0, none⟩ = false := frozen_of_heap R3.out.er 0
 refine leaves_cons (f := 43) (args := #[.pointer (some ⟨be, 0, none⟩)]) (by simp) (by simp [go_sem]) ?_
 refine (caught_stop ⟨be, 0, none⟩ _ 3 _ y0 z0).mono ?_
 rintro e u' w'' ⟨rfl, rfl, rfl⟩
 obtain ⟨WZ, hWZ⟩ : ∃ x, x = (W4.alloc (.cells #[.int .i64 3] 161)).setCell ⟨be, 0, none⟩ (.int .i64 3) := ⟨_, rfl⟩
 rw [← hWZ]
 have hl3 := R3.out.lt
 have hbe : Chg [be] W4 WZ := by rw [hWZ]; exact ((Chg.refl _ _).alloc _).setCell _ _ (.inl (by simp))
 have hct : Chg [] w WZ := R3.out.cg.trans hbe (fun i hi hw => by simp at hi; omega)
 have w0 : WZ.cell? ⟨be, 0, none⟩ = some (.int .i64 3) := by
  rw [hWZ]
  exact World.cell?_setCell_same _ _ _ (by rw [World.cell?_alloc_lt _ _ _ (World.block_lt_of_cell? _ _ y0)]; exact y0)
 have hbx := R3.out.ch.frameS hbe (by simp; omega)
 clear hWZ hbe
 refine leaves_cons (f := 42) (args := #[.pointer (some ⟨be, 0, none⟩), .pointer (some ⟨bc, 0, none⟩)]) (by simp [settle]) (by simp [go_sem]) ?_
 refine (clos_bad ⟨be, 0, none⟩ bc _ 3 (by decide) _ _ w0 hbx).mono ?_
 rintro e u' w'' ⟨rfl, rfl, hb2, hg2⟩
 have w1 : w''.cell? ⟨be, 0, none⟩ = some (.int .i64 3) := hg2.cell w0 (by simp; omega)
 have h2 : (loadVar 54 ⟨bc, 0, none⟩).run Tryz.prog w'' = .ok (chnL.val .zero) w'' := Lay.run_load_rec Tryz.tChn hb2.in
 simp only [settle]
 refine ⟨.tuple #[chnL.val .zero, .int .i64 3], ?_, chP_bad HB.out (hct.trans hg2 (fun i hi hw => by simp at hi; omega))⟩
 exact results2 Tryz.results17 rfl rfl h2 (load_errC w1)
set_option maxHeartbeats 4000000 in
theorem cread_15 (B : List UInt8) (hl1 : 28 ≤ B.length) (hl2 : B.length ≤ 2147483647) (hz : ¬ (WN B 0 4 = 0 ∧ WN B 24 4 = 0)) (R : ChR (List StP × List Imp)) (hR : R = .bad 15) (m : Img) (v : Value) (w : World) (rd : byteL.Rd w v B) :
  Calls Tryz.prog 17 #[v, imgL.val m] w (ChP w R) := by
 obtain ⟨a, cap, rfl, hc1, hc2⟩ := rd.shape
 have hmf : ∀ (fn : Fn) (first cap : Array Value) (w : World), (Instr.makeFunc fn first cap).run Tryz.prog w = .ok (.func fn first cap) w := fun _ _ _ _ => rfl
 have HNW : Hid (∀ W, Chg [] w W → Calls Tryz.prog 41 #[.slice a B.length cap, .bool false] W fun e w' => ∃ b, e = .returned (.pointer (some ⟨b, 0, none⟩)) ∧ W.heap.size ≤ b ∧ CurB w' b (cs B 0) ∧ Chg [] W w') := hY (fun W h => New_cur _ B false W (Rd_of_byte (rd.frame h)) (by omega))
 have HNV : Hid (∀ w (b p : Nat), p + 4 ≤ B.length → CurB w b (cs B p) → Calls Tryz.prog 45 #[.pointer (some ⟨b, 0, none⟩), .int .i64 4] w fun e w' => e = .returned (.int .u64 (WN B p 4)) ∧ CurB w' b (cs B (p + 4)) ∧ Chg [b] w w') := by
  refine hY ?_
  intro w b p hp hc
  have := Number_cur b (cs B p) 4 w hc
  rw [show ((4 : Int)) = ((4 : Nat) : Int) from rfl, numV (by decide) hp, numS (by decide) hp] at this
  exact this
 have q1 := fun W => (Lay.run_eql_func (P := Tryz.prog) Tryz.underlying115 W).2.2.2
 have q0 := fun W => (Lay.run_eql_func (P := Tryz.prog) Tryz.underlying115 W).2.2.1
 obtain ⟨n0, hw0⟩ : ∃ n, WN B 0 4 = n := ⟨_, rfl⟩
 obtain ⟨at_, hw1⟩ : ∃ n, WN B 4 4 = n := ⟨_, rfl⟩
 obtain ⟨ims, hw2⟩ : ∃ n, WN B 8 4 = n := ⟨_, rfl⟩
 obtain ⟨nms, hw3⟩ : ∃ n, WN B 12 4 = n := ⟨_, rfl⟩
 obtain ⟨N, hw4⟩ : ∃ n, WN B 16 4 = n := ⟨_, rfl⟩
 obtain ⟨n5, hw5⟩ : ∃ n, WN B 20 4 = n := ⟨_, rfl⟩
 obtain ⟨n6, hw6⟩ : ∃ n, WN B 24 4 = n := ⟨_, rfl⟩
 obtain ⟨fv, hfv⟩ : ∃ fv, (rdF (n5 : Int)).getD .nilFunc = fv := ⟨_, rfl⟩
 rw [hw0, hw6] at hz
 have hz0 : decide (n0 = 0) = false ∨ (n0 = 0 ∧ n6 ≠ 0) := by
  by_cases h : n0 = 0
  ·exact .inr ⟨h, fun e => hz ⟨h, e⟩⟩
  ·exact .inl (decide_eq_false h)
 generalize hL : B.length = L at *
 have HL := hY hL
 have Rd := hY rd
 have HB := hY hR
 have HW0 := hY hw0
 have HW1 := hY hw1
 have HW2 := hY hw2
 have HW3 := hY hw3
 have HW4 := hY hw4
 have HW5 := hY hw5
 have HW6 := hY hw6
 have HFV := hY hfv
 have Hz := hY hz
 clear hL rd hR hw0 hw1 hw2 hw3 hw4 hw5 hw6 hfv hz
 rcases hz0 with hz0 | ⟨hz0, hz6⟩
 ·have d0 : ((n0 : Int) == 0) = false := by rw [beq_eq_false_iff_ne]; have := of_decide_eq_false hz0; omega
  have Hz0 := hY hz0
  clear hz0
  go_enter_defers Tryz.func17, Tryz.ntmps17
  go_wp2_with ((with_reducible refine Lay.bxQ (L := imgL) 32 m ?_ ?_); exact rfl)
  refine hY fun W1 bm ebm cbm xbm => ?_
  go_wp2_with (with_reducible refine Lay.alQ Tryz.tChn ?_)
  refine hY fun W2 bc ebc cbc xbc => ?_
  go_upto_region 1 with fail
  obtain ⟨be, hbe⟩ : ∃ x, x = W2.heap.size := ⟨_, rfl⟩
  rw [← hbe]
  refine Lay.with_world (fun W => RS w W.heap.size bm bc be m .zero W) ⟨(xbm.out.frame cbc.out).alloc _, xbc.out.alloc _, by rw [hbe]; exact heap_alloc_eq _ _, (cbm.out.then cbc.out).alloc _, ?_⟩ (fun W hW => ?_)
  ·have h1 := ebm.out
   have h2 := ebc.out
   have h3 := cbm.out.size
   have h4 := xbc.out.lt
   have h5 := (xbm.out.frame cbc.out).lt
   have h6 := xbm.out.lt
   have e9 : (W2.alloc (.cells #[.int .i64 0] 36)).heap.size = W2.heap.size + 1 := by simp
   rw [e9]
   omega
  have R0 := hY (hW)
  clear hW hbe ebm cbm xbm ebc cbc xbc
  go_wp2_with fail
  refine (HNW.out _ R0.out.cg).mono ?_
  rintro e W3 ⟨c, rfl, hcb, hcu, hch⟩
  have R3 := hY (R0.out.pure hch)
  have C3 := hY (hcu)
  have hc0 : W.heap.size ≤ c := hcb
  clear hcu hch hcb
  have d28 : decide ((28 : Int) ≤ (L : Int)) = true := by simp; omega
  go_wp2_with fail
  refine (needC_ok 3 _).mono ?_
  rintro e W4 ⟨rfl, rfl⟩
  go_wp2_with fail
  refine (HNV.out _ c 0 (by omega) C3.out).mono ?_
  rintro e W5 ⟨rfl, hc, hg⟩
  rw [HW0.out]
  have C5 := hY (hc)
  have R5 := hY (R3.out.one hg hc0)
  clear hc hg
  go_wp2_with fail
  refine (HNV.out _ c 4 (by omega) C5.out).mono ?_
  rintro e W6 ⟨rfl, hc, hg⟩
  rw [HW1.out]
  have C6 := hY (hc)
  have R6 := hY (R5.out.one hg hc0)
  clear hc hg
  go_wp2_with fail
  refine (HNV.out _ c 8 (by omega) C6.out).mono ?_
  rintro e W7 ⟨rfl, hc, hg⟩
  rw [HW2.out]
  have C7 := hY (hc)
  have R7 := hY (R6.out.one hg hc0)
  clear hc hg
  go_wp2_with fail
  refine (HNV.out _ c 12 (by omega) C7.out).mono ?_
  rintro e W8 ⟨rfl, hc, hg⟩
  rw [HW3.out]
  have C8 := hY (hc)
  have R8 := hY (R7.out.one hg hc0)
  clear hc hg
  go_wp2_with fail
  refine (HNV.out _ c 16 (by omega) C8.out).mono ?_
  rintro e W9 ⟨rfl, hc, hg⟩
  rw [HW4.out]
  have C9 := hY (hc)
  have R9 := hY (R8.out.one hg hc0)
  clear hc hg
  go_wp2_with fail
  refine (HNV.out _ c 20 (by omega) C9.out).mono ?_
  rintro e WA ⟨rfl, hc, hg⟩
  rw [HW5.out]
  have CA := hY (hc)
  have RA := hY (R9.out.one hg hc0)
  clear hc hg
  go_wp2_with fail
  refine (HNV.out _ c 24 (by omega) CA.out).mono ?_
  rintro e WB ⟨rfl, hc, hg⟩
  rw [HW6.out]
  have CB := hY (hc)
  have RB := hY (RA.out.one hg hc0)
  clear hc hg
  go_wp2_with fail
  refine (readers_any _).mono ?_
  rintro e WC ⟨br, rfl, hm3, hg⟩
  have Hm3 := hY hm3
  clear hm3
  have CC := hY (CB.out.frame hg)
  have RC := hY (RB.out.pure hg)
  clear hg
  go_wp2_with ((with_reducible refine getV Tryz.tRdC Hm3.out (n5 : Int) fv HFV.out ?_ ?_ ?_); exact rfl; exact rfl; refine Hid.out ?_)
  refine hY ?_
  go_wp2_with fail
  refine (needC_bad 15 _).mono ?_
  rintro e WD ⟨rfl, rfl⟩
  unfold stopE
  have y0 : WD.cell? ⟨be, 0, none⟩ = some (.int .i64 0) := cell_of_heap RC.out.er 0
  have z0 : WD.frozen? ⟨be, 0, none⟩ = false := frozen_of_heap RC.out.er 0
  refine leaves_cons (f := 43) (args := #[.pointer (some ⟨be, 0, none⟩)]) (by simp) (by simp [go_sem]) ?_
  refine (caught_stop ⟨be, 0, none⟩ _ 15 _ y0 z0).mono ?_
  rintro e u' w'' ⟨rfl, rfl, rfl⟩
  obtain ⟨WZ, hWZ⟩ : ∃ x, x = (WD.alloc (.cells #[.int .i64 15] 161)).setCell ⟨be, 0, none⟩ (.int .i64 15) := ⟨_, rfl⟩
  rw [← hWZ]
  have hl3 := RC.out.lt
  have hbe : Chg [be] WD WZ := by rw [hWZ]; exact ((Chg.refl _ _).alloc _).setCell _ _ (.inl (by simp))
  have hct : Chg [] w WZ := RC.out.cg.trans hbe (fun i hi hw => by simp at hi; omega)
  have w0 : WZ.cell? ⟨be, 0, none⟩ = some (.int .i64 15) := by
   rw [hWZ]
   exact World.cell?_setCell_same _ _ _ (by rw [World.cell?_alloc_lt _ _ _ (World.block_lt_of_cell? _ _ y0)]; exact y0)
  have hbx := RC.out.ch.frameS hbe (by simp; omega)
  clear hWZ hbe
  refine leaves_cons (f := 42) (args := #[.pointer (some ⟨be, 0, none⟩), .pointer (some ⟨bc, 0, none⟩)]) (by simp [settle]) (by simp [go_sem]) ?_
  refine (clos_bad ⟨be, 0, none⟩ bc _ 15 (by decide) _ _ w0 hbx).mono ?_
  rintro e u' w'' ⟨rfl, rfl, hb2, hg2⟩
  have w1 : w''.cell? ⟨be, 0, none⟩ = some (.int .i64 15) := hg2.cell w0 (by simp; omega)
  have h2 : (loadVar 54 ⟨bc, 0, none⟩).run Tryz.prog w'' = .ok (chnL.val .zero) w'' := Lay.run_load_rec Tryz.tChn hb2.in
  simp only [settle]
  refine ⟨.tuple #[chnL.val .zero, .int .i64 15], ?_, chP_bad HB.out (hct.trans hg2 (fun i hi hw => by simp at hi; omega))⟩
  exact results2 Tryz.results17 rfl rfl h2 (load_errC w1)
 ·have d0 : ((n0 : Int) == 0) = true := by rw [hz0]; rfl
  have d6 : ((n6 : Int) == 0) = false := by rw [beq_eq_false_iff_ne]; omega
  have Hz0 := hY hz0
  have Hz6 := hY hz6
  clear hz0 hz6
  go_enter_defers Tryz.func17, Tryz.ntmps17
  go_wp2_with ((with_reducible refine Lay.bxQ (L := imgL) 32 m ?_ ?_); exact rfl)
  refine hY fun W1 bm ebm cbm xbm => ?_
  go_wp2_with (with_reducible refine Lay.alQ Tryz.tChn ?_)
  refine hY fun W2 bc ebc cbc xbc => ?_
  go_upto_region 1 with fail
  obtain ⟨be, hbe⟩ : ∃ x, x = W2.heap.size := ⟨_, rfl⟩
  rw [← hbe]
  refine Lay.with_world (fun W => RS w W.heap.size bm bc be m .zero W) ⟨(xbm.out.frame cbc.out).alloc _, xbc.out.alloc _, by rw [hbe]; exact heap_alloc_eq _ _, (cbm.out.then cbc.out).alloc _, ?_⟩ (fun W hW => ?_)
  ·have h1 := ebm.out
   have h2 := ebc.out
   have h3 := cbm.out.size
   have h4 := xbc.out.lt
   have h5 := (xbm.out.frame cbc.out).lt
   have h6 := xbm.out.lt
   have e9 : (W2.alloc (.cells #[.int .i64 0] 36)).heap.size = W2.heap.size + 1 := by simp
   rw [e9]
   omega
  have R0 := hY (hW)
  clear hW hbe ebm cbm xbm ebc cbc xbc
  go_wp2_with fail
  refine (HNW.out _ R0.out.cg).mono ?_
  rintro e W3 ⟨c, rfl, hcb, hcu, hch⟩
  have R3 := hY (R0.out.pure hch)
  have C3 := hY (hcu)
  have hc0 : W.heap.size ≤ c := hcb
  clear hcu hch hcb
  have d28 : decide ((28 : Int) ≤ (L : Int)) = true := by simp; omega
  go_wp2_with fail
  refine (needC_ok 3 _).mono ?_
  rintro e W4 ⟨rfl, rfl⟩
  go_wp2_with fail
  refine (HNV.out _ c 0 (by omega) C3.out).mono ?_
  rintro e W5 ⟨rfl, hc, hg⟩
  rw [HW0.out]
  have C5 := hY (hc)
  have R5 := hY (R3.out.one hg hc0)
  clear hc hg
  go_wp2_with fail
  refine (HNV.out _ c 4 (by omega) C5.out).mono ?_
  rintro e W6 ⟨rfl, hc, hg⟩
  rw [HW1.out]
  have C6 := hY (hc)
  have R6 := hY (R5.out.one hg hc0)
  clear hc hg
  go_wp2_with fail
  refine (HNV.out _ c 8 (by omega) C6.out).mono ?_
  rintro e W7 ⟨rfl, hc, hg⟩
  rw [HW2.out]
  have C7 := hY (hc)
  have R7 := hY (R6.out.one hg hc0)
  clear hc hg
  go_wp2_with fail
  refine (HNV.out _ c 12 (by omega) C7.out).mono ?_
  rintro e W8 ⟨rfl, hc, hg⟩
  rw [HW3.out]
  have C8 := hY (hc)
  have R8 := hY (R7.out.one hg hc0)
  clear hc hg
  go_wp2_with fail
  refine (HNV.out _ c 16 (by omega) C8.out).mono ?_
  rintro e W9 ⟨rfl, hc, hg⟩
  rw [HW4.out]
  have C9 := hY (hc)
  have R9 := hY (R8.out.one hg hc0)
  clear hc hg
  go_wp2_with fail
  refine (HNV.out _ c 20 (by omega) C9.out).mono ?_
  rintro e WA ⟨rfl, hc, hg⟩
  rw [HW5.out]
  have CA := hY (hc)
  have RA := hY (R9.out.one hg hc0)
  clear hc hg
  go_wp2_with fail
  refine (HNV.out _ c 24 (by omega) CA.out).mono ?_
  rintro e WB ⟨rfl, hc, hg⟩
  rw [HW6.out]
  have CB := hY (hc)
  have RB := hY (RA.out.one hg hc0)
  clear hc hg
  go_wp2_with fail
  refine (readers_any _).mono ?_
  rintro e WC ⟨br, rfl, hm3, hg⟩
  have Hm3 := hY hm3
  clear hm3
  have CC := hY (CB.out.frame hg)
  have RC := hY (RB.out.pure hg)
  clear hg
  go_wp2_with ((with_reducible refine getV Tryz.tRdC Hm3.out (n5 : Int) fv HFV.out ?_ ?_ ?_); exact rfl; exact rfl; refine Hid.out ?_)
  refine hY ?_
  go_wp2_with fail
  refine (needC_bad 15 _).mono ?_
  rintro e WD ⟨rfl, rfl⟩
  unfold stopE
  have y0 : WD.cell? ⟨be, 0, none⟩ = some (.int .i64 0) := cell_of_heap RC.out.er 0
  have z0 : WD.frozen? ⟨be, 0, none⟩ = false := frozen_of_heap RC.out.er 0
  refine leaves_cons (f := 43) (args := #[.pointer (some ⟨be, 0, none⟩)]) (by simp) (by simp [go_sem]) ?_
  refine (caught_stop ⟨be, 0, none⟩ _ 15 _ y0 z0).mono ?_
  rintro e u' w'' ⟨rfl, rfl, rfl⟩
  obtain ⟨WZ, hWZ⟩ : ∃ x, x = (WD.alloc (.cells #[.int .i64 15] 161)).setCell ⟨be, 0, none⟩ (.int .i64 15) := ⟨_, rfl⟩
  rw [← hWZ]
  have hl3 := RC.out.lt
  have hbe : Chg [be] WD WZ := by rw [hWZ]; exact ((Chg.refl _ _).alloc _).setCell _ _ (.inl (by simp))
  have hct : Chg [] w WZ := RC.out.cg.trans hbe (fun i hi hw => by simp at hi; omega)
  have w0 : WZ.cell? ⟨be, 0, none⟩ = some (.int .i64 15) := by
   rw [hWZ]
   exact World.cell?_setCell_same _ _ _ (by rw [World.cell?_alloc_lt _ _ _ (World.block_lt_of_cell? _ _ y0)]; exact y0)
  have hbx := RC.out.ch.frameS hbe (by simp; omega)
  clear hWZ hbe
  refine leaves_cons (f := 42) (args := #[.pointer (some ⟨be, 0, none⟩), .pointer (some ⟨bc, 0, none⟩)]) (by simp [settle]) (by simp [go_sem]) ?_
  refine (clos_bad ⟨be, 0, none⟩ bc _ 15 (by decide) _ _ w0 hbx).mono ?_
  rintro e u' w'' ⟨rfl, rfl, hb2, hg2⟩
  have w1 : w''.cell? ⟨be, 0, none⟩ = some (.int .i64 15) := hg2.cell w0 (by simp; omega)
  have h2 : (loadVar 54 ⟨bc, 0, none⟩).run Tryz.prog w'' = .ok (chnL.val .zero) w'' := Lay.run_load_rec Tryz.tChn hb2.in
  simp only [settle]
  refine ⟨.tuple #[chnL.val .zero, .int .i64 15], ?_, chP_bad HB.out (hct.trans hg2 (fun i hi hw => by simp at hi; omega))⟩
  exact results2 Tryz.results17 rfl rfl h2 (load_errC w1)
set_option maxHeartbeats 4000000 in
theorem cread_16 (B : List UInt8) (hl1 : 28 ≤ B.length) (hl2 : B.length ≤ 2147483647) (hz : WN B 0 4 = 0 ∧ WN B 24 4 = 0) (hf : ¬ (WN B 20 4 = 1 ∨ WN B 20 4 = 2 ∨ WN B 20 4 = 3)) (R : ChR (List StP × List Imp)) (hR : R = .bad 16) (m : Img) (v : Value) (w : World) (rd : byteL.Rd w v B) :
  Calls Tryz.prog 17 #[v, imgL.val m] w (ChP w R) := by
 obtain ⟨a, cap, rfl, hc1, hc2⟩ := rd.shape
 have hmf : ∀ (fn : Fn) (first cap : Array Value) (w : World), (Instr.makeFunc fn first cap).run Tryz.prog w = .ok (.func fn first cap) w := fun _ _ _ _ => rfl
 have HNW : Hid (∀ W, Chg [] w W → Calls Tryz.prog 41 #[.slice a B.length cap, .bool false] W fun e w' => ∃ b, e = .returned (.pointer (some ⟨b, 0, none⟩)) ∧ W.heap.size ≤ b ∧ CurB w' b (cs B 0) ∧ Chg [] W w') := hY (fun W h => New_cur _ B false W (Rd_of_byte (rd.frame h)) (by omega))
 have HNV : Hid (∀ w (b p : Nat), p + 4 ≤ B.length → CurB w b (cs B p) → Calls Tryz.prog 45 #[.pointer (some ⟨b, 0, none⟩), .int .i64 4] w fun e w' => e = .returned (.int .u64 (WN B p 4)) ∧ CurB w' b (cs B (p + 4)) ∧ Chg [b] w w') := by
  refine hY ?_
  intro w b p hp hc
  have := Number_cur b (cs B p) 4 w hc
  rw [show ((4 : Int)) = ((4 : Nat) : Int) from rfl, numV (by decide) hp, numS (by decide) hp] at this
  exact this
 have q1 := fun W => (Lay.run_eql_func (P := Tryz.prog) Tryz.underlying115 W).2.2.2
 have q0 := fun W => (Lay.run_eql_func (P := Tryz.prog) Tryz.underlying115 W).2.2.1
 obtain ⟨n0, hw0⟩ : ∃ n, WN B 0 4 = n := ⟨_, rfl⟩
 obtain ⟨at_, hw1⟩ : ∃ n, WN B 4 4 = n := ⟨_, rfl⟩
 obtain ⟨ims, hw2⟩ : ∃ n, WN B 8 4 = n := ⟨_, rfl⟩
 obtain ⟨nms, hw3⟩ : ∃ n, WN B 12 4 = n := ⟨_, rfl⟩
 obtain ⟨N, hw4⟩ : ∃ n, WN B 16 4 = n := ⟨_, rfl⟩
 obtain ⟨n5, hw5⟩ : ∃ n, WN B 20 4 = n := ⟨_, rfl⟩
 obtain ⟨n6, hw6⟩ : ∃ n, WN B 24 4 = n := ⟨_, rfl⟩
 rw [hw0, hw6] at hz
 rw [hw5] at hf
 obtain ⟨fv, hfv0⟩ : ∃ fv, fv = Value.nilFunc := ⟨_, rfl⟩
 have hfv : (rdF (n5 : Int)).getD .nilFunc = fv := by
  have e1 : (n5 : Int) ≠ 1 := by omega
  have e2 : (n5 : Int) ≠ 2 := by omega
  have e3 : (n5 : Int) ≠ 3 := by omega
  rw [hfv0]
  simp [rdF, Map.put, e1, e2, e3]
 have d0 : ((n0 : Int) == 0) = true := by rw [hz.1]; rfl
 have d6 : ((n6 : Int) == 0) = true := by rw [hz.2]; rfl
 subst hfv0
 generalize hL : B.length = L at *
 have HL := hY hL
 have Rd := hY rd
 have HB := hY hR
 have HW0 := hY hw0
 have HW1 := hY hw1
 have HW2 := hY hw2
 have HW3 := hY hw3
 have HW4 := hY hw4
 have HW5 := hY hw5
 have HW6 := hY hw6
 have HFV := hY hfv
 have Hz := hY hz
 have Hf := hY hf
 clear hL rd hR hw0 hw1 hw2 hw3 hw4 hw5 hw6 hfv hz hf
 go_enter_defers Tryz.func17, Tryz.ntmps17
 go_wp2_with ((with_reducible refine Lay.bxQ (L := imgL) 32 m ?_ ?_); exact rfl)
 refine hY fun W1 bm ebm cbm xbm => ?_
 go_wp2_with (with_reducible refine Lay.alQ Tryz.tChn ?_)
 refine hY fun W2 bc ebc cbc xbc => ?_
 go_upto_region 1 with fail
 obtain ⟨be, hbe⟩ : ∃ x, x = W2.heap.size := ⟨_, rfl⟩
 rw [← hbe]
 refine Lay.with_world (fun W => RS w W.heap.size bm bc be m .zero W) ⟨(xbm.out.frame cbc.out).alloc _, xbc.out.alloc _, by rw [hbe]; exact heap_alloc_eq _ _, (cbm.out.then cbc.out).alloc _, ?_⟩ (fun W hW => ?_)
 ·have h1 := ebm.out
  have h2 := ebc.out
  have h3 := cbm.out.size
  have h4 := xbc.out.lt
  have h5 := (xbm.out.frame cbc.out).lt
  have h6 := xbm.out.lt
  have e9 : (W2.alloc (.cells #[.int .i64 0] 36)).heap.size = W2.heap.size + 1 := by simp
  rw [e9]
  omega
 have R0 := hY (hW)
 clear hW hbe ebm cbm xbm ebc cbc xbc
 go_wp2_with fail
 refine (HNW.out _ R0.out.cg).mono ?_
 rintro e W3 ⟨c, rfl, hcb, hcu, hch⟩
 have R3 := hY (R0.out.pure hch)
 have C3 := hY (hcu)
 have hc0 : W.heap.size ≤ c := hcb
 clear hcu hch hcb
 have d28 : decide ((28 : Int) ≤ (L : Int)) = true := by simp; omega
 go_wp2_with fail
 refine (needC_ok 3 _).mono ?_
 rintro e W4 ⟨rfl, rfl⟩
 go_wp2_with fail
 refine (HNV.out _ c 0 (by omega) C3.out).mono ?_
 rintro e W5 ⟨rfl, hc, hg⟩
 rw [HW0.out]
 have C5 := hY (hc)
 have R5 := hY (R3.out.one hg hc0)
 clear hc hg
 go_wp2_with fail
 refine (HNV.out _ c 4 (by omega) C5.out).mono ?_
 rintro e W6 ⟨rfl, hc, hg⟩
 rw [HW1.out]
 have C6 := hY (hc)
 have R6 := hY (R5.out.one hg hc0)
 clear hc hg
 go_wp2_with fail
 refine (HNV.out _ c 8 (by omega) C6.out).mono ?_
 rintro e W7 ⟨rfl, hc, hg⟩
 rw [HW2.out]
 have C7 := hY (hc)
 have R7 := hY (R6.out.one hg hc0)
 clear hc hg
 go_wp2_with fail
 refine (HNV.out _ c 12 (by omega) C7.out).mono ?_
 rintro e W8 ⟨rfl, hc, hg⟩
 rw [HW3.out]
 have C8 := hY (hc)
 have R8 := hY (R7.out.one hg hc0)
 clear hc hg
 go_wp2_with fail
 refine (HNV.out _ c 16 (by omega) C8.out).mono ?_
 rintro e W9 ⟨rfl, hc, hg⟩
 rw [HW4.out]
 have C9 := hY (hc)
 have R9 := hY (R8.out.one hg hc0)
 clear hc hg
 go_wp2_with fail
 refine (HNV.out _ c 20 (by omega) C9.out).mono ?_
 rintro e WA ⟨rfl, hc, hg⟩
 rw [HW5.out]
 have CA := hY (hc)
 have RA := hY (R9.out.one hg hc0)
 clear hc hg
 go_wp2_with fail
 refine (HNV.out _ c 24 (by omega) CA.out).mono ?_
 rintro e WB ⟨rfl, hc, hg⟩
 rw [HW6.out]
 have CB := hY (hc)
 have RB := hY (RA.out.one hg hc0)
 clear hc hg
 go_wp2_with fail
 refine (readers_any _).mono ?_
 rintro e WC ⟨br, rfl, hm3, hg⟩
 have Hm3 := hY hm3
 clear hm3
 have CC := hY (CB.out.frame hg)
 have RC := hY (RB.out.pure hg)
 clear hg
 go_wp2_with ((with_reducible refine getV Tryz.tRdC Hm3.out (n5 : Int) (.nilFunc) HFV.out ?_ ?_ ?_); exact rfl; exact rfl; refine Hid.out ?_)
 refine hY ?_
 go_wp2_with fail
 refine (needC_ok 15 _).mono ?_
 rintro e WD ⟨rfl, rfl⟩
 go_wp2_with fail
 refine (needC_bad 16 _).mono ?_
 rintro e WD ⟨rfl, rfl⟩
 unfold stopE
 have y0 : WD.cell? ⟨be, 0, none⟩ = some (.int .i64 0) := cell_of_heap RC.out.er 0
 have z0 : WD.frozen? ⟨be, 0, none⟩ = false := frozen_of_heap RC.out.er 0
 refine leaves_cons (f := 43) (args := #[.pointer (some ⟨be, 0, none⟩)]) (by simp) (by simp [go_sem]) ?_
 refine (caught_stop ⟨be, 0, none⟩ _ 16 _ y0 z0).mono ?_
 rintro e u' w'' ⟨rfl, rfl, rfl⟩
 obtain ⟨WZ, hWZ⟩ : ∃ x, x = (WD.alloc (.cells #[.int .i64 16] 161)).setCell ⟨be, 0, none⟩ (.int .i64 16) := ⟨_, rfl⟩
 rw [← hWZ]
 have hl3 := RC.out.lt
 have hbe : Chg [be] WD WZ := by rw [hWZ]; exact ((Chg.refl _ _).alloc _).setCell _ _ (.inl (by simp))
 have hct : Chg [] w WZ := RC.out.cg.trans hbe (fun i hi hw => by simp at hi; omega)
 have w0 : WZ.cell? ⟨be, 0, none⟩ = some (.int .i64 16) := by
  rw [hWZ]
  exact World.cell?_setCell_same _ _ _ (by rw [World.cell?_alloc_lt _ _ _ (World.block_lt_of_cell? _ _ y0)]; exact y0)
 have hbx := RC.out.ch.frameS hbe (by simp; omega)
 clear hWZ hbe
 refine leaves_cons (f := 42) (args := #[.pointer (some ⟨be, 0, none⟩), .pointer (some ⟨bc, 0, none⟩)]) (by simp [settle]) (by simp [go_sem]) ?_
 refine (clos_bad ⟨be, 0, none⟩ bc _ 16 (by decide) _ _ w0 hbx).mono ?_
 rintro e u' w'' ⟨rfl, rfl, hb2, hg2⟩
 have w1 : w''.cell? ⟨be, 0, none⟩ = some (.int .i64 16) := hg2.cell w0 (by simp; omega)
 have h2 : (loadVar 54 ⟨bc, 0, none⟩).run Tryz.prog w'' = .ok (chnL.val .zero) w'' := Lay.run_load_rec Tryz.tChn hb2.in
 simp only [settle]
 refine ⟨.tuple #[chnL.val .zero, .int .i64 16], ?_, chP_bad HB.out (hct.trans hg2 (fun i hi hw => by simp at hi; omega))⟩
 exact results2 Tryz.results17 rfl rfl h2 (load_errC w1)
set_option maxHeartbeats 4000000 in
theorem cread_11 (B : List UInt8) (hl1 : 28 ≤ B.length) (hl2 : B.length ≤ 2147483647) (hz : WN B 0 4 = 0 ∧ WN B 24 4 = 0) (hf : WN B 20 4 = 1 ∨ WN B 20 4 = 2 ∨ WN B 20 4 = 3) (hN : ¬ WN B 16 4 ≤ 4096) (R : ChR (List StP × List Imp)) (hR : R = .bad 11) (m : Img) (v : Value) (w : World) (rd : byteL.Rd w v B) :
  Calls Tryz.prog 17 #[v, imgL.val m] w (ChP w R) := by
 obtain ⟨a, cap, rfl, hc1, hc2⟩ := rd.shape
 have hmf : ∀ (fn : Fn) (first cap : Array Value) (w : World), (Instr.makeFunc fn first cap).run Tryz.prog w = .ok (.func fn first cap) w := fun _ _ _ _ => rfl
 have HNW : Hid (∀ W, Chg [] w W → Calls Tryz.prog 41 #[.slice a B.length cap, .bool false] W fun e w' => ∃ b, e = .returned (.pointer (some ⟨b, 0, none⟩)) ∧ W.heap.size ≤ b ∧ CurB w' b (cs B 0) ∧ Chg [] W w') := hY (fun W h => New_cur _ B false W (Rd_of_byte (rd.frame h)) (by omega))
 have HNV : Hid (∀ w (b p : Nat), p + 4 ≤ B.length → CurB w b (cs B p) → Calls Tryz.prog 45 #[.pointer (some ⟨b, 0, none⟩), .int .i64 4] w fun e w' => e = .returned (.int .u64 (WN B p 4)) ∧ CurB w' b (cs B (p + 4)) ∧ Chg [b] w w') := by
  refine hY ?_
  intro w b p hp hc
  have := Number_cur b (cs B p) 4 w hc
  rw [show ((4 : Int)) = ((4 : Nat) : Int) from rfl, numV (by decide) hp, numS (by decide) hp] at this
  exact this
 have q1 := fun W => (Lay.run_eql_func (P := Tryz.prog) Tryz.underlying115 W).2.2.2
 have q0 := fun W => (Lay.run_eql_func (P := Tryz.prog) Tryz.underlying115 W).2.2.1
 obtain ⟨n0, hw0⟩ : ∃ n, WN B 0 4 = n := ⟨_, rfl⟩
 obtain ⟨at_, hw1⟩ : ∃ n, WN B 4 4 = n := ⟨_, rfl⟩
 obtain ⟨ims, hw2⟩ : ∃ n, WN B 8 4 = n := ⟨_, rfl⟩
 obtain ⟨nms, hw3⟩ : ∃ n, WN B 12 4 = n := ⟨_, rfl⟩
 obtain ⟨N, hw4⟩ : ∃ n, WN B 16 4 = n := ⟨_, rfl⟩
 obtain ⟨n5, hw5⟩ : ∃ n, WN B 20 4 = n := ⟨_, rfl⟩
 obtain ⟨n6, hw6⟩ : ∃ n, WN B 24 4 = n := ⟨_, rfl⟩
 rw [hw0, hw6] at hz
 rw [hw5] at hf
 rw [hw4] at hN
 have hf2 : (n5 : Int) = 1 ∨ (n5 : Int) = 2 ∨ (n5 : Int) = 3 := by omega
 obtain ⟨fv, hfv0, g, rfl, _, _⟩ := rdF_read hf2
 have hfv : (rdF (n5 : Int)).getD .nilFunc = .func (.func g) #[] #[] := by rw [hfv0]; rfl
 have d0 : ((n0 : Int) == 0) = true := by rw [hz.1]; rfl
 have d6 : ((n6 : Int) == 0) = true := by rw [hz.2]; rfl
 have dmany : decide ((N : Int) ≤ 4096) = false := by simp; omega
 generalize hL : B.length = L at *
 have HL := hY hL
 have Rd := hY rd
 have HB := hY hR
 have HW0 := hY hw0
 have HW1 := hY hw1
 have HW2 := hY hw2
 have HW3 := hY hw3
 have HW4 := hY hw4
 have HW5 := hY hw5
 have HW6 := hY hw6
 have HFV := hY hfv
 have Hfv0 := hY hfv0
 have Hz := hY hz
 have Hf := hY hf
 have Hf2 := hY hf2
 have HN := hY hN
 clear hL rd hR hw0 hw1 hw2 hw3 hw4 hw5 hw6 hfv hfv0 hz hf hf2 hN
 go_enter_defers Tryz.func17, Tryz.ntmps17
 go_wp2_with ((with_reducible refine Lay.bxQ (L := imgL) 32 m ?_ ?_); exact rfl)
 refine hY fun W1 bm ebm cbm xbm => ?_
 go_wp2_with (with_reducible refine Lay.alQ Tryz.tChn ?_)
 refine hY fun W2 bc ebc cbc xbc => ?_
 go_upto_region 1 with fail
 obtain ⟨be, hbe⟩ : ∃ x, x = W2.heap.size := ⟨_, rfl⟩
 rw [← hbe]
 refine Lay.with_world (fun W => RS w W.heap.size bm bc be m .zero W) ⟨(xbm.out.frame cbc.out).alloc _, xbc.out.alloc _, by rw [hbe]; exact heap_alloc_eq _ _, (cbm.out.then cbc.out).alloc _, ?_⟩ (fun W hW => ?_)
 ·have h1 := ebm.out
  have h2 := ebc.out
  have h3 := cbm.out.size
  have h4 := xbc.out.lt
  have h5 := (xbm.out.frame cbc.out).lt
  have h6 := xbm.out.lt
  have e9 : (W2.alloc (.cells #[.int .i64 0] 36)).heap.size = W2.heap.size + 1 := by simp
  rw [e9]
  omega
 have R0 := hY (hW)
 clear hW hbe ebm cbm xbm ebc cbc xbc
 go_wp2_with fail
 refine (HNW.out _ R0.out.cg).mono ?_
 rintro e W3 ⟨c, rfl, hcb, hcu, hch⟩
 have R3 := hY (R0.out.pure hch)
 have C3 := hY (hcu)
 have hc0 : W.heap.size ≤ c := hcb
 clear hcu hch hcb
 have d28 : decide ((28 : Int) ≤ (L : Int)) = true := by simp; omega
 go_wp2_with fail
 refine (needC_ok 3 _).mono ?_
 rintro e W4 ⟨rfl, rfl⟩
 go_wp2_with fail
 refine (HNV.out _ c 0 (by omega) C3.out).mono ?_
 rintro e W5 ⟨rfl, hc, hg⟩
 rw [HW0.out]
 have C5 := hY (hc)
 have R5 := hY (R3.out.one hg hc0)
 clear hc hg
 go_wp2_with fail
 refine (HNV.out _ c 4 (by omega) C5.out).mono ?_
 rintro e W6 ⟨rfl, hc, hg⟩
 rw [HW1.out]
 have C6 := hY (hc)
 have R6 := hY (R5.out.one hg hc0)
 clear hc hg
 go_wp2_with fail
 refine (HNV.out _ c 8 (by omega) C6.out).mono ?_
 rintro e W7 ⟨rfl, hc, hg⟩
 rw [HW2.out]
 have C7 := hY (hc)
 have R7 := hY (R6.out.one hg hc0)
 clear hc hg
 go_wp2_with fail
 refine (HNV.out _ c 12 (by omega) C7.out).mono ?_
 rintro e W8 ⟨rfl, hc, hg⟩
 rw [HW3.out]
 have C8 := hY (hc)
 have R8 := hY (R7.out.one hg hc0)
 clear hc hg
 go_wp2_with fail
 refine (HNV.out _ c 16 (by omega) C8.out).mono ?_
 rintro e W9 ⟨rfl, hc, hg⟩
 rw [HW4.out]
 have C9 := hY (hc)
 have R9 := hY (R8.out.one hg hc0)
 clear hc hg
 go_wp2_with fail
 refine (HNV.out _ c 20 (by omega) C9.out).mono ?_
 rintro e WA ⟨rfl, hc, hg⟩
 rw [HW5.out]
 have CA := hY (hc)
 have RA := hY (R9.out.one hg hc0)
 clear hc hg
 go_wp2_with fail
 refine (HNV.out _ c 24 (by omega) CA.out).mono ?_
 rintro e WB ⟨rfl, hc, hg⟩
 rw [HW6.out]
 have CB := hY (hc)
 have RB := hY (RA.out.one hg hc0)
 clear hc hg
 go_wp2_with fail
 refine (readers_any _).mono ?_
 rintro e WC ⟨br, rfl, hm3, hg⟩
 have Hm3 := hY hm3
 clear hm3
 have CC := hY (CB.out.frame hg)
 have RC := hY (RB.out.pure hg)
 clear hg
 go_wp2_with ((with_reducible refine getV Tryz.tRdC Hm3.out (n5 : Int) (.func (.func g) #[] #[]) HFV.out ?_ ?_ ?_); exact rfl; exact rfl; refine Hid.out ?_)
 refine hY ?_
 go_wp2_with fail
 refine (needC_ok 15 _).mono ?_
 rintro e WD ⟨rfl, rfl⟩
 go_wp2_with fail
 refine (needC_ok 16 _).mono ?_
 rintro e WD ⟨rfl, rfl⟩
 go_wp2_with fail
 refine (needC_bad 11 _).mono ?_
 rintro e WD ⟨rfl, rfl⟩
 unfold stopE
 have y0 : WD.cell? ⟨be, 0, none⟩ = some (.int .i64 0) := cell_of_heap RC.out.er 0
 have z0 : WD.frozen? ⟨be, 0, none⟩ = false := frozen_of_heap RC.out.er 0
 refine leaves_cons (f := 43) (args := #[.pointer (some ⟨be, 0, none⟩)]) (by simp) (by simp [go_sem]) ?_
 refine (caught_stop ⟨be, 0, none⟩ _ 11 _ y0 z0).mono ?_
 rintro e u' w'' ⟨rfl, rfl, rfl⟩
 obtain ⟨WZ, hWZ⟩ : ∃ x, x = (WD.alloc (.cells #[.int .i64 11] 161)).setCell ⟨be, 0, none⟩ (.int .i64 11) := ⟨_, rfl⟩
 rw [← hWZ]
 have hl3 := RC.out.lt
 have hbe : Chg [be] WD WZ := by rw [hWZ]; exact ((Chg.refl _ _).alloc _).setCell _ _ (.inl (by simp))
 have hct : Chg [] w WZ := RC.out.cg.trans hbe (fun i hi hw => by simp at hi; omega)
 have w0 : WZ.cell? ⟨be, 0, none⟩ = some (.int .i64 11) := by
  rw [hWZ]
  exact World.cell?_setCell_same _ _ _ (by rw [World.cell?_alloc_lt _ _ _ (World.block_lt_of_cell? _ _ y0)]; exact y0)
 have hbx := RC.out.ch.frameS hbe (by simp; omega)
 clear hWZ hbe
 refine leaves_cons (f := 42) (args := #[.pointer (some ⟨be, 0, none⟩), .pointer (some ⟨bc, 0, none⟩)]) (by simp [settle]) (by simp [go_sem]) ?_
 refine (clos_bad ⟨be, 0, none⟩ bc _ 11 (by decide) _ _ w0 hbx).mono ?_
 rintro e u' w'' ⟨rfl, rfl, hb2, hg2⟩
 have w1 : w''.cell? ⟨be, 0, none⟩ = some (.int .i64 11) := hg2.cell w0 (by simp; omega)
 have h2 : (loadVar 54 ⟨bc, 0, none⟩).run Tryz.prog w'' = .ok (chnL.val .zero) w'' := Lay.run_load_rec Tryz.tChn hb2.in
 simp only [settle]
 refine ⟨.tuple #[chnL.val .zero, .int .i64 11], ?_, chP_bad HB.out (hct.trans hg2 (fun i hi hw => by simp at hi; omega))⟩
 exact results2 Tryz.results17 rfl rfl h2 (load_errC w1)
theorem chr_then_ne {α β : Type} {r : ChR α} {k : α → ChR β} (h1 : ∀ n, r = .bad n → n ≠ 0) (h2 : ∀ a, r = .ok a → ∀ n, k a = .bad n → n ≠ 0) : ∀ n, r.then k = .bad n → n ≠ 0 := by
 intro n h
 cases r with
 | ok a => exact h2 a rfl n h
 | bad e => injection h with h; subst h; exact h1 e rfl
theorem begC_ne (B : List UInt8) (pg st : Int) : ∀ (n p : Nat) (acc : List Int) (e : Int), begC B pg st n p acc = .bad e → e ≠ 0
 | 0, _, _, e, h => by cases h
 | n + 1, p, acc, e, h => by
  rw [begC_succ] at h
  split at h
  ·split at h
   ·exact begC_ne B pg st n _ _ e h
   ·split at h
    ·exact begC_ne B pg st n _ _ e h
    ·injection h with h; subst h; decide
  ·injection h with h; subst h; decide
theorem startC_ne {B : List UInt8} {ls : List Seg} {i q : Nat} {e : Int} (h : startC B ls i q = .bad e) : e ≠ 0 := by
 unfold startC at h
 split at h
 ·split at h
  ·split at h
   ·split at h
    ·exact chr_then_ne (fun n h => begC_ne _ _ _ _ _ _ _ h) (fun a _ n h => by cases h) _ h
    ·injection h with h; subst h; decide
   ·injection h with h; subst h; decide
  ·injection h with h; subst h; decide
 ·injection h with h; subst h; decide
theorem stsC_ne (B : List UInt8) (ls : List Seg) (q : Nat) : ∀ (n i : Nat) (acc : List StP) (e : Int), stsC B ls q n i acc = .bad e → e ≠ 0
 | 0, _, _, e, h => by cases h
 | n + 1, i, acc, e, h => by
  rw [stsC_succ] at h
  split at h
  ·split at h
   ·exact stsC_ne B ls q n _ _ e h
   ·exact chr_then_ne (fun n h => startC_ne h) (fun a _ m h => stsC_ne B ls q n _ _ m h) _ h
  ·injection h with h; subst h; decide
theorem startsC_ne {B : List UInt8} {ls : List Seg} {q : Nat} {e : Int} (h : startsC B ls q = .bad e) : e ≠ 0 := by
 unfold startsC at h
 split at h
 ·split at h
  ·exact stsC_ne _ _ _ _ _ _ _ h
  ·injection h with h; subst h; decide
 ·injection h with h; subst h; decide
theorem leNum_lt4 (l : List UInt8) (h : l.length ≤ 4) : leNum l < 4294967296 := Nat.lt_of_lt_of_le (leNum_lt l) (Nat.pow_le_pow_right (by decide) h)
theorem leNum_lt8 (l : List UInt8) (h : l.length ≤ 8) : leNum l < 18446744073709551616 := Nat.lt_of_lt_of_le (leNum_lt l) (Nat.pow_le_pow_right (by decide) h)
theorem rawS_nm {fm : Int} {B : List UInt8} {p : Nat} (h : p + isz fm ≤ B.length) : ∃ nm : Nat, (rawS fm (cs B p)).name = (nm : Int) ∧ nm < 4294967296 ∧ (rawS fm (cs B p)).sym = ⟨#[]⟩ := by
 unfold rawS isz at *
 have h4 : leNum ((B.drop p).take 4) < 4294967296 := leNum_lt4 _ (by rw [List.length_take]; omega)
 have h8 : leNum ((B.drop p).take 8) < 18446744073709551616 := leNum_lt8 _ (by rw [List.length_take]; omega)
 split
 ·rename_i h3
  rw [if_pos h3] at h
  rw [show ((8 : Int)) = ((8 : Nat) : Int) from rfl, numV (by decide) (by omega)]
  refine ⟨_, rfl, ?_, rfl⟩
  unfold WN
  omega
 ·rename_i h3
  rw [if_neg h3] at h
  split
  ·rename_i h2
   rw [if_pos h2] at h
   rw [show ((4 : Int)) = ((4 : Nat) : Int) from rfl, numV (by decide) (by omega)]
   refine ⟨_, rfl, ?_, rfl⟩
   unfold WN
   omega
  ·rename_i h2
   rw [if_neg h2] at h
   rw [show ((4 : Int)) = ((4 : Nat) : Int) from rfl, numV (by decide) (by omega)]
   refine ⟨_, rfl, ?_, rfl⟩
   unfold WN
   omega
theorem rawE_bad {fm : Int} {B : List UInt8} {s : CS} {p : Nat} (hs1 : p ≤ B.length → s = cs B p) (hs2 : B.length < p → s.failed = true) (h : B.length < p + isz fm) : (rawE fm s).failed = true := by
 unfold rawE isz at *
 split
 ·rename_i h3
  rw [if_pos h3] at h
  rw [show ((8 : Int)) = ((8 : Nat) : Int) from rfl]
  rcases Nat.lt_or_ge B.length (p + 8) with h1 | h1
  ·exact numF (num_bad hs1 hs2 h1) _
  ·rw [hs1 (by omega), numS (by decide) h1]; exact numX (by omega)
 ·rename_i h3
  rw [if_neg h3] at h
  rw [show ((4 : Int)) = ((4 : Nat) : Int) from rfl]
  split
  ·rename_i h2
   rw [if_pos h2] at h
   rcases Nat.lt_or_ge B.length (p + 4) with h1 | h1
   ·exact numF (num_bad hs1 hs2 h1) _
   ·rw [hs1 (by omega), numS (by decide) h1]; exact numX (by omega)
  ·rename_i h2
   rw [if_neg h2] at h
   exact num_bad hs1 hs2 h
theorem impC_succ (B : List UInt8) (d : Nat) (fm : Int) (names n p : Nat) (acc : List Imp) : impC B d fm names (n + 1) p acc = if p + isz fm ≤ B.length then
      (if ordB (rawS fm (cs B p)).ord d = true then
        (match nameC B (names + (rawS fm (cs B p)).name.toNat) with
          | none => .bad 10
          | some s => impC B d fm names n (p + isz fm) (acc ++ [⟨(rawS fm (cs B p)).ord, (rawS fm (cs B p)).weak, ⟨s.toArray⟩, (rawS fm (cs B p)).add⟩]))
      else .bad 22)
    else .bad 3 := rfl
theorem text_st {B : List UInt8} (hB : B.length ≤ 2147483647) (p q : Nat) :
  (∃ sy, nameC B q = some sy ∧ textL (seekC (cs B p) q) 255 = sy ∧ sy.length ≠ 0 ∧ ∃ r, textS (seekC (cs B p) q) 255 = cs B r) ∨ (nameC B q = none ∧ (textS (seekC (cs B p) q) 255).failed = true) ∨ (nameC B q = none ∧ (textS (seekC (cs B p) q) 255).failed = false ∧ textL (seekC (cs B p) q) 255 = []) := by
 obtain ⟨h1, h2⟩ := seek_st hB p q
 by_cases hq : q ≤ B.length
 ·rw [h1 hq]
  cases ht : textOk (cs B q) 255 with
  | true =>
   have hs : textS (cs B q) 255 = ⟨B, q + (zeroAt (cs B q)).toNat + 1, false, false⟩ := by unfold textS; rw [ht]; rfl
   by_cases hl : (textL (cs B q) 255).length = 0
   ·refine .inr (.inr ⟨?_, by rw [hs], List.eq_nil_of_length_eq_zero hl⟩)
    unfold nameC
    rw [if_neg (fun h => h.2.2 hl)]
   ·refine .inl ⟨_, ?_, rfl, hl, _, hs⟩
    unfold nameC
    rw [if_pos ⟨hq, ht, hl⟩]
  | false =>
   refine .inr (.inl ⟨?_, by unfold textS; rw [ht]; rfl⟩)
   unfold nameC
   rw [if_neg (fun h => by rw [ht] at h; exact absurd h.2.1 (by decide))]
 ·refine .inr (.inl ⟨?_, ?_⟩)
  ·unfold nameC
   rw [if_neg (fun h => hq h.1)]
  ·have hf := h2 (by omega)
   have ht : textOk (seekC (cs B p) q) 255 = false := by unfold textOk; rw [hf]; rfl
   unfold textS
   rw [ht]
   rfl
end Go.Proofs.YtiljokmkiolpgaaGreatDoor
