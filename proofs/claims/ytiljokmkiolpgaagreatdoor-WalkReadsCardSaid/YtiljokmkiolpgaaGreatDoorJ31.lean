/- Lemmas, laid together: part 31 of 42. Conditions: none but each lemma's own. -/
import Derived.Test.YtiljokmkiolpgaaGreatDoorJ30
import Derived.Test.YtiljokmkiolpgaaGreatDoorJ17
import Derived.Test.YtiljokmkiolpgaaGreatDoorJ1
namespace Go.Proofs.YtiljokmkiolpgaaGreatDoor
open Go.RowKit
set_option maxRecDepth 100000
structure RcW (w W : World) (bm b4 : Nat) (m : Img) : Prop where
 im : imgL.Box W bm m
 r4 : chnL.Box W b4 .zero
 cg : Chg [] w W
 lo : w.heap.size ≤ bm
 hi : bm < b4
theorem RcW.l4 {w W : World} {bm b4 : Nat} {m : Img} (h : RcW w W bm b4 m) : w.heap.size ≤ b4 := by have := h.lo; have := h.hi; omega
theorem RcW.high {w W W' : World} {bm b4 : Nat} {m : Img} (h : RcW w W bm b4 m) {S : List Nat} (k : Chg S W W') (hS : ∀ i ∈ S, b4 < i) : RcW w W' bm b4 m := by
 have h2 := h.lo
 have h3 := h.hi
 exact ⟨h.im.frameS k (fun hm => by have := hS _ hm; omega), h.r4.frameS k (fun hm => by have := hS _ hm; omega), h.cg.trans k (fun i hi hw => by have := hS i hi; omega), h2, h3⟩
theorem RcW.pure {w W W' : World} {bm b4 : Nat} {m : Img} (h : RcW w W bm b4 m) (k : Chg [] W W') : RcW w W' bm b4 m := h.high k (fun _ hi => by cases hi)
theorem isz_R {n : Nat} (h : n = 1 ∨ n = 2 ∨ n = 3) : sizeR (n : Int) = (isz (n : Int) : Nat) ∧ (isz (n : Int) = 4 ∨ isz (n : Int) = 8 ∨ isz (n : Int) = 16) := by
 rcases h with rfl | rfl | rfl
 ·exact ⟨by decide, by decide⟩
 ·exact ⟨by decide, by decide⟩
 ·exact ⟨by decide, by decide⟩
theorem sizeR_no {n : Nat} (h : ¬ (n = 1 ∨ n = 2 ∨ n = 3)) : sizeR (n : Int) = 0 := by
 unfold sizeR
 rw [if_neg (by omega), if_neg (by omega), if_neg (by omega)]
set_option maxHeartbeats 4000000 in
theorem rcread_short (B : List UInt8) (h : B.length < 28) (R : ChR (List StP × List Imp)) (hR : R = .bad 3) (m : Img) (v : Value) (w : World) (rd : byteL.Rd w v B) :
  Calls Tryz.prog 20 #[v, imgL.val m] w (ChP w R) := by
 obtain ⟨a, cap, rfl, hc1, hc2⟩ := rd.shape
 have d28 : decide ((B.length : Int) < 28) = true := decide_eq_true (by omega)
 generalize hL : B.length = L at *
 have HL := hY hL
 have Rd := hY rd
 have HB := hY hR
 have H := hY h
 clear hL rd hR h
 go_enter Tryz.func20, Tryz.ntmps20
 go_wp2_with ((with_reducible refine Lay.bxQ (L := imgL) 32 m ?_ ?_); exact rfl)
 refine hY fun W1 bm ebm cbm xbm => ?_
 go_wp2_with (with_reducible refine Lay.alQ Tryz.tChn ?_)
 refine hY fun W2 b4 eb4 cb4 xb4 => ?_
 have S2 : Hid (RcW w W2 bm b4 m) := hY (⟨xbm.out.frame cb4.out, xb4.out, cbm.out.then cb4.out, by rw [ebm.out]; exact Nat.le_refl _, by rw [eb4.out]; exact xbm.out.lt⟩)
 clear ebm cbm xbm eb4 cb4 xb4
 go_upto_region 2 with fail
 go_wp2_with ((with_reducible refine Lay.stQ Tryz.tChn Chn.zero (S2.out.r4) ?_ ?_ ?_); exact rfl; exact rfl)
 refine hY fun WZ cWZ xWZ => ?_
 go_step
 go_step
 rename_i hK0
 refine hK0 _ _ ?_
 refine wpList_nil ?_
 rename_i hKK _
 refine hKK _ _ ?_
 try (unfold Act.put; simp only [aS, aZ, aC])
 refine wp_ret ?_
 refine Lay.ret2 Tryz.tChn Tryz.results20 xWZ.out rfl rfl ?_
 exact chP_bad HB.out (S2.out.cg.new cWZ.out S2.out.l4)
set_option maxHeartbeats 8000000 in
theorem rcread_head (B : List UInt8) (hl1 : 28 ≤ B.length) (hl2 : B.length ≤ 2147483647) (R : ChR (List StP × List Imp)) (hc : (¬ (WN B 0 4 = 0 ∧ WN B 24 4 = 0) ∧ R = .bad 15) ∨ ((WN B 0 4 = 0 ∧ WN B 24 4 = 0) ∧ ((¬ (WN B 20 4 = 1 ∨ WN B 20 4 = 2 ∨ WN B 20 4 = 3) ∧ R = .bad 16) ∨ ((WN B 20 4 = 1 ∨ WN B 20 4 = 2 ∨ WN B 20 4 = 3) ∧ ¬ WN B 16 4 ≤ 4096 ∧ R = .bad 11)))) (m : Img) (v : Value) (w : World) (rd : byteL.Rd w v B) :
  Calls Tryz.prog 20 #[v, imgL.val m] w (ChP w R) := by
 have HGT := hY (fun W (h : Chg [] w W) q hq => get15_any B (by omega) v W (rd.frame h) q 4 (.inr (.inl rfl)) hq)
 obtain ⟨a, cap, rfl, hc1, hc2⟩ := rd.shape
 have d28 : decide ((B.length : Int) < 28) = false := decide_eq_false (by omega)
 have HG0 := hY (fun W h => HGT.out W h 0 (by omega))
 have HG24 := hY (fun W h => HGT.out W h 24 (by omega))
 have HG20 := hY (fun W h => HGT.out W h 20 (by omega))
 have HG16 := hY (fun W h => HGT.out W h 16 (by omega))
 have hb5 : WN B 20 4 < 4294967296 := WN_lt B 20 4
 obtain ⟨n0, hw0⟩ : ∃ n, WN B 0 4 = n := ⟨_, rfl⟩
 obtain ⟨N, hw4⟩ : ∃ n, WN B 16 4 = n := ⟨_, rfl⟩
 obtain ⟨n5, hw5⟩ : ∃ n, WN B 20 4 = n := ⟨_, rfl⟩
 obtain ⟨n6, hw6⟩ : ∃ n, WN B 24 4 = n := ⟨_, rfl⟩
 rw [hw0] at HG0 hc
 rw [hw4] at HG16 hc
 rw [hw5] at HG20 hc hb5
 rw [hw6] at HG24 hc
 obtain ⟨fm, hfm⟩ : ∃ fm : Int, wrap64 (n5 : Int) = fm := ⟨_, rfl⟩
 have hfm2 : fm = (n5 : Int) := by rw [← hfm]; unfold wrap64; omega
 have HSZ := hY (fun W => rsize_any fm W)
 generalize hL : B.length = L at *
 rcases hc with ⟨hz, hR⟩ | ⟨hz, ⟨hf, hR⟩ | ⟨hf, hN, hR⟩⟩
 ·by_cases h0 : n0 = 0
  ·have d0 : ((n0 : Int) != 0) = false := by rw [h0]; rfl
   have d6 : ((n6 : Int) != 0) = true := by rw [bne_iff_ne]; omega
   have HL := hY hL
   have Rd := hY rd
   have HB := hY hR
   have H0 := hY h0
   have Hz := hY hz
   have Hw0 := hY hw0
   have Hw4 := hY hw4
   have Hw5 := hY hw5
   have Hw6 := hY hw6
   have Hfm2 := hY hfm2
   have Hb5 := hY hb5
   clear hL rd hR h0 hz hw0 hw4 hw5 hw6 hfm2 hb5
   go_enter Tryz.func20, Tryz.ntmps20
   go_wp2_with ((with_reducible refine Lay.bxQ (L := imgL) 32 m ?_ ?_); exact rfl)
   refine hY fun W1 bm ebm cbm xbm => ?_
   go_wp2_with (with_reducible refine Lay.alQ Tryz.tChn ?_)
   refine hY fun W2 b4 eb4 cb4 xb4 => ?_
   have S2 : Hid (RcW w W2 bm b4 m) := hY (⟨xbm.out.frame cb4.out, xb4.out, cbm.out.then cb4.out, by rw [ebm.out]; exact Nat.le_refl _, by rw [eb4.out]; exact xbm.out.lt⟩)
   clear ebm cbm xbm eb4 cb4 xb4
   go_wp2_with fail
   refine (HG0.out _ S2.out.cg).mono ?_
   rintro e W3 ⟨rfl, hc⟩
   have S3 := hY (S2.out.pure hc)
   clear hc
   go_wp2_with fail
   refine (HG24.out _ S3.out.cg).mono ?_
   rintro e W4 ⟨rfl, hc⟩
   have S4 := hY (S3.out.pure hc)
   clear hc
   go_upto_region 4 with fail
   go_wp2_with ((with_reducible refine Lay.stQ Tryz.tChn Chn.zero (S4.out.r4) ?_ ?_ ?_); exact rfl; exact rfl)
   refine hY fun WZ cWZ xWZ => ?_
   go_step
   go_step
   rename_i hK0
   refine hK0 _ _ ?_
   refine wpList_nil ?_
   rename_i hKK _
   refine hKK _ _ ?_
   try (unfold Act.put; simp only [aS, aZ, aC])
   refine wp_ret ?_
   refine Lay.ret2 Tryz.tChn Tryz.results20 xWZ.out rfl rfl ?_
   exact chP_bad HB.out (S4.out.cg.new cWZ.out S4.out.l4)
  ·have d0 : ((n0 : Int) != 0) = true := by rw [bne_iff_ne]; omega
   have HL := hY hL
   have Rd := hY rd
   have HB := hY hR
   have H0 := hY h0
   have Hz := hY hz
   have Hw0 := hY hw0
   have Hw4 := hY hw4
   have Hw5 := hY hw5
   have Hw6 := hY hw6
   have Hfm2 := hY hfm2
   have Hb5 := hY hb5
   clear hL rd hR h0 hz hw0 hw4 hw5 hw6 hfm2 hb5
   go_enter Tryz.func20, Tryz.ntmps20
   go_wp2_with ((with_reducible refine Lay.bxQ (L := imgL) 32 m ?_ ?_); exact rfl)
   refine hY fun W1 bm ebm cbm xbm => ?_
   go_wp2_with (with_reducible refine Lay.alQ Tryz.tChn ?_)
   refine hY fun W2 b4 eb4 cb4 xb4 => ?_
   have S2 : Hid (RcW w W2 bm b4 m) := hY (⟨xbm.out.frame cb4.out, xb4.out, cbm.out.then cb4.out, by rw [ebm.out]; exact Nat.le_refl _, by rw [eb4.out]; exact xbm.out.lt⟩)
   clear ebm cbm xbm eb4 cb4 xb4
   go_wp2_with fail
   refine (HG0.out _ S2.out.cg).mono ?_
   rintro e W3 ⟨rfl, hc⟩
   have S3 := hY (S2.out.pure hc)
   clear hc
   go_upto_region 4 with fail
   go_wp2_with ((with_reducible refine Lay.stQ Tryz.tChn Chn.zero (S3.out.r4) ?_ ?_ ?_); exact rfl; exact rfl)
   refine hY fun WZ cWZ xWZ => ?_
   go_step
   go_step
   rename_i hK0
   refine hK0 _ _ ?_
   refine wpList_nil ?_
   rename_i hKK _
   refine hKK _ _ ?_
   try (unfold Act.put; simp only [aS, aZ, aC])
   refine wp_ret ?_
   refine Lay.ret2 Tryz.tChn Tryz.results20 xWZ.out rfl rfl ?_
   exact chP_bad HB.out (S3.out.cg.new cWZ.out S3.out.l4)
 ·have d0 : ((n0 : Int) != 0) = false := by rw [hz.1]; rfl
  have d6 : ((n6 : Int) != 0) = false := by rw [hz.2]; rfl
  have hs := sizeR_no hf
  rw [← hfm2] at hs
  rw [hs] at HSZ
  have HL := hY hL
  have Rd := hY rd
  have HB := hY hR
  have Hz := hY hz
  have Hf := hY hf
  have Hw0 := hY hw0
  have Hw4 := hY hw4
  have Hw5 := hY hw5
  have Hw6 := hY hw6
  have Hfm2 := hY hfm2
  have Hb5 := hY hb5
  have Hs := hY hs
  clear hL rd hR hz hf hw0 hw4 hw5 hw6 hfm2 hb5 hs
  go_enter Tryz.func20, Tryz.ntmps20
  go_wp2_with ((with_reducible refine Lay.bxQ (L := imgL) 32 m ?_ ?_); exact rfl)
  refine hY fun W1 bm ebm cbm xbm => ?_
  go_wp2_with (with_reducible refine Lay.alQ Tryz.tChn ?_)
  refine hY fun W2 b4 eb4 cb4 xb4 => ?_
  have S2 : Hid (RcW w W2 bm b4 m) := hY (⟨xbm.out.frame cb4.out, xb4.out, cbm.out.then cb4.out, by rw [ebm.out]; exact Nat.le_refl _, by rw [eb4.out]; exact xbm.out.lt⟩)
  clear ebm cbm xbm eb4 cb4 xb4
  go_wp2_with fail
  refine (HG0.out _ S2.out.cg).mono ?_
  rintro e W3 ⟨rfl, hc⟩
  have S3 := hY (S2.out.pure hc)
  clear hc
  go_wp2_with fail
  refine (HG24.out _ S3.out.cg).mono ?_
  rintro e W4 ⟨rfl, hc⟩
  have S4 := hY (S3.out.pure hc)
  clear hc
  go_wp2_with fail
  refine (HG20.out _ S4.out.cg).mono ?_
  rintro e W5 ⟨rfl, hc⟩
  have S5 := hY (S4.out.pure hc)
  clear hc
  go_wp2_with fail
  refine (HSZ.out _).mono ?_
  rintro e W6 ⟨rfl, hc⟩
  have S6 := hY (S5.out.pure hc)
  clear hc
  go_upto_region 7 with fail
  go_wp2_with ((with_reducible refine Lay.stQ Tryz.tChn Chn.zero (S6.out.r4) ?_ ?_ ?_); exact rfl; exact rfl)
  refine hY fun WZ cWZ xWZ => ?_
  go_step
  go_step
  rename_i hK0
  refine hK0 _ _ ?_
  refine wpList_nil ?_
  rename_i hKK _
  refine hKK _ _ ?_
  try (unfold Act.put; simp only [aS, aZ, aC])
  refine wp_ret ?_
  refine Lay.ret2 Tryz.tChn Tryz.results20 xWZ.out rfl rfl ?_
  exact chP_bad HB.out (S6.out.cg.new cWZ.out S6.out.l4)
 ·have d0 : ((n0 : Int) != 0) = false := by rw [hz.1]; rfl
  have d6 : ((n6 : Int) != 0) = false := by rw [hz.2]; rfl
  obtain ⟨hs, hs3⟩ := isz_R hf
  rw [← hfm2] at hs hs3
  rw [hs] at HSZ
  have ds : (((isz fm : Nat) : Int) == 0) = false := by rw [beq_eq_false_iff_ne]; omega
  have dN : decide ((4096 : Int) < (N : Int)) = true := decide_eq_true (by omega)
  have dN' : 4096 < N := by omega
  have HL := hY hL
  have Rd := hY rd
  have HB := hY hR
  have Hz := hY hz
  have Hf := hY hf
  have Hw0 := hY hw0
  have Hw4 := hY hw4
  have Hw5 := hY hw5
  have Hw6 := hY hw6
  have Hfm2 := hY hfm2
  have Hb5 := hY hb5
  have Hs := hY hs
  have Hs3 := hY hs3
  have HN := hY hN
  clear hL rd hR hz hf hw0 hw4 hw5 hw6 hfm2 hb5 hs hs3 hN
  go_enter Tryz.func20, Tryz.ntmps20
  go_wp2_with ((with_reducible refine Lay.bxQ (L := imgL) 32 m ?_ ?_); exact rfl)
  refine hY fun W1 bm ebm cbm xbm => ?_
  go_wp2_with (with_reducible refine Lay.alQ Tryz.tChn ?_)
  refine hY fun W2 b4 eb4 cb4 xb4 => ?_
  have S2 : Hid (RcW w W2 bm b4 m) := hY (⟨xbm.out.frame cb4.out, xb4.out, cbm.out.then cb4.out, by rw [ebm.out]; exact Nat.le_refl _, by rw [eb4.out]; exact xbm.out.lt⟩)
  clear ebm cbm xbm eb4 cb4 xb4
  go_wp2_with fail
  refine (HG0.out _ S2.out.cg).mono ?_
  rintro e W3 ⟨rfl, hc⟩
  have S3 := hY (S2.out.pure hc)
  clear hc
  go_wp2_with fail
  refine (HG24.out _ S3.out.cg).mono ?_
  rintro e W4 ⟨rfl, hc⟩
  have S4 := hY (S3.out.pure hc)
  clear hc
  go_wp2_with fail
  refine (HG20.out _ S4.out.cg).mono ?_
  rintro e W5 ⟨rfl, hc⟩
  have S5 := hY (S4.out.pure hc)
  clear hc
  go_wp2_with fail
  refine (HSZ.out _).mono ?_
  rintro e W6 ⟨rfl, hc⟩
  have S6 := hY (S5.out.pure hc)
  clear hc
  go_wp2_with fail
  refine (HG16.out _ S6.out.cg).mono ?_
  rintro e W7 ⟨rfl, hc⟩
  have S7 := hY (S6.out.pure hc)
  clear hc
  go_upto_region 10 with fail
  go_wp2_with ((with_reducible refine Lay.stQ Tryz.tChn Chn.zero (S7.out.r4) ?_ ?_ ?_); exact rfl; exact rfl)
  refine hY fun WZ cWZ xWZ => ?_
  go_step
  go_step
  rename_i hK0
  refine hK0 _ _ ?_
  refine wpList_nil ?_
  rename_i hKK _
  refine hKK _ _ ?_
  try (unfold Act.put; simp only [aS, aZ, aC])
  refine wp_ret ?_
  refine Lay.ret2 Tryz.tChn Tryz.results20 xWZ.out rfl rfl ?_
  exact chP_bad HB.out (S7.out.cg.new cWZ.out S7.out.l4)
end Go.Proofs.YtiljokmkiolpgaaGreatDoor
