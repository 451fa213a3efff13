/- Lemmas, laid together: part 9 of 42. Conditions: none but each lemma's own. -/
import Derived.Test.YtiljokmkiolpgaaGreatDoorJ8
import Derived.Test.YtiljokmkiolpgaaGreatDoorJ1
namespace Go.Proofs.YtiljokmkiolpgaaGreatDoor
open Go.RowKit
set_option maxRecDepth 100000
theorem tgt_1 (t h : Nat) (ht : t < 2 ^ 43) : tgt t 0 h = t % pow56 + h * pow56 := by
 have : (2 : Nat) ^ 43 = 8796093022208 := by decide
 have e : t % 18446744073709551616 = t := Nat.mod_eq_of_lt (by omega)
 rw [tgt_a, Nat.add_zero, e]
theorem addS_eq (n : Nat) : wrap64 ((bt n 32 18 : Int) - wrap64 ((bt n 50 1 : Int) * 262144)) = addS (bt n 32 19) := by
 unfold bt addS wrap64
 have e1 : (2 : Nat) ^ 32 = 4294967296 := by decide
 have e2 : (2 : Nat) ^ 18 = 262144 := by decide
 have e3 : (2 : Nat) ^ 50 = 1125899906842624 := by decide
 have e4 : (2 : Nat) ^ 19 = 524288 := by decide
 rw [e1, e2, e3, e4]
 split <;> omega
theorem two_bits (n : Nat) (hn : n < 18446744073709551616) : (bt n 62 2 = 0 ∧ bt n 62 1 ≠ 1 ∧ bt n 63 1 ≠ 1) ∨ (bt n 62 2 = 1 ∧ bt n 62 1 = 1 ∧ bt n 63 1 ≠ 1) ∨ (bt n 62 2 = 2 ∧ bt n 62 1 ≠ 1 ∧ bt n 63 1 = 1) ∨ (bt n 62 2 = 3 ∧ bt n 62 1 = 1 ∧ bt n 63 1 = 1) := by
 unfold bt
 have e1 : (2 : Nat) ^ 62 = 4611686018427387904 := by decide
 have e3 : (2 : Nat) ^ 63 = 9223372036854775808 := by decide
 rw [e1, e3]
 omega
set_option maxHeartbeats 8000000 in
theorem rlink_1 (n : Nat) (hn : n < 18446744073709551616) (m : Img) (ls : List Seg) (low : Nat) (hlow : lowS ls = low) (l : List Imp) (v : Value) (w : World) (rd : segL.Rd w m.segs.v ls) (rdI : impL.Rd w v l) (fm : Int) (hfm : fm = 1) :
  Calls Tryz.prog 23 #[.int .u64 n, .int .i64 fm, imgL.val m, v] w fun e w' => e = .returned (.tuple #[fyL.val (linkF low fm n l), .int .i64 (linkN low fm n l), .int .i64 (linkE low fm n l)]) ∧ Chg [] w w' := by
 have HL := hY (refLow_any m ls)
 rw [hlow] at HL
 clear hlow
 have Rd := hY rd
 have RdI := hY rdI
 clear rd rdI
 have H5111 : Hid (∀ w, Calls Tryz.prog 62 #[.int .u64 (n : Int), .int .i64 51, .int .i64 11] w fun e w' => e = .returned (.int .u64 (bt n 51 11 : Int)) ∧ Chg [] w w') := hY (fun w => (refbits_any n 51 11 hn (by decide) (by decide) w).mono (by rintro e w' ⟨h1, h2⟩; exact ⟨h1, (Chg.refl _ _).dr h2⟩))
 have H3218 : Hid (∀ w, Calls Tryz.prog 62 #[.int .u64 (n : Int), .int .i64 32, .int .i64 18] w fun e w' => e = .returned (.int .u64 (bt n 32 18 : Int)) ∧ Chg [] w w') := hY (fun w => (refbits_any n 32 18 hn (by decide) (by decide) w).mono (by rintro e w' ⟨h1, h2⟩; exact ⟨h1, (Chg.refl _ _).dr h2⟩))
 have H501 : Hid (∀ w, Calls Tryz.prog 62 #[.int .u64 (n : Int), .int .i64 50, .int .i64 1] w fun e w' => e = .returned (.int .u64 (bt n 50 1 : Int)) ∧ Chg [] w w') := hY (fun w => (refbits_any n 50 1 hn (by decide) (by decide) w).mono (by rintro e w' ⟨h1, h2⟩; exact ⟨h1, (Chg.refl _ _).dr h2⟩))
 have H622 : Hid (∀ w, Calls Tryz.prog 62 #[.int .u64 (n : Int), .int .i64 62, .int .i64 2] w fun e w' => e = .returned (.int .u64 (bt n 62 2 : Int)) ∧ Chg [] w w') := hY (fun w => (refbits_any n 62 2 hn (by decide) (by decide) w).mono (by rintro e w' ⟨h1, h2⟩; exact ⟨h1, (Chg.refl _ _).dr h2⟩))
 have H43 : Hid (∀ w, Calls Tryz.prog 62 #[.int .u64 (n : Int), .int .i64 0, .int .i64 43] w fun e w' => e = .returned (.int .u64 (bt n 0 43 : Int)) ∧ Chg [] w w') := hY (fun w => (refbits_any n 0 43 hn (by decide) (by decide) w).mono (by rintro e w' ⟨h1, h2⟩; exact ⟨h1, (Chg.refl _ _).dr h2⟩))
 have H438 : Hid (∀ w, Calls Tryz.prog 62 #[.int .u64 (n : Int), .int .i64 43, .int .i64 8] w fun e w' => e = .returned (.int .u64 (bt n 43 8 : Int)) ∧ Chg [] w w') := hY (fun w => (refbits_any n 43 8 hn (by decide) (by decide) w).mono (by rintro e w' ⟨h1, h2⟩; exact ⟨h1, (Chg.refl _ _).dr h2⟩))
 have H32 : Hid (∀ w, Calls Tryz.prog 62 #[.int .u64 (n : Int), .int .i64 0, .int .i64 32] w fun e w' => e = .returned (.int .u64 (bt n 0 32 : Int)) ∧ Chg [] w w') := hY (fun w => (refbits_any n 0 32 hn (by decide) (by decide) w).mono (by rintro e w' ⟨h1, h2⟩; exact ⟨h1, (Chg.refl _ _).dr h2⟩))
 have HN : Hid (∀ w, Calls Tryz.prog 62 #[.int .u64 (n : Int), .int .i64 0, .int .i64 16] w fun e w' => e = .returned (.int .u64 (bt n 0 16 : Int)) ∧ Chg [] w w') := hY (fun w => (refbits_any n 0 16 hn (by decide) (by decide) w).mono (by rintro e w' ⟨h1, h2⟩; exact ⟨h1, (Chg.refl _ _).dr h2⟩))
 have HP : Hid (∀ w, Calls Tryz.prog 65 #[.int .i64 18] w fun e w' => e = .returned (.int .u64 262144) ∧ Chg [] w w') := hY (fun w => (power_any 18 (by decide) w).mono (by rintro e w' ⟨h1, rfl⟩; exact ⟨h1, Chg.refl _ _⟩))
 have w51 : wrap64 (bt n 51 11 : Int) = (bt n 51 11 : Int) := by have := bt_lt n 51 11; unfold wrap64; omega
 have w32 : wrap64 (bt n 32 18 : Int) = (bt n 32 18 : Int) := by have := bt_lt n 32 18; unfold wrap64; omega
 have w50 : wrap64 (bt n 50 1 : Int) = (bt n 50 1 : Int) := by have := bt_lt n 50 1; unfold wrap64; omega
 have wS : wrap64 ((bt n 32 18 : Int) - wrap64 ((bt n 50 1 : Int) * 262144)) = addS (bt n 32 19) := addS_eq n
 have hS : linkS low fm n = some (youngS low false 16 n) := by subst hfm; simp [linkS]
 rcases two_bits n hn with ⟨hT, h62, h63⟩ | ⟨hT, h62, h63⟩ | ⟨hT, h62, h63⟩ | ⟨hT, h62, h63⟩
 ·have hO : youngS low false 16 n = ⟨false, 0, 0, (bt n 0 43 : Nat), bt n 43 8, bt n 51 11⟩ := by simp [youngS, h62, h63]
  rw [hO] at hS
  clear hO h62 h63
  have h43 := bt_lt n 0 43
  have h8 := bt_lt n 43 8
  have e1 : linkF low fm n l = rebF (bt n 0 43) (0) (bt n 43 8) := by
   rw [(link_reb l hS rfl).1]
   unfold rebF
   simp only [Int.toNat_natCast]
   rw [tgt_1 _ _ h43]
  have e2 : linkN low fm n l = (bt n 51 11 : Int) := (link_reb l hS rfl).2.1
  have e3 : linkE low fm n l = 0 := (link_reb l hS rfl).2.2
  rw [e1, e2, e3]
  clear e1 e2 e3 hS
  subst hfm
  have HRB : Hid (∀ w, Calls Tryz.prog 64 #[.int .u64 (bt n 0 43 : Int), .int .u64 0, .int .u64 (bt n 43 8 : Int)] w fun e w' => e = .returned (fyL.val (rebF (bt n 0 43) (0) (bt n 43 8))) ∧ Chg [] w w') := hY (rebase_any (bt n 0 43) (0) (bt n 43 8) h8)
  generalize rebF (bt n 0 43) (0) (bt n 43 8) = fx at *
  clear h43 h8 HN H32
  generalize bt n 51 11 = A at *
  generalize bt n 32 18 = X at *
  generalize bt n 50 1 = Y at *
  generalize addS (bt n 32 19) = S at *
  generalize bt n 62 2 = T at *
  generalize bt n 0 43 = D at *
  generalize bt n 43 8 = E at *
  subst hT
  go_enter Tryz.func23, Tryz.ntmps23
  go_wp2_with ((with_reducible refine Lay.bxQ (L := imgL) 32 m ?_ ?_); exact rfl)
  refine hY fun W1 bm ebm cbm xbm => ?_
  go_wp2_with (with_reducible refine Lay.alQ Tryz.tFy ?_)
  refine hY fun W2 br ebr cbr xbr => ?_
  go_wp2_with ((with_reducible refine Lay.ldQ Tryz.tImg m ((xbm.out.frame cbr.out).in) ?_ ?_); exact rfl)
  refine hY ?_
  go_wp2_with fail
  refine (HL.out _ ((Rd.out.frame cbm.out).frame cbr.out)).mono ?_
  rintro e W3 ⟨rfl, hc⟩
  have C3 := hY ((cbm.out.then cbr.out).then hc)
  have XR3 := hY (xbr.out.frame hc)
  clear hc
  go_wp2_with (with_reducible refine Lay.alQ Tryz.tFy ?_)
  refine hY fun W4 bf ebf cbf xbf => ?_
  have C := hY (C3.out.then cbf.out)
  have XF := hY (xbf.out)
  have XR := hY (XR3.out.frame cbf.out)
  have LB : Hid (w.heap.size ≤ br) := hY (by rw [ebr.out]; exact cbm.out.size)
  have LF : Hid (w.heap.size ≤ bf) := hY (by rw [ebf.out]; exact C3.out.size)
  have NE : Hid (br ≠ bf) := hY (by have := XR3.out.lt; have := ebf.out; omega)
  clear C3 XR3 xbf xbr cbr cbf ebr ebf
  go_wp2_with fail
  refine (H5111.out _).mono ?_
  rintro e W5 ⟨rfl, hc⟩
  replace C := hY (C.out.then hc)
  replace XF := hY (XF.out.frame hc)
  replace XR := hY (XR.out.frame hc)
  clear hc
  go_wp2_with fail
  refine (H3218.out _).mono ?_
  rintro e W6 ⟨rfl, hc⟩
  replace C := hY (C.out.then hc)
  replace XF := hY (XF.out.frame hc)
  replace XR := hY (XR.out.frame hc)
  clear hc
  go_wp2_with fail
  refine (H501.out _).mono ?_
  rintro e W7 ⟨rfl, hc⟩
  replace C := hY (C.out.then hc)
  replace XF := hY (XF.out.frame hc)
  replace XR := hY (XR.out.frame hc)
  clear hc
  go_wp2_with fail
  refine (HP.out _).mono ?_
  rintro e W8 ⟨rfl, hc⟩
  replace C := hY (C.out.then hc)
  replace XF := hY (XF.out.frame hc)
  replace XR := hY (XR.out.frame hc)
  clear hc
  go_wp2_with fail
  refine (H622.out _).mono ?_
  rintro e W9 ⟨rfl, hc⟩
  replace C := hY (C.out.then hc)
  replace XF := hY (XF.out.frame hc)
  replace XR := hY (XR.out.frame hc)
  clear hc
  go_wp2_with fail
  refine (H43.out _).mono ?_
  rintro e W10 ⟨rfl, hc⟩
  replace C := hY (C.out.then hc)
  replace XF := hY (XF.out.frame hc)
  replace XR := hY (XR.out.frame hc)
  clear hc
  go_wp2_with fail
  refine (H438.out _).mono ?_
  rintro e W11 ⟨rfl, hc⟩
  replace C := hY (C.out.then hc)
  replace XF := hY (XF.out.frame hc)
  replace XR := hY (XR.out.frame hc)
  clear hc
  go_wp2_with fail
  refine (HRB.out _).mono ?_
  rintro e W12 ⟨rfl, hc⟩
  replace C := hY (C.out.then hc)
  replace XF := hY (XF.out.frame hc)
  replace XR := hY (XR.out.frame hc)
  clear hc
  go_wp2_with ((with_reducible refine Lay.stQ Tryz.tFy fx (XF.out) ?_ ?_ ?_); exact rfl; exact rfl)
  refine hY fun WF cWF xWF => ?_
  replace C := hY (C.out.new cWF.out LF.out)
  replace XR := hY (XR.out.frameS cWF.out (by have := NE.out; simpa using this))
  have XG := hY (xWF.out)
  clear XF xWF cWF
  go_wp2_with ((with_reducible refine Lay.ldQ Tryz.tFy fx (XG.out.in) ?_ ?_); exact rfl)
  refine hY ?_
  go_wp2_with ((with_reducible refine Lay.stQ Tryz.tFy fx (XR.out) ?_ ?_ ?_); exact rfl; exact rfl)
  refine hY fun WZ cWZ xWZ => ?_
  go_wp2
  refine Lay.ret3 Tryz.tFy Tryz.results23 xWZ.out rfl rfl ?_
  exact ⟨rfl, C.out.new cWZ.out LB.out⟩
 ·have hO : youngS low false 16 n = ⟨true, bt n 0 16, addS (bt n 32 19), 0, 0, bt n 51 11⟩ := by simp [youngS, h62, h63]
  rw [hO] at hS
  clear hO h62 h63
  have e1 : linkF low fm n l = if bindN (bt n 0 16) l = 0 then bindF (bt n 0 16) (addS (bt n 32 19)) l else .zero := by simp [linkF, hS, fixN, fixF]
  have e2 : linkN low fm n l = if bindN (bt n 0 16) l = 0 then (bt n 51 11 : Int) else 0 := by simp [linkN, hS, fixN]
  have e3 : linkE low fm n l = bindN (bt n 0 16) l := by simp [linkE, hS, fixN]
  rw [e1, e2, e3]
  clear e1 e2 e3 hS
  subst hfm
  have hN2 := bt_lt n 0 16
  have HBI := hY (fun w => bind_any (bt n 0 16) (by omega) (addS (bt n 32 19)) l v w)
  clear hN2 H43 H438 H32
  generalize bt n 51 11 = A at *
  generalize bt n 32 18 = X at *
  generalize bt n 50 1 = Y at *
  generalize addS (bt n 32 19) = S at *
  generalize bt n 62 2 = T at *
  generalize bt n 0 16 = D at *
  subst hT
  generalize bindF (D) (S) l = fx at *
  generalize bindN (D) l = N at *
  by_cases hN : N = 0
  ·subst hN
   rw [if_pos rfl, if_pos rfl]
   go_enter Tryz.func23, Tryz.ntmps23
   go_wp2_with ((with_reducible refine Lay.bxQ (L := imgL) 32 m ?_ ?_); exact rfl)
   refine hY fun W1 bm ebm cbm xbm => ?_
   go_wp2_with (with_reducible refine Lay.alQ Tryz.tFy ?_)
   refine hY fun W2 br ebr cbr xbr => ?_
   go_wp2_with ((with_reducible refine Lay.ldQ Tryz.tImg m ((xbm.out.frame cbr.out).in) ?_ ?_); exact rfl)
   refine hY ?_
   go_wp2_with fail
   refine (HL.out _ ((Rd.out.frame cbm.out).frame cbr.out)).mono ?_
   rintro e W3 ⟨rfl, hc⟩
   have C3 := hY ((cbm.out.then cbr.out).then hc)
   have XR3 := hY (xbr.out.frame hc)
   clear hc
   go_wp2_with (with_reducible refine Lay.alQ Tryz.tFy ?_)
   refine hY fun W4 bf ebf cbf xbf => ?_
   have C := hY (C3.out.then cbf.out)
   have XF := hY (xbf.out)
   have XR := hY (XR3.out.frame cbf.out)
   have LB : Hid (w.heap.size ≤ br) := hY (by rw [ebr.out]; exact cbm.out.size)
   have LF : Hid (w.heap.size ≤ bf) := hY (by rw [ebf.out]; exact C3.out.size)
   have NE : Hid (br ≠ bf) := hY (by have := XR3.out.lt; have := ebf.out; omega)
   clear C3 XR3 xbf xbr cbr cbf ebr ebf
   go_wp2_with fail
   refine (H5111.out _).mono ?_
   rintro e W5 ⟨rfl, hc⟩
   replace C := hY (C.out.then hc)
   replace XF := hY (XF.out.frame hc)
   replace XR := hY (XR.out.frame hc)
   clear hc
   go_wp2_with fail
   refine (H3218.out _).mono ?_
   rintro e W6 ⟨rfl, hc⟩
   replace C := hY (C.out.then hc)
   replace XF := hY (XF.out.frame hc)
   replace XR := hY (XR.out.frame hc)
   clear hc
   go_wp2_with fail
   refine (H501.out _).mono ?_
   rintro e W7 ⟨rfl, hc⟩
   replace C := hY (C.out.then hc)
   replace XF := hY (XF.out.frame hc)
   replace XR := hY (XR.out.frame hc)
   clear hc
   go_wp2_with fail
   refine (HP.out _).mono ?_
   rintro e W8 ⟨rfl, hc⟩
   replace C := hY (C.out.then hc)
   replace XF := hY (XF.out.frame hc)
   replace XR := hY (XR.out.frame hc)
   clear hc
   go_wp2_with fail
   refine (H622.out _).mono ?_
   rintro e W9 ⟨rfl, hc⟩
   replace C := hY (C.out.then hc)
   replace XF := hY (XF.out.frame hc)
   replace XR := hY (XR.out.frame hc)
   clear hc
   go_wp2_with fail
   refine (HN.out _).mono ?_
   rintro e W10 ⟨rfl, hc⟩
   replace C := hY (C.out.then hc)
   replace XF := hY (XF.out.frame hc)
   replace XR := hY (XR.out.frame hc)
   clear hc
   go_wp2_with fail
   refine (HBI.out _ (RdI.out.frame C.out)).mono ?_
   rintro e WB ⟨rfl, hc⟩
   replace C := hY (C.out.then hc)
   replace XF := hY (XF.out.frame hc)
   replace XR := hY (XR.out.frame hc)
   clear hc
   go_wp2_with ((with_reducible refine Lay.stQ Tryz.tFy fx (XF.out) ?_ ?_ ?_); exact rfl; exact rfl)
   refine hY fun WF cWF xWF => ?_
   replace C := hY (C.out.new cWF.out LF.out)
   replace XR := hY (XR.out.frameS cWF.out (by have := NE.out; simpa using this))
   have XG := hY (xWF.out)
   clear XF xWF cWF
   go_wp2_with ((with_reducible refine Lay.ldQ Tryz.tFy fx (XG.out.in) ?_ ?_); exact rfl)
   refine hY ?_
   go_wp2_with ((with_reducible refine Lay.stQ Tryz.tFy fx (XR.out) ?_ ?_ ?_); exact rfl; exact rfl)
   refine hY fun WZ cWZ xWZ => ?_
   go_wp2
   refine Lay.ret3 Tryz.tFy Tryz.results23 xWZ.out rfl rfl ?_
   exact ⟨rfl, C.out.new cWZ.out LB.out⟩
  ·have dN : (N == 0) = false := by simpa using hN
   have dN2 : (N != 0) = true := by simpa using hN
   rw [if_neg hN, if_neg hN]
   clear hN
   go_enter Tryz.func23, Tryz.ntmps23
   go_wp2_with ((with_reducible refine Lay.bxQ (L := imgL) 32 m ?_ ?_); exact rfl)
   refine hY fun W1 bm ebm cbm xbm => ?_
   go_wp2_with (with_reducible refine Lay.alQ Tryz.tFy ?_)
   refine hY fun W2 br ebr cbr xbr => ?_
   go_wp2_with ((with_reducible refine Lay.ldQ Tryz.tImg m ((xbm.out.frame cbr.out).in) ?_ ?_); exact rfl)
   refine hY ?_
   go_wp2_with fail
   refine (HL.out _ ((Rd.out.frame cbm.out).frame cbr.out)).mono ?_
   rintro e W3 ⟨rfl, hc⟩
   have C3 := hY ((cbm.out.then cbr.out).then hc)
   have XR3 := hY (xbr.out.frame hc)
   clear hc
   go_wp2_with (with_reducible refine Lay.alQ Tryz.tFy ?_)
   refine hY fun W4 bf ebf cbf xbf => ?_
   have C := hY (C3.out.then cbf.out)
   have XF := hY (xbf.out)
   have XR := hY (XR3.out.frame cbf.out)
   have LB : Hid (w.heap.size ≤ br) := hY (by rw [ebr.out]; exact cbm.out.size)
   have LF : Hid (w.heap.size ≤ bf) := hY (by rw [ebf.out]; exact C3.out.size)
   have NE : Hid (br ≠ bf) := hY (by have := XR3.out.lt; have := ebf.out; omega)
   clear C3 XR3 xbf xbr cbr cbf ebr ebf
   go_wp2_with fail
   refine (H5111.out _).mono ?_
   rintro e W5 ⟨rfl, hc⟩
   replace C := hY (C.out.then hc)
   replace XF := hY (XF.out.frame hc)
   replace XR := hY (XR.out.frame hc)
   clear hc
   go_wp2_with fail
   refine (H3218.out _).mono ?_
   rintro e W6 ⟨rfl, hc⟩
   replace C := hY (C.out.then hc)
   replace XF := hY (XF.out.frame hc)
   replace XR := hY (XR.out.frame hc)
   clear hc
   go_wp2_with fail
   refine (H501.out _).mono ?_
   rintro e W7 ⟨rfl, hc⟩
   replace C := hY (C.out.then hc)
   replace XF := hY (XF.out.frame hc)
   replace XR := hY (XR.out.frame hc)
   clear hc
   go_wp2_with fail
   refine (HP.out _).mono ?_
   rintro e W8 ⟨rfl, hc⟩
   replace C := hY (C.out.then hc)
   replace XF := hY (XF.out.frame hc)
   replace XR := hY (XR.out.frame hc)
   clear hc
   go_wp2_with fail
   refine (H622.out _).mono ?_
   rintro e W9 ⟨rfl, hc⟩
   replace C := hY (C.out.then hc)
   replace XF := hY (XF.out.frame hc)
   replace XR := hY (XR.out.frame hc)
   clear hc
   go_wp2_with fail
   refine (HN.out _).mono ?_
   rintro e W10 ⟨rfl, hc⟩
   replace C := hY (C.out.then hc)
   replace XF := hY (XF.out.frame hc)
   replace XR := hY (XR.out.frame hc)
   clear hc
   go_wp2_with fail
   refine (HBI.out _ (RdI.out.frame C.out)).mono ?_
   rintro e WB ⟨rfl, hc⟩
   replace C := hY (C.out.then hc)
   replace XF := hY (XF.out.frame hc)
   replace XR := hY (XR.out.frame hc)
   clear hc
   go_wp2_with ((with_reducible refine Lay.stQ Tryz.tFy fx (XF.out) ?_ ?_ ?_); exact rfl; exact rfl)
   refine hY fun WF cWF xWF => ?_
   replace C := hY (C.out.new cWF.out LF.out)
   replace XR := hY (XR.out.frameS cWF.out (by have := NE.out; simpa using this))
   have XG := hY (xWF.out)
   clear XF xWF cWF
   go_wp2_with ((with_reducible refine Lay.stQ Tryz.tFy Fy.zero (XR.out) ?_ ?_ ?_); exact rfl; exact rfl)
   refine hY fun WZ cWZ xWZ => ?_
   go_wp2
   refine Lay.ret3 Tryz.tFy Tryz.results23 xWZ.out rfl rfl ?_
   exact ⟨rfl, C.out.new cWZ.out LB.out⟩
 ·have hO : youngS low false 16 n = ⟨false, 0, 0, ((low + bt n 0 32) % 18446744073709551616 : Nat), 0, bt n 51 11⟩ := by simp [youngS, h62, h63]
  rw [hO] at hS
  clear hO h62 h63
  have z0 : (0 : Int) = ((0 : Nat) : Int) := rfl
  rw [z0] at hS
  clear z0
  have e1 : linkF low fm n l = rebF (bt n 0 32) (low) (0) := by
   rw [(link_reb l hS rfl).1]
   unfold rebF
   simp only [Int.toNat_natCast]
   rw [tgt_a, Nat.add_comm low]
  have e2 : linkN low fm n l = (bt n 51 11 : Int) := (link_reb l hS rfl).2.1
  have e3 : linkE low fm n l = 0 := (link_reb l hS rfl).2.2
  rw [e1, e2, e3]
  clear e1 e2 e3 hS
  subst hfm
  have HRB : Hid (∀ w, Calls Tryz.prog 64 #[.int .u64 (bt n 0 32 : Int), .int .u64 (low : Int), .int .u64 0] w fun e w' => e = .returned (fyL.val (rebF (bt n 0 32) (low) (0))) ∧ Chg [] w w') := hY (rebase_any (bt n 0 32) (low) (0) (by decide))
  generalize rebF (bt n 0 32) (low) (0) = fx at *
  clear HN H43 H438
  generalize bt n 51 11 = A at *
  generalize bt n 32 18 = X at *
  generalize bt n 50 1 = Y at *
  generalize addS (bt n 32 19) = S at *
  generalize bt n 62 2 = T at *
  generalize bt n 0 32 = D at *
  subst hT
  go_enter Tryz.func23, Tryz.ntmps23
  go_wp2_with ((with_reducible refine Lay.bxQ (L := imgL) 32 m ?_ ?_); exact rfl)
  refine hY fun W1 bm ebm cbm xbm => ?_
  go_wp2_with (with_reducible refine Lay.alQ Tryz.tFy ?_)
  refine hY fun W2 br ebr cbr xbr => ?_
  go_wp2_with ((with_reducible refine Lay.ldQ Tryz.tImg m ((xbm.out.frame cbr.out).in) ?_ ?_); exact rfl)
  refine hY ?_
  go_wp2_with fail
  refine (HL.out _ ((Rd.out.frame cbm.out).frame cbr.out)).mono ?_
  rintro e W3 ⟨rfl, hc⟩
  have C3 := hY ((cbm.out.then cbr.out).then hc)
  have XR3 := hY (xbr.out.frame hc)
  clear hc
  go_wp2_with (with_reducible refine Lay.alQ Tryz.tFy ?_)
  refine hY fun W4 bf ebf cbf xbf => ?_
  have C := hY (C3.out.then cbf.out)
  have XF := hY (xbf.out)
  have XR := hY (XR3.out.frame cbf.out)
  have LB : Hid (w.heap.size ≤ br) := hY (by rw [ebr.out]; exact cbm.out.size)
  have LF : Hid (w.heap.size ≤ bf) := hY (by rw [ebf.out]; exact C3.out.size)
  have NE : Hid (br ≠ bf) := hY (by have := XR3.out.lt; have := ebf.out; omega)
  clear C3 XR3 xbf xbr cbr cbf ebr ebf
  go_wp2_with fail
  refine (H5111.out _).mono ?_
  rintro e W5 ⟨rfl, hc⟩
  replace C := hY (C.out.then hc)
  replace XF := hY (XF.out.frame hc)
  replace XR := hY (XR.out.frame hc)
  clear hc
  go_wp2_with fail
  refine (H3218.out _).mono ?_
  rintro e W6 ⟨rfl, hc⟩
  replace C := hY (C.out.then hc)
  replace XF := hY (XF.out.frame hc)
  replace XR := hY (XR.out.frame hc)
  clear hc
  go_wp2_with fail
  refine (H501.out _).mono ?_
  rintro e W7 ⟨rfl, hc⟩
  replace C := hY (C.out.then hc)
  replace XF := hY (XF.out.frame hc)
  replace XR := hY (XR.out.frame hc)
  clear hc
  go_wp2_with fail
  refine (HP.out _).mono ?_
  rintro e W8 ⟨rfl, hc⟩
  replace C := hY (C.out.then hc)
  replace XF := hY (XF.out.frame hc)
  replace XR := hY (XR.out.frame hc)
  clear hc
  go_wp2_with fail
  refine (H622.out _).mono ?_
  rintro e W9 ⟨rfl, hc⟩
  replace C := hY (C.out.then hc)
  replace XF := hY (XF.out.frame hc)
  replace XR := hY (XR.out.frame hc)
  clear hc
  go_wp2_with fail
  refine (H32.out _).mono ?_
  rintro e W10 ⟨rfl, hc⟩
  replace C := hY (C.out.then hc)
  replace XF := hY (XF.out.frame hc)
  replace XR := hY (XR.out.frame hc)
  clear hc
  go_wp2_with fail
  refine (HRB.out _).mono ?_
  rintro e W12 ⟨rfl, hc⟩
  replace C := hY (C.out.then hc)
  replace XF := hY (XF.out.frame hc)
  replace XR := hY (XR.out.frame hc)
  clear hc
  go_wp2_with ((with_reducible refine Lay.stQ Tryz.tFy fx (XF.out) ?_ ?_ ?_); exact rfl; exact rfl)
  refine hY fun WF cWF xWF => ?_
  replace C := hY (C.out.new cWF.out LF.out)
  replace XR := hY (XR.out.frameS cWF.out (by have := NE.out; simpa using this))
  have XG := hY (xWF.out)
  clear XF xWF cWF
  go_wp2_with ((with_reducible refine Lay.ldQ Tryz.tFy fx (XG.out.in) ?_ ?_); exact rfl)
  refine hY ?_
  go_wp2_with ((with_reducible refine Lay.stQ Tryz.tFy fx (XR.out) ?_ ?_ ?_); exact rfl; exact rfl)
  refine hY fun WZ cWZ xWZ => ?_
  go_wp2
  refine Lay.ret3 Tryz.tFy Tryz.results23 xWZ.out rfl rfl ?_
  exact ⟨rfl, C.out.new cWZ.out LB.out⟩
 ·have hO : youngS low false 16 n = ⟨true, bt n 0 16, 0, 0, 0, bt n 51 11⟩ := by simp [youngS, h62, h63]
  rw [hO] at hS
  clear hO h62 h63
  have e1 : linkF low fm n l = if bindN (bt n 0 16) l = 0 then bindF (bt n 0 16) (0) l else .zero := by simp [linkF, hS, fixN, fixF]
  have e2 : linkN low fm n l = if bindN (bt n 0 16) l = 0 then (bt n 51 11 : Int) else 0 := by simp [linkN, hS, fixN]
  have e3 : linkE low fm n l = bindN (bt n 0 16) l := by simp [linkE, hS, fixN]
  rw [e1, e2, e3]
  clear e1 e2 e3 hS
  subst hfm
  have hN2 := bt_lt n 0 16
  have HBI := hY (fun w => bind_any (bt n 0 16) (by omega) 0 l v w)
  clear hN2 H43 H438 H32
  generalize bt n 51 11 = A at *
  generalize bt n 32 18 = X at *
  generalize bt n 50 1 = Y at *
  generalize addS (bt n 32 19) = S at *
  generalize bt n 62 2 = T at *
  generalize bt n 0 16 = D at *
  subst hT
  generalize bindF (D) (0) l = fx at *
  generalize bindN (D) l = N at *
  by_cases hN : N = 0
  ·subst hN
   rw [if_pos rfl, if_pos rfl]
   go_enter Tryz.func23, Tryz.ntmps23
   go_wp2_with ((with_reducible refine Lay.bxQ (L := imgL) 32 m ?_ ?_); exact rfl)
   refine hY fun W1 bm ebm cbm xbm => ?_
   go_wp2_with (with_reducible refine Lay.alQ Tryz.tFy ?_)
   refine hY fun W2 br ebr cbr xbr => ?_
   go_wp2_with ((with_reducible refine Lay.ldQ Tryz.tImg m ((xbm.out.frame cbr.out).in) ?_ ?_); exact rfl)
   refine hY ?_
   go_wp2_with fail
   refine (HL.out _ ((Rd.out.frame cbm.out).frame cbr.out)).mono ?_
   rintro e W3 ⟨rfl, hc⟩
   have C3 := hY ((cbm.out.then cbr.out).then hc)
   have XR3 := hY (xbr.out.frame hc)
   clear hc
   go_wp2_with (with_reducible refine Lay.alQ Tryz.tFy ?_)
   refine hY fun W4 bf ebf cbf xbf => ?_
   have C := hY (C3.out.then cbf.out)
   have XF := hY (xbf.out)
   have XR := hY (XR3.out.frame cbf.out)
   have LB : Hid (w.heap.size ≤ br) := hY (by rw [ebr.out]; exact cbm.out.size)
   have LF : Hid (w.heap.size ≤ bf) := hY (by rw [ebf.out]; exact C3.out.size)
   have NE : Hid (br ≠ bf) := hY (by have := XR3.out.lt; have := ebf.out; omega)
   clear C3 XR3 xbf xbr cbr cbf ebr ebf
   go_wp2_with fail
   refine (H5111.out _).mono ?_
   rintro e W5 ⟨rfl, hc⟩
   replace C := hY (C.out.then hc)
   replace XF := hY (XF.out.frame hc)
   replace XR := hY (XR.out.frame hc)
   clear hc
   go_wp2_with fail
   refine (H3218.out _).mono ?_
   rintro e W6 ⟨rfl, hc⟩
   replace C := hY (C.out.then hc)
   replace XF := hY (XF.out.frame hc)
   replace XR := hY (XR.out.frame hc)
   clear hc
   go_wp2_with fail
   refine (H501.out _).mono ?_
   rintro e W7 ⟨rfl, hc⟩
   replace C := hY (C.out.then hc)
   replace XF := hY (XF.out.frame hc)
   replace XR := hY (XR.out.frame hc)
   clear hc
   go_wp2_with fail
   refine (HP.out _).mono ?_
   rintro e W8 ⟨rfl, hc⟩
   replace C := hY (C.out.then hc)
   replace XF := hY (XF.out.frame hc)
   replace XR := hY (XR.out.frame hc)
   clear hc
   go_wp2_with fail
   refine (H622.out _).mono ?_
   rintro e W9 ⟨rfl, hc⟩
   replace C := hY (C.out.then hc)
   replace XF := hY (XF.out.frame hc)
   replace XR := hY (XR.out.frame hc)
   clear hc
   go_wp2_with fail
   refine (HN.out _).mono ?_
   rintro e W10 ⟨rfl, hc⟩
   replace C := hY (C.out.then hc)
   replace XF := hY (XF.out.frame hc)
   replace XR := hY (XR.out.frame hc)
   clear hc
   go_wp2_with fail
   refine (HBI.out _ (RdI.out.frame C.out)).mono ?_
   rintro e WB ⟨rfl, hc⟩
   replace C := hY (C.out.then hc)
   replace XF := hY (XF.out.frame hc)
   replace XR := hY (XR.out.frame hc)
   clear hc
   go_wp2_with ((with_reducible refine Lay.stQ Tryz.tFy fx (XF.out) ?_ ?_ ?_); exact rfl; exact rfl)
   refine hY fun WF cWF xWF => ?_
   replace C := hY (C.out.new cWF.out LF.out)
   replace XR := hY (XR.out.frameS cWF.out (by have := NE.out; simpa using this))
   have XG := hY (xWF.out)
   clear XF xWF cWF
   go_wp2_with ((with_reducible refine Lay.ldQ Tryz.tFy fx (XG.out.in) ?_ ?_); exact rfl)
   refine hY ?_
   go_wp2_with ((with_reducible refine Lay.stQ Tryz.tFy fx (XR.out) ?_ ?_ ?_); exact rfl; exact rfl)
   refine hY fun WZ cWZ xWZ => ?_
   go_wp2
   refine Lay.ret3 Tryz.tFy Tryz.results23 xWZ.out rfl rfl ?_
   exact ⟨rfl, C.out.new cWZ.out LB.out⟩
  ·have dN : (N == 0) = false := by simpa using hN
   have dN2 : (N != 0) = true := by simpa using hN
   rw [if_neg hN, if_neg hN]
   clear hN
   go_enter Tryz.func23, Tryz.ntmps23
   go_wp2_with ((with_reducible refine Lay.bxQ (L := imgL) 32 m ?_ ?_); exact rfl)
   refine hY fun W1 bm ebm cbm xbm => ?_
   go_wp2_with (with_reducible refine Lay.alQ Tryz.tFy ?_)
   refine hY fun W2 br ebr cbr xbr => ?_
   go_wp2_with ((with_reducible refine Lay.ldQ Tryz.tImg m ((xbm.out.frame cbr.out).in) ?_ ?_); exact rfl)
   refine hY ?_
   go_wp2_with fail
   refine (HL.out _ ((Rd.out.frame cbm.out).frame cbr.out)).mono ?_
   rintro e W3 ⟨rfl, hc⟩
   have C3 := hY ((cbm.out.then cbr.out).then hc)
   have XR3 := hY (xbr.out.frame hc)
   clear hc
   go_wp2_with (with_reducible refine Lay.alQ Tryz.tFy ?_)
   refine hY fun W4 bf ebf cbf xbf => ?_
   have C := hY (C3.out.then cbf.out)
   have XF := hY (xbf.out)
   have XR := hY (XR3.out.frame cbf.out)
   have LB : Hid (w.heap.size ≤ br) := hY (by rw [ebr.out]; exact cbm.out.size)
   have LF : Hid (w.heap.size ≤ bf) := hY (by rw [ebf.out]; exact C3.out.size)
   have NE : Hid (br ≠ bf) := hY (by have := XR3.out.lt; have := ebf.out; omega)
   clear C3 XR3 xbf xbr cbr cbf ebr ebf
   go_wp2_with fail
   refine (H5111.out _).mono ?_
   rintro e W5 ⟨rfl, hc⟩
   replace C := hY (C.out.then hc)
   replace XF := hY (XF.out.frame hc)
   replace XR := hY (XR.out.frame hc)
   clear hc
   go_wp2_with fail
   refine (H3218.out _).mono ?_
   rintro e W6 ⟨rfl, hc⟩
   replace C := hY (C.out.then hc)
   replace XF := hY (XF.out.frame hc)
   replace XR := hY (XR.out.frame hc)
   clear hc
   go_wp2_with fail
   refine (H501.out _).mono ?_
   rintro e W7 ⟨rfl, hc⟩
   replace C := hY (C.out.then hc)
   replace XF := hY (XF.out.frame hc)
   replace XR := hY (XR.out.frame hc)
   clear hc
   go_wp2_with fail
   refine (HP.out _).mono ?_
   rintro e W8 ⟨rfl, hc⟩
   replace C := hY (C.out.then hc)
   replace XF := hY (XF.out.frame hc)
   replace XR := hY (XR.out.frame hc)
   clear hc
   go_wp2_with fail
   refine (H622.out _).mono ?_
   rintro e W9 ⟨rfl, hc⟩
   replace C := hY (C.out.then hc)
   replace XF := hY (XF.out.frame hc)
   replace XR := hY (XR.out.frame hc)
   clear hc
   go_wp2_with fail
   refine (HN.out _).mono ?_
   rintro e W10 ⟨rfl, hc⟩
   replace C := hY (C.out.then hc)
   replace XF := hY (XF.out.frame hc)
   replace XR := hY (XR.out.frame hc)
   clear hc
   go_wp2_with fail
   refine (HBI.out _ (RdI.out.frame C.out)).mono ?_
   rintro e WB ⟨rfl, hc⟩
   replace C := hY (C.out.then hc)
   replace XF := hY (XF.out.frame hc)
   replace XR := hY (XR.out.frame hc)
   clear hc
   go_wp2_with ((with_reducible refine Lay.stQ Tryz.tFy fx (XF.out) ?_ ?_ ?_); exact rfl; exact rfl)
   refine hY fun WF cWF xWF => ?_
   replace C := hY (C.out.new cWF.out LF.out)
   replace XR := hY (XR.out.frameS cWF.out (by have := NE.out; simpa using this))
   have XG := hY (xWF.out)
   clear XF xWF cWF
   go_wp2_with ((with_reducible refine Lay.stQ Tryz.tFy Fy.zero (XR.out) ?_ ?_ ?_); exact rfl; exact rfl)
   refine hY fun WZ cWZ xWZ => ?_
   go_wp2
   refine Lay.ret3 Tryz.tFy Tryz.results23 xWZ.out rfl rfl ?_
   exact ⟨rfl, C.out.new cWZ.out LB.out⟩
set_option maxHeartbeats 8000000 in
theorem rlink_12 (n : Nat) (hn : n < 18446744073709551616) (m : Img) (ls : List Seg) (low : Nat) (hlow : lowS ls = low) (l : List Imp) (v : Value) (w : World) (rd : segL.Rd w m.segs.v ls) (rdI : impL.Rd w v l) (fm : Int) (hfm : fm = 12) :
  Calls Tryz.prog 23 #[.int .u64 n, .int .i64 fm, imgL.val m, v] w fun e w' => e = .returned (.tuple #[fyL.val (linkF low fm n l), .int .i64 (linkN low fm n l), .int .i64 (linkE low fm n l)]) ∧ Chg [] w w' := by
 have HL := hY (refLow_any m ls)
 rw [hlow] at HL
 clear hlow
 have Rd := hY rd
 have RdI := hY rdI
 clear rd rdI
 have H5111 : Hid (∀ w, Calls Tryz.prog 62 #[.int .u64 (n : Int), .int .i64 51, .int .i64 11] w fun e w' => e = .returned (.int .u64 (bt n 51 11 : Int)) ∧ Chg [] w w') := hY (fun w => (refbits_any n 51 11 hn (by decide) (by decide) w).mono (by rintro e w' ⟨h1, h2⟩; exact ⟨h1, (Chg.refl _ _).dr h2⟩))
 have H3218 : Hid (∀ w, Calls Tryz.prog 62 #[.int .u64 (n : Int), .int .i64 32, .int .i64 18] w fun e w' => e = .returned (.int .u64 (bt n 32 18 : Int)) ∧ Chg [] w w') := hY (fun w => (refbits_any n 32 18 hn (by decide) (by decide) w).mono (by rintro e w' ⟨h1, h2⟩; exact ⟨h1, (Chg.refl _ _).dr h2⟩))
 have H501 : Hid (∀ w, Calls Tryz.prog 62 #[.int .u64 (n : Int), .int .i64 50, .int .i64 1] w fun e w' => e = .returned (.int .u64 (bt n 50 1 : Int)) ∧ Chg [] w w') := hY (fun w => (refbits_any n 50 1 hn (by decide) (by decide) w).mono (by rintro e w' ⟨h1, h2⟩; exact ⟨h1, (Chg.refl _ _).dr h2⟩))
 have H622 : Hid (∀ w, Calls Tryz.prog 62 #[.int .u64 (n : Int), .int .i64 62, .int .i64 2] w fun e w' => e = .returned (.int .u64 (bt n 62 2 : Int)) ∧ Chg [] w w') := hY (fun w => (refbits_any n 62 2 hn (by decide) (by decide) w).mono (by rintro e w' ⟨h1, h2⟩; exact ⟨h1, (Chg.refl _ _).dr h2⟩))
 have H43 : Hid (∀ w, Calls Tryz.prog 62 #[.int .u64 (n : Int), .int .i64 0, .int .i64 43] w fun e w' => e = .returned (.int .u64 (bt n 0 43 : Int)) ∧ Chg [] w w') := hY (fun w => (refbits_any n 0 43 hn (by decide) (by decide) w).mono (by rintro e w' ⟨h1, h2⟩; exact ⟨h1, (Chg.refl _ _).dr h2⟩))
 have H438 : Hid (∀ w, Calls Tryz.prog 62 #[.int .u64 (n : Int), .int .i64 43, .int .i64 8] w fun e w' => e = .returned (.int .u64 (bt n 43 8 : Int)) ∧ Chg [] w w') := hY (fun w => (refbits_any n 43 8 hn (by decide) (by decide) w).mono (by rintro e w' ⟨h1, h2⟩; exact ⟨h1, (Chg.refl _ _).dr h2⟩))
 have H32 : Hid (∀ w, Calls Tryz.prog 62 #[.int .u64 (n : Int), .int .i64 0, .int .i64 32] w fun e w' => e = .returned (.int .u64 (bt n 0 32 : Int)) ∧ Chg [] w w') := hY (fun w => (refbits_any n 0 32 hn (by decide) (by decide) w).mono (by rintro e w' ⟨h1, h2⟩; exact ⟨h1, (Chg.refl _ _).dr h2⟩))
 have HN : Hid (∀ w, Calls Tryz.prog 62 #[.int .u64 (n : Int), .int .i64 0, .int .i64 24] w fun e w' => e = .returned (.int .u64 (bt n 0 24 : Int)) ∧ Chg [] w w') := hY (fun w => (refbits_any n 0 24 hn (by decide) (by decide) w).mono (by rintro e w' ⟨h1, h2⟩; exact ⟨h1, (Chg.refl _ _).dr h2⟩))
 have HP : Hid (∀ w, Calls Tryz.prog 65 #[.int .i64 18] w fun e w' => e = .returned (.int .u64 262144) ∧ Chg [] w w') := hY (fun w => (power_any 18 (by decide) w).mono (by rintro e w' ⟨h1, rfl⟩; exact ⟨h1, Chg.refl _ _⟩))
 have w51 : wrap64 (bt n 51 11 : Int) = (bt n 51 11 : Int) := by have := bt_lt n 51 11; unfold wrap64; omega
 have w32 : wrap64 (bt n 32 18 : Int) = (bt n 32 18 : Int) := by have := bt_lt n 32 18; unfold wrap64; omega
 have w50 : wrap64 (bt n 50 1 : Int) = (bt n 50 1 : Int) := by have := bt_lt n 50 1; unfold wrap64; omega
 have wS : wrap64 ((bt n 32 18 : Int) - wrap64 ((bt n 50 1 : Int) * 262144)) = addS (bt n 32 19) := addS_eq n
 have hS : linkS low fm n = some (youngS low true 24 n) := by subst hfm; simp [linkS]
 rcases two_bits n hn with ⟨hT, h62, h63⟩ | ⟨hT, h62, h63⟩ | ⟨hT, h62, h63⟩ | ⟨hT, h62, h63⟩
 ·have hO : youngS low true 24 n = ⟨false, 0, 0, ((bt n 0 43 + low) % 18446744073709551616 : Nat), bt n 43 8, bt n 51 11⟩ := by simp [youngS, h62, h63]
  rw [hO] at hS
  clear hO h62 h63
  have h43 := bt_lt n 0 43
  have h8 := bt_lt n 43 8
  have e1 : linkF low fm n l = rebF (bt n 0 43) (low) (bt n 43 8) := by
   rw [(link_reb l hS rfl).1]
   unfold rebF
   simp only [Int.toNat_natCast]
   rw [tgt_a]
  have e2 : linkN low fm n l = (bt n 51 11 : Int) := (link_reb l hS rfl).2.1
  have e3 : linkE low fm n l = 0 := (link_reb l hS rfl).2.2
  rw [e1, e2, e3]
  clear e1 e2 e3 hS
  subst hfm
  have HRB : Hid (∀ w, Calls Tryz.prog 64 #[.int .u64 (bt n 0 43 : Int), .int .u64 (low : Int), .int .u64 (bt n 43 8 : Int)] w fun e w' => e = .returned (fyL.val (rebF (bt n 0 43) (low) (bt n 43 8))) ∧ Chg [] w w') := hY (rebase_any (bt n 0 43) (low) (bt n 43 8) h8)
  generalize rebF (bt n 0 43) (low) (bt n 43 8) = fx at *
  clear h43 h8 HN H32
  generalize bt n 51 11 = A at *
  generalize bt n 32 18 = X at *
  generalize bt n 50 1 = Y at *
  generalize addS (bt n 32 19) = S at *
  generalize bt n 62 2 = T at *
  generalize bt n 0 43 = D at *
  generalize bt n 43 8 = E at *
  subst hT
  go_enter Tryz.func23, Tryz.ntmps23
  go_wp2_with ((with_reducible refine Lay.bxQ (L := imgL) 32 m ?_ ?_); exact rfl)
  refine hY fun W1 bm ebm cbm xbm => ?_
  go_wp2_with (with_reducible refine Lay.alQ Tryz.tFy ?_)
  refine hY fun W2 br ebr cbr xbr => ?_
  go_wp2_with ((with_reducible refine Lay.ldQ Tryz.tImg m ((xbm.out.frame cbr.out).in) ?_ ?_); exact rfl)
  refine hY ?_
  go_wp2_with fail
  refine (HL.out _ ((Rd.out.frame cbm.out).frame cbr.out)).mono ?_
  rintro e W3 ⟨rfl, hc⟩
  have C3 := hY ((cbm.out.then cbr.out).then hc)
  have XR3 := hY (xbr.out.frame hc)
  clear hc
  go_wp2_with (with_reducible refine Lay.alQ Tryz.tFy ?_)
  refine hY fun W4 bf ebf cbf xbf => ?_
  have C := hY (C3.out.then cbf.out)
  have XF := hY (xbf.out)
  have XR := hY (XR3.out.frame cbf.out)
  have LB : Hid (w.heap.size ≤ br) := hY (by rw [ebr.out]; exact cbm.out.size)
  have LF : Hid (w.heap.size ≤ bf) := hY (by rw [ebf.out]; exact C3.out.size)
  have NE : Hid (br ≠ bf) := hY (by have := XR3.out.lt; have := ebf.out; omega)
  clear C3 XR3 xbf xbr cbr cbf ebr ebf
  go_wp2_with fail
  refine (H5111.out _).mono ?_
  rintro e W5 ⟨rfl, hc⟩
  replace C := hY (C.out.then hc)
  replace XF := hY (XF.out.frame hc)
  replace XR := hY (XR.out.frame hc)
  clear hc
  go_wp2_with fail
  refine (H3218.out _).mono ?_
  rintro e W6 ⟨rfl, hc⟩
  replace C := hY (C.out.then hc)
  replace XF := hY (XF.out.frame hc)
  replace XR := hY (XR.out.frame hc)
  clear hc
  go_wp2_with fail
  refine (H501.out _).mono ?_
  rintro e W7 ⟨rfl, hc⟩
  replace C := hY (C.out.then hc)
  replace XF := hY (XF.out.frame hc)
  replace XR := hY (XR.out.frame hc)
  clear hc
  go_wp2_with fail
  refine (HP.out _).mono ?_
  rintro e W8 ⟨rfl, hc⟩
  replace C := hY (C.out.then hc)
  replace XF := hY (XF.out.frame hc)
  replace XR := hY (XR.out.frame hc)
  clear hc
  go_wp2_with fail
  refine (H622.out _).mono ?_
  rintro e W9 ⟨rfl, hc⟩
  replace C := hY (C.out.then hc)
  replace XF := hY (XF.out.frame hc)
  replace XR := hY (XR.out.frame hc)
  clear hc
  go_wp2_with fail
  refine (H43.out _).mono ?_
  rintro e W10 ⟨rfl, hc⟩
  replace C := hY (C.out.then hc)
  replace XF := hY (XF.out.frame hc)
  replace XR := hY (XR.out.frame hc)
  clear hc
  go_wp2_with fail
  refine (H438.out _).mono ?_
  rintro e W11 ⟨rfl, hc⟩
  replace C := hY (C.out.then hc)
  replace XF := hY (XF.out.frame hc)
  replace XR := hY (XR.out.frame hc)
  clear hc
  go_wp2_with fail
  refine (HRB.out _).mono ?_
  rintro e W12 ⟨rfl, hc⟩
  replace C := hY (C.out.then hc)
  replace XF := hY (XF.out.frame hc)
  replace XR := hY (XR.out.frame hc)
  clear hc
  go_wp2_with ((with_reducible refine Lay.stQ Tryz.tFy fx (XF.out) ?_ ?_ ?_); exact rfl; exact rfl)
  refine hY fun WF cWF xWF => ?_
  replace C := hY (C.out.new cWF.out LF.out)
  replace XR := hY (XR.out.frameS cWF.out (by have := NE.out; simpa using this))
  have XG := hY (xWF.out)
  clear XF xWF cWF
  go_wp2_with ((with_reducible refine Lay.ldQ Tryz.tFy fx (XG.out.in) ?_ ?_); exact rfl)
  refine hY ?_
  go_wp2_with ((with_reducible refine Lay.stQ Tryz.tFy fx (XR.out) ?_ ?_ ?_); exact rfl; exact rfl)
  refine hY fun WZ cWZ xWZ => ?_
  go_wp2
  refine Lay.ret3 Tryz.tFy Tryz.results23 xWZ.out rfl rfl ?_
  exact ⟨rfl, C.out.new cWZ.out LB.out⟩
 ·have hO : youngS low true 24 n = ⟨true, bt n 0 24, addS (bt n 32 19), 0, 0, bt n 51 11⟩ := by simp [youngS, h62, h63]
  rw [hO] at hS
  clear hO h62 h63
  have e1 : linkF low fm n l = if bindN (bt n 0 24) l = 0 then bindF (bt n 0 24) (addS (bt n 32 19)) l else .zero := by simp [linkF, hS, fixN, fixF]
  have e2 : linkN low fm n l = if bindN (bt n 0 24) l = 0 then (bt n 51 11 : Int) else 0 := by simp [linkN, hS, fixN]
  have e3 : linkE low fm n l = bindN (bt n 0 24) l := by simp [linkE, hS, fixN]
  rw [e1, e2, e3]
  clear e1 e2 e3 hS
  subst hfm
  have hN2 := bt_lt n 0 24
  have HBI := hY (fun w => bind_any (bt n 0 24) (by omega) (addS (bt n 32 19)) l v w)
  clear hN2 H43 H438 H32
  generalize bt n 51 11 = A at *
  generalize bt n 32 18 = X at *
  generalize bt n 50 1 = Y at *
  generalize addS (bt n 32 19) = S at *
  generalize bt n 62 2 = T at *
  generalize bt n 0 24 = D at *
  subst hT
  generalize bindF (D) (S) l = fx at *
  generalize bindN (D) l = N at *
  by_cases hN : N = 0
  ·subst hN
   rw [if_pos rfl, if_pos rfl]
   go_enter Tryz.func23, Tryz.ntmps23
   go_wp2_with ((with_reducible refine Lay.bxQ (L := imgL) 32 m ?_ ?_); exact rfl)
   refine hY fun W1 bm ebm cbm xbm => ?_
   go_wp2_with (with_reducible refine Lay.alQ Tryz.tFy ?_)
   refine hY fun W2 br ebr cbr xbr => ?_
   go_wp2_with ((with_reducible refine Lay.ldQ Tryz.tImg m ((xbm.out.frame cbr.out).in) ?_ ?_); exact rfl)
   refine hY ?_
   go_wp2_with fail
   refine (HL.out _ ((Rd.out.frame cbm.out).frame cbr.out)).mono ?_
   rintro e W3 ⟨rfl, hc⟩
   have C3 := hY ((cbm.out.then cbr.out).then hc)
   have XR3 := hY (xbr.out.frame hc)
   clear hc
   go_wp2_with (with_reducible refine Lay.alQ Tryz.tFy ?_)
   refine hY fun W4 bf ebf cbf xbf => ?_
   have C := hY (C3.out.then cbf.out)
   have XF := hY (xbf.out)
   have XR := hY (XR3.out.frame cbf.out)
   have LB : Hid (w.heap.size ≤ br) := hY (by rw [ebr.out]; exact cbm.out.size)
   have LF : Hid (w.heap.size ≤ bf) := hY (by rw [ebf.out]; exact C3.out.size)
   have NE : Hid (br ≠ bf) := hY (by have := XR3.out.lt; have := ebf.out; omega)
   clear C3 XR3 xbf xbr cbr cbf ebr ebf
   go_wp2_with fail
   refine (H5111.out _).mono ?_
   rintro e W5 ⟨rfl, hc⟩
   replace C := hY (C.out.then hc)
   replace XF := hY (XF.out.frame hc)
   replace XR := hY (XR.out.frame hc)
   clear hc
   go_wp2_with fail
   refine (H3218.out _).mono ?_
   rintro e W6 ⟨rfl, hc⟩
   replace C := hY (C.out.then hc)
   replace XF := hY (XF.out.frame hc)
   replace XR := hY (XR.out.frame hc)
   clear hc
   go_wp2_with fail
   refine (H501.out _).mono ?_
   rintro e W7 ⟨rfl, hc⟩
   replace C := hY (C.out.then hc)
   replace XF := hY (XF.out.frame hc)
   replace XR := hY (XR.out.frame hc)
   clear hc
   go_wp2_with fail
   refine (HP.out _).mono ?_
   rintro e W8 ⟨rfl, hc⟩
   replace C := hY (C.out.then hc)
   replace XF := hY (XF.out.frame hc)
   replace XR := hY (XR.out.frame hc)
   clear hc
   go_wp2_with fail
   refine (H622.out _).mono ?_
   rintro e W9 ⟨rfl, hc⟩
   replace C := hY (C.out.then hc)
   replace XF := hY (XF.out.frame hc)
   replace XR := hY (XR.out.frame hc)
   clear hc
   go_wp2_with fail
   refine (HN.out _).mono ?_
   rintro e W10 ⟨rfl, hc⟩
   replace C := hY (C.out.then hc)
   replace XF := hY (XF.out.frame hc)
   replace XR := hY (XR.out.frame hc)
   clear hc
   go_wp2_with fail
   refine (HBI.out _ (RdI.out.frame C.out)).mono ?_
   rintro e WB ⟨rfl, hc⟩
   replace C := hY (C.out.then hc)
   replace XF := hY (XF.out.frame hc)
   replace XR := hY (XR.out.frame hc)
   clear hc
   go_wp2_with ((with_reducible refine Lay.stQ Tryz.tFy fx (XF.out) ?_ ?_ ?_); exact rfl; exact rfl)
   refine hY fun WF cWF xWF => ?_
   replace C := hY (C.out.new cWF.out LF.out)
   replace XR := hY (XR.out.frameS cWF.out (by have := NE.out; simpa using this))
   have XG := hY (xWF.out)
   clear XF xWF cWF
   go_wp2_with ((with_reducible refine Lay.ldQ Tryz.tFy fx (XG.out.in) ?_ ?_); exact rfl)
   refine hY ?_
   go_wp2_with ((with_reducible refine Lay.stQ Tryz.tFy fx (XR.out) ?_ ?_ ?_); exact rfl; exact rfl)
   refine hY fun WZ cWZ xWZ => ?_
   go_wp2
   refine Lay.ret3 Tryz.tFy Tryz.results23 xWZ.out rfl rfl ?_
   exact ⟨rfl, C.out.new cWZ.out LB.out⟩
  ·have dN : (N == 0) = false := by simpa using hN
   have dN2 : (N != 0) = true := by simpa using hN
   rw [if_neg hN, if_neg hN]
   clear hN
   go_enter Tryz.func23, Tryz.ntmps23
   go_wp2_with ((with_reducible refine Lay.bxQ (L := imgL) 32 m ?_ ?_); exact rfl)
   refine hY fun W1 bm ebm cbm xbm => ?_
   go_wp2_with (with_reducible refine Lay.alQ Tryz.tFy ?_)
   refine hY fun W2 br ebr cbr xbr => ?_
   go_wp2_with ((with_reducible refine Lay.ldQ Tryz.tImg m ((xbm.out.frame cbr.out).in) ?_ ?_); exact rfl)
   refine hY ?_
   go_wp2_with fail
   refine (HL.out _ ((Rd.out.frame cbm.out).frame cbr.out)).mono ?_
   rintro e W3 ⟨rfl, hc⟩
   have C3 := hY ((cbm.out.then cbr.out).then hc)
   have XR3 := hY (xbr.out.frame hc)
   clear hc
   go_wp2_with (with_reducible refine Lay.alQ Tryz.tFy ?_)
   refine hY fun W4 bf ebf cbf xbf => ?_
   have C := hY (C3.out.then cbf.out)
   have XF := hY (xbf.out)
   have XR := hY (XR3.out.frame cbf.out)
   have LB : Hid (w.heap.size ≤ br) := hY (by rw [ebr.out]; exact cbm.out.size)
   have LF : Hid (w.heap.size ≤ bf) := hY (by rw [ebf.out]; exact C3.out.size)
   have NE : Hid (br ≠ bf) := hY (by have := XR3.out.lt; have := ebf.out; omega)
   clear C3 XR3 xbf xbr cbr cbf ebr ebf
   go_wp2_with fail
   refine (H5111.out _).mono ?_
   rintro e W5 ⟨rfl, hc⟩
   replace C := hY (C.out.then hc)
   replace XF := hY (XF.out.frame hc)
   replace XR := hY (XR.out.frame hc)
   clear hc
   go_wp2_with fail
   refine (H3218.out _).mono ?_
   rintro e W6 ⟨rfl, hc⟩
   replace C := hY (C.out.then hc)
   replace XF := hY (XF.out.frame hc)
   replace XR := hY (XR.out.frame hc)
   clear hc
   go_wp2_with fail
   refine (H501.out _).mono ?_
   rintro e W7 ⟨rfl, hc⟩
   replace C := hY (C.out.then hc)
   replace XF := hY (XF.out.frame hc)
   replace XR := hY (XR.out.frame hc)
   clear hc
   go_wp2_with fail
   refine (HP.out _).mono ?_
   rintro e W8 ⟨rfl, hc⟩
   replace C := hY (C.out.then hc)
   replace XF := hY (XF.out.frame hc)
   replace XR := hY (XR.out.frame hc)
   clear hc
   go_wp2_with fail
   refine (H622.out _).mono ?_
   rintro e W9 ⟨rfl, hc⟩
   replace C := hY (C.out.then hc)
   replace XF := hY (XF.out.frame hc)
   replace XR := hY (XR.out.frame hc)
   clear hc
   go_wp2_with fail
   refine (HN.out _).mono ?_
   rintro e W10 ⟨rfl, hc⟩
   replace C := hY (C.out.then hc)
   replace XF := hY (XF.out.frame hc)
   replace XR := hY (XR.out.frame hc)
   clear hc
   go_wp2_with fail
   refine (HBI.out _ (RdI.out.frame C.out)).mono ?_
   rintro e WB ⟨rfl, hc⟩
   replace C := hY (C.out.then hc)
   replace XF := hY (XF.out.frame hc)
   replace XR := hY (XR.out.frame hc)
   clear hc
   go_wp2_with ((with_reducible refine Lay.stQ Tryz.tFy fx (XF.out) ?_ ?_ ?_); exact rfl; exact rfl)
   refine hY fun WF cWF xWF => ?_
   replace C := hY (C.out.new cWF.out LF.out)
   replace XR := hY (XR.out.frameS cWF.out (by have := NE.out; simpa using this))
   have XG := hY (xWF.out)
   clear XF xWF cWF
   go_wp2_with ((with_reducible refine Lay.stQ Tryz.tFy Fy.zero (XR.out) ?_ ?_ ?_); exact rfl; exact rfl)
   refine hY fun WZ cWZ xWZ => ?_
   go_wp2
   refine Lay.ret3 Tryz.tFy Tryz.results23 xWZ.out rfl rfl ?_
   exact ⟨rfl, C.out.new cWZ.out LB.out⟩
 ·have hO : youngS low true 24 n = ⟨false, 0, 0, ((low + bt n 0 32) % 18446744073709551616 : Nat), 0, bt n 51 11⟩ := by simp [youngS, h62, h63]
  rw [hO] at hS
  clear hO h62 h63
  have z0 : (0 : Int) = ((0 : Nat) : Int) := rfl
  rw [z0] at hS
  clear z0
  have e1 : linkF low fm n l = rebF (bt n 0 32) (low) (0) := by
   rw [(link_reb l hS rfl).1]
   unfold rebF
   simp only [Int.toNat_natCast]
   rw [tgt_a, Nat.add_comm low]
  have e2 : linkN low fm n l = (bt n 51 11 : Int) := (link_reb l hS rfl).2.1
  have e3 : linkE low fm n l = 0 := (link_reb l hS rfl).2.2
  rw [e1, e2, e3]
  clear e1 e2 e3 hS
  subst hfm
  have HRB : Hid (∀ w, Calls Tryz.prog 64 #[.int .u64 (bt n 0 32 : Int), .int .u64 (low : Int), .int .u64 0] w fun e w' => e = .returned (fyL.val (rebF (bt n 0 32) (low) (0))) ∧ Chg [] w w') := hY (rebase_any (bt n 0 32) (low) (0) (by decide))
  generalize rebF (bt n 0 32) (low) (0) = fx at *
  clear HN H43 H438
  generalize bt n 51 11 = A at *
  generalize bt n 32 18 = X at *
  generalize bt n 50 1 = Y at *
  generalize addS (bt n 32 19) = S at *
  generalize bt n 62 2 = T at *
  generalize bt n 0 32 = D at *
  subst hT
  go_enter Tryz.func23, Tryz.ntmps23
  go_wp2_with ((with_reducible refine Lay.bxQ (L := imgL) 32 m ?_ ?_); exact rfl)
  refine hY fun W1 bm ebm cbm xbm => ?_
  go_wp2_with (with_reducible refine Lay.alQ Tryz.tFy ?_)
  refine hY fun W2 br ebr cbr xbr => ?_
  go_wp2_with ((with_reducible refine Lay.ldQ Tryz.tImg m ((xbm.out.frame cbr.out).in) ?_ ?_); exact rfl)
  refine hY ?_
  go_wp2_with fail
  refine (HL.out _ ((Rd.out.frame cbm.out).frame cbr.out)).mono ?_
  rintro e W3 ⟨rfl, hc⟩
  have C3 := hY ((cbm.out.then cbr.out).then hc)
  have XR3 := hY (xbr.out.frame hc)
  clear hc
  go_wp2_with (with_reducible refine Lay.alQ Tryz.tFy ?_)
  refine hY fun W4 bf ebf cbf xbf => ?_
  have C := hY (C3.out.then cbf.out)
  have XF := hY (xbf.out)
  have XR := hY (XR3.out.frame cbf.out)
  have LB : Hid (w.heap.size ≤ br) := hY (by rw [ebr.out]; exact cbm.out.size)
  have LF : Hid (w.heap.size ≤ bf) := hY (by rw [ebf.out]; exact C3.out.size)
  have NE : Hid (br ≠ bf) := hY (by have := XR3.out.lt; have := ebf.out; omega)
  clear C3 XR3 xbf xbr cbr cbf ebr ebf
  go_wp2_with fail
  refine (H5111.out _).mono ?_
  rintro e W5 ⟨rfl, hc⟩
  replace C := hY (C.out.then hc)
  replace XF := hY (XF.out.frame hc)
  replace XR := hY (XR.out.frame hc)
  clear hc
  go_wp2_with fail
  refine (H3218.out _).mono ?_
  rintro e W6 ⟨rfl, hc⟩
  replace C := hY (C.out.then hc)
  replace XF := hY (XF.out.frame hc)
  replace XR := hY (XR.out.frame hc)
  clear hc
  go_wp2_with fail
  refine (H501.out _).mono ?_
  rintro e W7 ⟨rfl, hc⟩
  replace C := hY (C.out.then hc)
  replace XF := hY (XF.out.frame hc)
  replace XR := hY (XR.out.frame hc)
  clear hc
  go_wp2_with fail
  refine (HP.out _).mono ?_
  rintro e W8 ⟨rfl, hc⟩
  replace C := hY (C.out.then hc)
  replace XF := hY (XF.out.frame hc)
  replace XR := hY (XR.out.frame hc)
  clear hc
  go_wp2_with fail
  refine (H622.out _).mono ?_
  rintro e W9 ⟨rfl, hc⟩
  replace C := hY (C.out.then hc)
  replace XF := hY (XF.out.frame hc)
  replace XR := hY (XR.out.frame hc)
  clear hc
  go_wp2_with fail
  refine (H32.out _).mono ?_
  rintro e W10 ⟨rfl, hc⟩
  replace C := hY (C.out.then hc)
  replace XF := hY (XF.out.frame hc)
  replace XR := hY (XR.out.frame hc)
  clear hc
  go_wp2_with fail
  refine (HRB.out _).mono ?_
  rintro e W12 ⟨rfl, hc⟩
  replace C := hY (C.out.then hc)
  replace XF := hY (XF.out.frame hc)
  replace XR := hY (XR.out.frame hc)
  clear hc
  go_wp2_with ((with_reducible refine Lay.stQ Tryz.tFy fx (XF.out) ?_ ?_ ?_); exact rfl; exact rfl)
  refine hY fun WF cWF xWF => ?_
  replace C := hY (C.out.new cWF.out LF.out)
  replace XR := hY (XR.out.frameS cWF.out (by have := NE.out; simpa using this))
  have XG := hY (xWF.out)
  clear XF xWF cWF
  go_wp2_with ((with_reducible refine Lay.ldQ Tryz.tFy fx (XG.out.in) ?_ ?_); exact rfl)
  refine hY ?_
  go_wp2_with ((with_reducible refine Lay.stQ Tryz.tFy fx (XR.out) ?_ ?_ ?_); exact rfl; exact rfl)
  refine hY fun WZ cWZ xWZ => ?_
  go_wp2
  refine Lay.ret3 Tryz.tFy Tryz.results23 xWZ.out rfl rfl ?_
  exact ⟨rfl, C.out.new cWZ.out LB.out⟩
 ·have hO : youngS low true 24 n = ⟨true, bt n 0 24, 0, 0, 0, bt n 51 11⟩ := by simp [youngS, h62, h63]
  rw [hO] at hS
  clear hO h62 h63
  have e1 : linkF low fm n l = if bindN (bt n 0 24) l = 0 then bindF (bt n 0 24) (0) l else .zero := by simp [linkF, hS, fixN, fixF]
  have e2 : linkN low fm n l = if bindN (bt n 0 24) l = 0 then (bt n 51 11 : Int) else 0 := by simp [linkN, hS, fixN]
  have e3 : linkE low fm n l = bindN (bt n 0 24) l := by simp [linkE, hS, fixN]
  rw [e1, e2, e3]
  clear e1 e2 e3 hS
  subst hfm
  have hN2 := bt_lt n 0 24
  have HBI := hY (fun w => bind_any (bt n 0 24) (by omega) 0 l v w)
  clear hN2 H43 H438 H32
  generalize bt n 51 11 = A at *
  generalize bt n 32 18 = X at *
  generalize bt n 50 1 = Y at *
  generalize addS (bt n 32 19) = S at *
  generalize bt n 62 2 = T at *
  generalize bt n 0 24 = D at *
  subst hT
  generalize bindF (D) (0) l = fx at *
  generalize bindN (D) l = N at *
  by_cases hN : N = 0
  ·subst hN
   rw [if_pos rfl, if_pos rfl]
   go_enter Tryz.func23, Tryz.ntmps23
   go_wp2_with ((with_reducible refine Lay.bxQ (L := imgL) 32 m ?_ ?_); exact rfl)
   refine hY fun W1 bm ebm cbm xbm => ?_
   go_wp2_with (with_reducible refine Lay.alQ Tryz.tFy ?_)
   refine hY fun W2 br ebr cbr xbr => ?_
   go_wp2_with ((with_reducible refine Lay.ldQ Tryz.tImg m ((xbm.out.frame cbr.out).in) ?_ ?_); exact rfl)
   refine hY ?_
   go_wp2_with fail
   refine (HL.out _ ((Rd.out.frame cbm.out).frame cbr.out)).mono ?_
   rintro e W3 ⟨rfl, hc⟩
   have C3 := hY ((cbm.out.then cbr.out).then hc)
   have XR3 := hY (xbr.out.frame hc)
   clear hc
   go_wp2_with (with_reducible refine Lay.alQ Tryz.tFy ?_)
   refine hY fun W4 bf ebf cbf xbf => ?_
   have C := hY (C3.out.then cbf.out)
   have XF := hY (xbf.out)
   have XR := hY (XR3.out.frame cbf.out)
   have LB : Hid (w.heap.size ≤ br) := hY (by rw [ebr.out]; exact cbm.out.size)
   have LF : Hid (w.heap.size ≤ bf) := hY (by rw [ebf.out]; exact C3.out.size)
   have NE : Hid (br ≠ bf) := hY (by have := XR3.out.lt; have := ebf.out; omega)
   clear C3 XR3 xbf xbr cbr cbf ebr ebf
   go_wp2_with fail
   refine (H5111.out _).mono ?_
   rintro e W5 ⟨rfl, hc⟩
   replace C := hY (C.out.then hc)
   replace XF := hY (XF.out.frame hc)
   replace XR := hY (XR.out.frame hc)
   clear hc
   go_wp2_with fail
   refine (H3218.out _).mono ?_
   rintro e W6 ⟨rfl, hc⟩
   replace C := hY (C.out.then hc)
   replace XF := hY (XF.out.frame hc)
   replace XR := hY (XR.out.frame hc)
   clear hc
   go_wp2_with fail
   refine (H501.out _).mono ?_
   rintro e W7 ⟨rfl, hc⟩
   replace C := hY (C.out.then hc)
   replace XF := hY (XF.out.frame hc)
   replace XR := hY (XR.out.frame hc)
   clear hc
   go_wp2_with fail
   refine (HP.out _).mono ?_
   rintro e W8 ⟨rfl, hc⟩
   replace C := hY (C.out.then hc)
   replace XF := hY (XF.out.frame hc)
   replace XR := hY (XR.out.frame hc)
   clear hc
   go_wp2_with fail
   refine (H622.out _).mono ?_
   rintro e W9 ⟨rfl, hc⟩
   replace C := hY (C.out.then hc)
   replace XF := hY (XF.out.frame hc)
   replace XR := hY (XR.out.frame hc)
   clear hc
   go_wp2_with fail
   refine (HN.out _).mono ?_
   rintro e W10 ⟨rfl, hc⟩
   replace C := hY (C.out.then hc)
   replace XF := hY (XF.out.frame hc)
   replace XR := hY (XR.out.frame hc)
   clear hc
   go_wp2_with fail
   refine (HBI.out _ (RdI.out.frame C.out)).mono ?_
   rintro e WB ⟨rfl, hc⟩
   replace C := hY (C.out.then hc)
   replace XF := hY (XF.out.frame hc)
   replace XR := hY (XR.out.frame hc)
   clear hc
   go_wp2_with ((with_reducible refine Lay.stQ Tryz.tFy fx (XF.out) ?_ ?_ ?_); exact rfl; exact rfl)
   refine hY fun WF cWF xWF => ?_
   replace C := hY (C.out.new cWF.out LF.out)
   replace XR := hY (XR.out.frameS cWF.out (by have := NE.out; simpa using this))
   have XG := hY (xWF.out)
   clear XF xWF cWF
   go_wp2_with ((with_reducible refine Lay.ldQ Tryz.tFy fx (XG.out.in) ?_ ?_); exact rfl)
   refine hY ?_
   go_wp2_with ((with_reducible refine Lay.stQ Tryz.tFy fx (XR.out) ?_ ?_ ?_); exact rfl; exact rfl)
   refine hY fun WZ cWZ xWZ => ?_
   go_wp2
   refine Lay.ret3 Tryz.tFy Tryz.results23 xWZ.out rfl rfl ?_
   exact ⟨rfl, C.out.new cWZ.out LB.out⟩
  ·have dN : (N == 0) = false := by simpa using hN
   have dN2 : (N != 0) = true := by simpa using hN
   rw [if_neg hN, if_neg hN]
   clear hN
   go_enter Tryz.func23, Tryz.ntmps23
   go_wp2_with ((with_reducible refine Lay.bxQ (L := imgL) 32 m ?_ ?_); exact rfl)
   refine hY fun W1 bm ebm cbm xbm => ?_
   go_wp2_with (with_reducible refine Lay.alQ Tryz.tFy ?_)
   refine hY fun W2 br ebr cbr xbr => ?_
   go_wp2_with ((with_reducible refine Lay.ldQ Tryz.tImg m ((xbm.out.frame cbr.out).in) ?_ ?_); exact rfl)
   refine hY ?_
   go_wp2_with fail
   refine (HL.out _ ((Rd.out.frame cbm.out).frame cbr.out)).mono ?_
   rintro e W3 ⟨rfl, hc⟩
   have C3 := hY ((cbm.out.then cbr.out).then hc)
   have XR3 := hY (xbr.out.frame hc)
   clear hc
   go_wp2_with (with_reducible refine Lay.alQ Tryz.tFy ?_)
   refine hY fun W4 bf ebf cbf xbf => ?_
   have C := hY (C3.out.then cbf.out)
   have XF := hY (xbf.out)
   have XR := hY (XR3.out.frame cbf.out)
   have LB : Hid (w.heap.size ≤ br) := hY (by rw [ebr.out]; exact cbm.out.size)
   have LF : Hid (w.heap.size ≤ bf) := hY (by rw [ebf.out]; exact C3.out.size)
   have NE : Hid (br ≠ bf) := hY (by have := XR3.out.lt; have := ebf.out; omega)
   clear C3 XR3 xbf xbr cbr cbf ebr ebf
   go_wp2_with fail
   refine (H5111.out _).mono ?_
   rintro e W5 ⟨rfl, hc⟩
   replace C := hY (C.out.then hc)
   replace XF := hY (XF.out.frame hc)
   replace XR := hY (XR.out.frame hc)
   clear hc
   go_wp2_with fail
   refine (H3218.out _).mono ?_
   rintro e W6 ⟨rfl, hc⟩
   replace C := hY (C.out.then hc)
   replace XF := hY (XF.out.frame hc)
   replace XR := hY (XR.out.frame hc)
   clear hc
   go_wp2_with fail
   refine (H501.out _).mono ?_
   rintro e W7 ⟨rfl, hc⟩
   replace C := hY (C.out.then hc)
   replace XF := hY (XF.out.frame hc)
   replace XR := hY (XR.out.frame hc)
   clear hc
   go_wp2_with fail
   refine (HP.out _).mono ?_
   rintro e W8 ⟨rfl, hc⟩
   replace C := hY (C.out.then hc)
   replace XF := hY (XF.out.frame hc)
   replace XR := hY (XR.out.frame hc)
   clear hc
   go_wp2_with fail
   refine (H622.out _).mono ?_
   rintro e W9 ⟨rfl, hc⟩
   replace C := hY (C.out.then hc)
   replace XF := hY (XF.out.frame hc)
   replace XR := hY (XR.out.frame hc)
   clear hc
   go_wp2_with fail
   refine (HN.out _).mono ?_
   rintro e W10 ⟨rfl, hc⟩
   replace C := hY (C.out.then hc)
   replace XF := hY (XF.out.frame hc)
   replace XR := hY (XR.out.frame hc)
   clear hc
   go_wp2_with fail
   refine (HBI.out _ (RdI.out.frame C.out)).mono ?_
   rintro e WB ⟨rfl, hc⟩
   replace C := hY (C.out.then hc)
   replace XF := hY (XF.out.frame hc)
   replace XR := hY (XR.out.frame hc)
   clear hc
   go_wp2_with ((with_reducible refine Lay.stQ Tryz.tFy fx (XF.out) ?_ ?_ ?_); exact rfl; exact rfl)
   refine hY fun WF cWF xWF => ?_
   replace C := hY (C.out.new cWF.out LF.out)
   replace XR := hY (XR.out.frameS cWF.out (by have := NE.out; simpa using this))
   have XG := hY (xWF.out)
   clear XF xWF cWF
   go_wp2_with ((with_reducible refine Lay.stQ Tryz.tFy Fy.zero (XR.out) ?_ ?_ ?_); exact rfl; exact rfl)
   refine hY fun WZ cWZ xWZ => ?_
   go_wp2
   refine Lay.ret3 Tryz.tFy Tryz.results23 xWZ.out rfl rfl ?_
   exact ⟨rfl, C.out.new cWZ.out LB.out⟩
end Go.Proofs.YtiljokmkiolpgaaGreatDoor
