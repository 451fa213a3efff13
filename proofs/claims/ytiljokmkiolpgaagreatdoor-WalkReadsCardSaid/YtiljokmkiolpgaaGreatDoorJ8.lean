/- Lemmas, laid together: part 8 of 42. Conditions: none but each lemma's own. -/
import Derived.Test.YtiljokmkiolpgaaGreatDoorJ7
import Derived.Test.YtiljokmkiolpgaaGreatDoorJ1
namespace Go.Proofs.YtiljokmkiolpgaaGreatDoor
open Go.RowKit
set_option maxRecDepth 100000
def rebF (t a h : Nat) : Fy := ⟨0, 1, (tgt t a h : Nat), 0, ⟨#[]⟩, 0, false⟩
theorem tgt_a (t a h : Nat) : tgt t a h = ((t + a) % 18446744073709551616) % pow56 + h * pow56 := rfl
theorem tgt_0 (t h : Nat) (ht : t < 2 ^ 36) : tgt t 0 h = t % pow56 + h * pow56 := by
 have : (2 : Nat) ^ 36 = 68719476736 := by decide
 have e : t % 18446744073709551616 = t := Nat.mod_eq_of_lt (by omega)
 rw [tgt_a, Nat.add_zero, e]
theorem link_reb {low n : Nat} {fm : Int} {s : Say} (l : List Imp) (h : linkS low fm n = some s) (h2 : s.bind = false) :
  linkF low fm n l = ⟨0, 1, ((s.tgt.toNat % pow56 + s.high.toNat * pow56 : Nat) : Int), 0, ⟨#[]⟩, 0, false⟩ ∧ linkN low fm n l = s.next ∧ linkE low fm n l = 0 := by
 simp [linkF, linkN, linkE, h, fixN, fixF, h2]
set_option maxHeartbeats 8000000 in
theorem rlink_2 (n : Nat) (hn : n < 18446744073709551616) (m : Img) (ls : List Seg) (low : Nat) (hlow : lowS ls = low) (l : List Imp) (v : Value) (w : World) (rd : segL.Rd w m.segs.v ls) (rdI : impL.Rd w v l) (fm : Int) (hfm : fm = 2) :
  Calls Tryz.prog 23 #[.int .u64 n, .int .i64 fm, imgL.val m, v] w fun e w' => e = .returned (.tuple #[fyL.val (linkF low fm n l), .int .i64 (linkN low fm n l), .int .i64 (linkE low fm n l)]) ∧ Chg [] w w' := by
 have HL := hY (refLow_any m ls)
 rw [hlow] at HL
 clear hlow
 have Rd := hY rd
 have RdI := hY rdI
 clear rd rdI
 have H5112 : Hid (∀ w, Calls Tryz.prog 62 #[.int .u64 (n : Int), .int .i64 51, .int .i64 12] w fun e w' => e = .returned (.int .u64 (bt n 51 12 : Int)) ∧ Chg [] w w') := hY (fun w => (refbits_any n 51 12 hn (by decide) (by decide) w).mono (by rintro e w' ⟨h1, h2⟩; exact ⟨h1, (Chg.refl _ _).dr h2⟩))
 have H63 : Hid (∀ w, Calls Tryz.prog 62 #[.int .u64 (n : Int), .int .i64 63, .int .i64 1] w fun e w' => e = .returned (.int .u64 (bt n 63 1 : Int)) ∧ Chg [] w w') := hY (fun w => (refbits_any n 63 1 hn (by decide) (by decide) w).mono (by rintro e w' ⟨h1, h2⟩; exact ⟨h1, (Chg.refl _ _).dr h2⟩))
 have H24 : Hid (∀ w, Calls Tryz.prog 62 #[.int .u64 (n : Int), .int .i64 0, .int .i64 24] w fun e w' => e = .returned (.int .u64 (bt n 0 24 : Int)) ∧ Chg [] w w') := hY (fun w => (refbits_any n 0 24 hn (by decide) (by decide) w).mono (by rintro e w' ⟨h1, h2⟩; exact ⟨h1, (Chg.refl _ _).dr h2⟩))
 have H248 : Hid (∀ w, Calls Tryz.prog 62 #[.int .u64 (n : Int), .int .i64 24, .int .i64 8] w fun e w' => e = .returned (.int .u64 (bt n 24 8 : Int)) ∧ Chg [] w w') := hY (fun w => (refbits_any n 24 8 hn (by decide) (by decide) w).mono (by rintro e w' ⟨h1, h2⟩; exact ⟨h1, (Chg.refl _ _).dr h2⟩))
 have H36 : Hid (∀ w, Calls Tryz.prog 62 #[.int .u64 (n : Int), .int .i64 0, .int .i64 36] w fun e w' => e = .returned (.int .u64 (bt n 0 36 : Int)) ∧ Chg [] w w') := hY (fun w => (refbits_any n 0 36 hn (by decide) (by decide) w).mono (by rintro e w' ⟨h1, h2⟩; exact ⟨h1, (Chg.refl _ _).dr h2⟩))
 have H368 : Hid (∀ w, Calls Tryz.prog 62 #[.int .u64 (n : Int), .int .i64 36, .int .i64 8] w fun e w' => e = .returned (.int .u64 (bt n 36 8 : Int)) ∧ Chg [] w w') := hY (fun w => (refbits_any n 36 8 hn (by decide) (by decide) w).mono (by rintro e w' ⟨h1, h2⟩; exact ⟨h1, (Chg.refl _ _).dr h2⟩))
 have hS : linkS low fm n = some (oldS low false 24 n) := by subst hfm; simp [linkS]
 have w51 : wrap64 (bt n 51 12 : Int) = (bt n 51 12 : Int) := by have := bt_lt n 51 12; unfold wrap64; omega
 by_cases hT : bt n 63 1 = 1
 ·have hO : oldS low false 24 n = ⟨true, bt n 0 24, bt n 24 8, 0, 0, bt n 51 12⟩ := by simp [oldS, hT]
  rw [hO] at hS
  clear hO
  have e1 : linkF low fm n l = if bindN (bt n 0 24) l = 0 then bindF (bt n 0 24) (bt n 24 8) l else .zero := by simp [linkF, hS, fixN, fixF]
  have e2 : linkN low fm n l = if bindN (bt n 0 24) l = 0 then (bt n 51 12 : Int) else 0 := by simp [linkN, hS, fixN]
  have e3 : linkE low fm n l = bindN (bt n 0 24) l := by simp [linkE, hS, fixN]
  rw [e1, e2, e3]
  clear e1 e2 e3 hS
  subst hfm
  have w24 : wrap64 (bt n 24 8 : Int) = (bt n 24 8 : Int) := by have := bt_lt n 24 8; unfold wrap64; omega
  have h24 := bt_lt n 0 24
  have HBI := hY (fun w => bind_any (bt n 0 24) (by omega) (bt n 24 8) l v w)
  generalize bt n 51 12 = A at *
  generalize bt n 63 1 = T at *
  generalize bt n 0 24 = D at *
  generalize bt n 24 8 = E at *
  subst hT
  clear H36 H368 h24
  generalize bindF (D) (E) l = fx at *
  generalize bindN (D) l = N at *
  by_cases hN : N = 0
  ·subst hN
   rw [if_pos rfl, if_pos rfl]
   go_enter Tryz.func23, Tryz.ntmps23
   go_wp2_with ((with_reducible refine Lay.bxQ (L := imgL) 32 m ?_ ?_); exact rfl)
   refine hY fun W1 bm ebm cbm xbm => ?_
   go_wp2_with (with_reducible refine Lay.alQ Tryz.tFy ?_)
   refine hY fun W2 br ebr cbr xbr => ?_
   go_wp2_with ((with_reducible refine Lay.ldQ Tryz.tImg m ((xbm.out.frame cbr.out).in) ?_ ?_); exact rfl)
   refine hY ?_
   go_wp2_with fail
   refine (HL.out _ ((Rd.out.frame cbm.out).frame cbr.out)).mono ?_
   rintro e W3 ⟨rfl, hc⟩
   have C3 := hY ((cbm.out.then cbr.out).then hc)
   have XR3 := hY (xbr.out.frame hc)
   clear hc
   go_wp2_with (with_reducible refine Lay.alQ Tryz.tFy ?_)
   refine hY fun W4 bf ebf cbf xbf => ?_
   have C := hY (C3.out.then cbf.out)
   have XF := hY (xbf.out)
   have XR := hY (XR3.out.frame cbf.out)
   have LB : Hid (w.heap.size ≤ br) := hY (by rw [ebr.out]; exact cbm.out.size)
   have LF : Hid (w.heap.size ≤ bf) := hY (by rw [ebf.out]; exact C3.out.size)
   have NE : Hid (br ≠ bf) := hY (by have := XR3.out.lt; have := ebf.out; omega)
   clear C3 XR3 xbf xbr cbr cbf ebr ebf
   go_wp2_with fail
   refine (H5112.out _).mono ?_
   rintro e W5 ⟨rfl, hc⟩
   replace C := hY (C.out.then hc)
   replace XF := hY (XF.out.frame hc)
   replace XR := hY (XR.out.frame hc)
   clear hc
   go_wp2_with fail
   refine (H63.out _).mono ?_
   rintro e W6 ⟨rfl, hc⟩
   replace C := hY (C.out.then hc)
   replace XF := hY (XF.out.frame hc)
   replace XR := hY (XR.out.frame hc)
   clear hc
   go_wp2_with fail
   refine (H24.out _).mono ?_
   rintro e W7 ⟨rfl, hc⟩
   replace C := hY (C.out.then hc)
   replace XF := hY (XF.out.frame hc)
   replace XR := hY (XR.out.frame hc)
   clear hc
   go_wp2_with fail
   refine (H248.out _).mono ?_
   rintro e W8 ⟨rfl, hc⟩
   replace C := hY (C.out.then hc)
   replace XF := hY (XF.out.frame hc)
   replace XR := hY (XR.out.frame hc)
   clear hc
   go_wp2_with fail
   refine (HBI.out _ (RdI.out.frame C.out)).mono ?_
   rintro e WB ⟨rfl, hc⟩
   replace C := hY (C.out.then hc)
   replace XF := hY (XF.out.frame hc)
   replace XR := hY (XR.out.frame hc)
   clear hc
   go_wp2_with ((with_reducible refine Lay.stQ Tryz.tFy fx (XF.out) ?_ ?_ ?_); exact rfl; exact rfl)
   refine hY fun WF cWF xWF => ?_
   replace C := hY (C.out.new cWF.out LF.out)
   replace XR := hY (XR.out.frameS cWF.out (by have := NE.out; simpa using this))
   have XG := hY (xWF.out)
   clear XF xWF cWF
   go_wp2_with ((with_reducible refine Lay.ldQ Tryz.tFy fx (XG.out.in) ?_ ?_); exact rfl)
   refine hY ?_
   go_wp2_with ((with_reducible refine Lay.stQ Tryz.tFy fx (XR.out) ?_ ?_ ?_); exact rfl; exact rfl)
   refine hY fun WZ cWZ xWZ => ?_
   go_wp2
   refine Lay.ret3 Tryz.tFy Tryz.results23 xWZ.out rfl rfl ?_
   exact ⟨rfl, C.out.new cWZ.out LB.out⟩
  ·have dN : (N == 0) = false := by simpa using hN
   have dN2 : (N != 0) = true := by simpa using hN
   rw [if_neg hN, if_neg hN]
   clear hN
   go_enter Tryz.func23, Tryz.ntmps23
   go_wp2_with ((with_reducible refine Lay.bxQ (L := imgL) 32 m ?_ ?_); exact rfl)
   refine hY fun W1 bm ebm cbm xbm => ?_
   go_wp2_with (with_reducible refine Lay.alQ Tryz.tFy ?_)
   refine hY fun W2 br ebr cbr xbr => ?_
   go_wp2_with ((with_reducible refine Lay.ldQ Tryz.tImg m ((xbm.out.frame cbr.out).in) ?_ ?_); exact rfl)
   refine hY ?_
   go_wp2_with fail
   refine (HL.out _ ((Rd.out.frame cbm.out).frame cbr.out)).mono ?_
   rintro e W3 ⟨rfl, hc⟩
   have C3 := hY ((cbm.out.then cbr.out).then hc)
   have XR3 := hY (xbr.out.frame hc)
   clear hc
   go_wp2_with (with_reducible refine Lay.alQ Tryz.tFy ?_)
   refine hY fun W4 bf ebf cbf xbf => ?_
   have C := hY (C3.out.then cbf.out)
   have XF := hY (xbf.out)
   have XR := hY (XR3.out.frame cbf.out)
   have LB : Hid (w.heap.size ≤ br) := hY (by rw [ebr.out]; exact cbm.out.size)
   have LF : Hid (w.heap.size ≤ bf) := hY (by rw [ebf.out]; exact C3.out.size)
   have NE : Hid (br ≠ bf) := hY (by have := XR3.out.lt; have := ebf.out; omega)
   clear C3 XR3 xbf xbr cbr cbf ebr ebf
   go_wp2_with fail
   refine (H5112.out _).mono ?_
   rintro e W5 ⟨rfl, hc⟩
   replace C := hY (C.out.then hc)
   replace XF := hY (XF.out.frame hc)
   replace XR := hY (XR.out.frame hc)
   clear hc
   go_wp2_with fail
   refine (H63.out _).mono ?_
   rintro e W6 ⟨rfl, hc⟩
   replace C := hY (C.out.then hc)
   replace XF := hY (XF.out.frame hc)
   replace XR := hY (XR.out.frame hc)
   clear hc
   go_wp2_with fail
   refine (H24.out _).mono ?_
   rintro e W7 ⟨rfl, hc⟩
   replace C := hY (C.out.then hc)
   replace XF := hY (XF.out.frame hc)
   replace XR := hY (XR.out.frame hc)
   clear hc
   go_wp2_with fail
   refine (H248.out _).mono ?_
   rintro e W8 ⟨rfl, hc⟩
   replace C := hY (C.out.then hc)
   replace XF := hY (XF.out.frame hc)
   replace XR := hY (XR.out.frame hc)
   clear hc
   go_wp2_with fail
   refine (HBI.out _ (RdI.out.frame C.out)).mono ?_
   rintro e WB ⟨rfl, hc⟩
   replace C := hY (C.out.then hc)
   replace XF := hY (XF.out.frame hc)
   replace XR := hY (XR.out.frame hc)
   clear hc
   go_wp2_with ((with_reducible refine Lay.stQ Tryz.tFy fx (XF.out) ?_ ?_ ?_); exact rfl; exact rfl)
   refine hY fun WF cWF xWF => ?_
   replace C := hY (C.out.new cWF.out LF.out)
   replace XR := hY (XR.out.frameS cWF.out (by have := NE.out; simpa using this))
   have XG := hY (xWF.out)
   clear XF xWF cWF
   go_wp2_with ((with_reducible refine Lay.stQ Tryz.tFy Fy.zero (XR.out) ?_ ?_ ?_); exact rfl; exact rfl)
   refine hY fun WZ cWZ xWZ => ?_
   go_wp2
   refine Lay.ret3 Tryz.tFy Tryz.results23 xWZ.out rfl rfl ?_
   exact ⟨rfl, C.out.new cWZ.out LB.out⟩
 ·have hO : oldS low false 24 n = ⟨false, 0, 0, (bt n 0 36 : Nat), bt n 36 8, bt n 51 12⟩ := by simp [oldS, hT]
  rw [hO] at hS
  clear hO
  have h36 := bt_lt n 0 36
  have e1 : linkF low fm n l = rebF (bt n 0 36) (0) (bt n 36 8) := by
   rw [(link_reb l hS rfl).1]
   unfold rebF
   simp only [Int.toNat_natCast]
   rw [tgt_0 _ _ h36]
  have e2 : linkN low fm n l = (bt n 51 12 : Int) := (link_reb l hS rfl).2.1
  have e3 : linkE low fm n l = 0 := (link_reb l hS rfl).2.2
  rw [e1, e2, e3]
  clear e1 e2 e3 hS
  subst hfm
  have h8 := bt_lt n 36 8
  have HRB : Hid (∀ w, Calls Tryz.prog 64 #[.int .u64 (bt n 0 36 : Int), .int .u64 0, .int .u64 (bt n 36 8 : Int)] w fun e w' => e = .returned (fyL.val (rebF (bt n 0 36) (0) (bt n 36 8))) ∧ Chg [] w w') := hY (rebase_any (bt n 0 36) (0) (bt n 36 8) h8)
  have dT : ((bt n 63 1 : Int) == 1) = false := by simp; omega
  clear H24 H248 h36 h8
  generalize rebF (bt n 0 36) (0) (bt n 36 8) = fx at *
  generalize bt n 51 12 = A at *
  generalize bt n 63 1 = T at *
  generalize bt n 0 36 = D at *
  generalize bt n 36 8 = E at *
  clear hT
  go_enter Tryz.func23, Tryz.ntmps23
  go_wp2_with ((with_reducible refine Lay.bxQ (L := imgL) 32 m ?_ ?_); exact rfl)
  refine hY fun W1 bm ebm cbm xbm => ?_
  go_wp2_with (with_reducible refine Lay.alQ Tryz.tFy ?_)
  refine hY fun W2 br ebr cbr xbr => ?_
  go_wp2_with ((with_reducible refine Lay.ldQ Tryz.tImg m ((xbm.out.frame cbr.out).in) ?_ ?_); exact rfl)
  refine hY ?_
  go_wp2_with fail
  refine (HL.out _ ((Rd.out.frame cbm.out).frame cbr.out)).mono ?_
  rintro e W3 ⟨rfl, hc⟩
  have C3 := hY ((cbm.out.then cbr.out).then hc)
  have XR3 := hY (xbr.out.frame hc)
  clear hc
  go_wp2_with (with_reducible refine Lay.alQ Tryz.tFy ?_)
  refine hY fun W4 bf ebf cbf xbf => ?_
  have C := hY (C3.out.then cbf.out)
  have XF := hY (xbf.out)
  have XR := hY (XR3.out.frame cbf.out)
  have LB : Hid (w.heap.size ≤ br) := hY (by rw [ebr.out]; exact cbm.out.size)
  have LF : Hid (w.heap.size ≤ bf) := hY (by rw [ebf.out]; exact C3.out.size)
  have NE : Hid (br ≠ bf) := hY (by have := XR3.out.lt; have := ebf.out; omega)
  clear C3 XR3 xbf xbr cbr cbf ebr ebf
  go_wp2_with fail
  refine (H5112.out _).mono ?_
  rintro e W5 ⟨rfl, hc⟩
  replace C := hY (C.out.then hc)
  replace XF := hY (XF.out.frame hc)
  replace XR := hY (XR.out.frame hc)
  clear hc
  go_wp2_with fail
  refine (H63.out _).mono ?_
  rintro e W6 ⟨rfl, hc⟩
  replace C := hY (C.out.then hc)
  replace XF := hY (XF.out.frame hc)
  replace XR := hY (XR.out.frame hc)
  clear hc
  go_wp2_with fail
  refine (H36.out _).mono ?_
  rintro e W7 ⟨rfl, hc⟩
  replace C := hY (C.out.then hc)
  replace XF := hY (XF.out.frame hc)
  replace XR := hY (XR.out.frame hc)
  clear hc
  go_wp2_with fail
  refine (H368.out _).mono ?_
  rintro e W8 ⟨rfl, hc⟩
  replace C := hY (C.out.then hc)
  replace XF := hY (XF.out.frame hc)
  replace XR := hY (XR.out.frame hc)
  clear hc
  go_wp2_with fail
  refine (HRB.out _).mono ?_
  rintro e W9 ⟨rfl, hc⟩
  replace C := hY (C.out.then hc)
  replace XF := hY (XF.out.frame hc)
  replace XR := hY (XR.out.frame hc)
  clear hc
  go_wp2_with ((with_reducible refine Lay.stQ Tryz.tFy fx (XF.out) ?_ ?_ ?_); exact rfl; exact rfl)
  refine hY fun WF cWF xWF => ?_
  replace C := hY (C.out.new cWF.out LF.out)
  replace XR := hY (XR.out.frameS cWF.out (by have := NE.out; simpa using this))
  have XG := hY (xWF.out)
  clear XF xWF cWF
  go_wp2_with ((with_reducible refine Lay.ldQ Tryz.tFy fx (XG.out.in) ?_ ?_); exact rfl)
  refine hY ?_
  go_wp2_with ((with_reducible refine Lay.stQ Tryz.tFy fx (XR.out) ?_ ?_ ?_); exact rfl; exact rfl)
  refine hY fun WZ cWZ xWZ => ?_
  go_wp2
  refine Lay.ret3 Tryz.tFy Tryz.results23 xWZ.out rfl rfl ?_
  exact ⟨rfl, C.out.new cWZ.out LB.out⟩
set_option maxHeartbeats 8000000 in
theorem rlink_6 (n : Nat) (hn : n < 18446744073709551616) (m : Img) (ls : List Seg) (low : Nat) (hlow : lowS ls = low) (l : List Imp) (v : Value) (w : World) (rd : segL.Rd w m.segs.v ls) (rdI : impL.Rd w v l) (fm : Int) (hfm : fm = 6) :
  Calls Tryz.prog 23 #[.int .u64 n, .int .i64 fm, imgL.val m, v] w fun e w' => e = .returned (.tuple #[fyL.val (linkF low fm n l), .int .i64 (linkN low fm n l), .int .i64 (linkE low fm n l)]) ∧ Chg [] w w' := by
 have HL := hY (refLow_any m ls)
 rw [hlow] at HL
 clear hlow
 have Rd := hY rd
 have RdI := hY rdI
 clear rd rdI
 have H5112 : Hid (∀ w, Calls Tryz.prog 62 #[.int .u64 (n : Int), .int .i64 51, .int .i64 12] w fun e w' => e = .returned (.int .u64 (bt n 51 12 : Int)) ∧ Chg [] w w') := hY (fun w => (refbits_any n 51 12 hn (by decide) (by decide) w).mono (by rintro e w' ⟨h1, h2⟩; exact ⟨h1, (Chg.refl _ _).dr h2⟩))
 have H63 : Hid (∀ w, Calls Tryz.prog 62 #[.int .u64 (n : Int), .int .i64 63, .int .i64 1] w fun e w' => e = .returned (.int .u64 (bt n 63 1 : Int)) ∧ Chg [] w w') := hY (fun w => (refbits_any n 63 1 hn (by decide) (by decide) w).mono (by rintro e w' ⟨h1, h2⟩; exact ⟨h1, (Chg.refl _ _).dr h2⟩))
 have H24 : Hid (∀ w, Calls Tryz.prog 62 #[.int .u64 (n : Int), .int .i64 0, .int .i64 24] w fun e w' => e = .returned (.int .u64 (bt n 0 24 : Int)) ∧ Chg [] w w') := hY (fun w => (refbits_any n 0 24 hn (by decide) (by decide) w).mono (by rintro e w' ⟨h1, h2⟩; exact ⟨h1, (Chg.refl _ _).dr h2⟩))
 have H248 : Hid (∀ w, Calls Tryz.prog 62 #[.int .u64 (n : Int), .int .i64 24, .int .i64 8] w fun e w' => e = .returned (.int .u64 (bt n 24 8 : Int)) ∧ Chg [] w w') := hY (fun w => (refbits_any n 24 8 hn (by decide) (by decide) w).mono (by rintro e w' ⟨h1, h2⟩; exact ⟨h1, (Chg.refl _ _).dr h2⟩))
 have H36 : Hid (∀ w, Calls Tryz.prog 62 #[.int .u64 (n : Int), .int .i64 0, .int .i64 36] w fun e w' => e = .returned (.int .u64 (bt n 0 36 : Int)) ∧ Chg [] w w') := hY (fun w => (refbits_any n 0 36 hn (by decide) (by decide) w).mono (by rintro e w' ⟨h1, h2⟩; exact ⟨h1, (Chg.refl _ _).dr h2⟩))
 have H368 : Hid (∀ w, Calls Tryz.prog 62 #[.int .u64 (n : Int), .int .i64 36, .int .i64 8] w fun e w' => e = .returned (.int .u64 (bt n 36 8 : Int)) ∧ Chg [] w w') := hY (fun w => (refbits_any n 36 8 hn (by decide) (by decide) w).mono (by rintro e w' ⟨h1, h2⟩; exact ⟨h1, (Chg.refl _ _).dr h2⟩))
 have hS : linkS low fm n = some (oldS low true 24 n) := by subst hfm; simp [linkS]
 have w51 : wrap64 (bt n 51 12 : Int) = (bt n 51 12 : Int) := by have := bt_lt n 51 12; unfold wrap64; omega
 by_cases hT : bt n 63 1 = 1
 ·have hO : oldS low true 24 n = ⟨true, bt n 0 24, bt n 24 8, 0, 0, bt n 51 12⟩ := by simp [oldS, hT]
  rw [hO] at hS
  clear hO
  have e1 : linkF low fm n l = if bindN (bt n 0 24) l = 0 then bindF (bt n 0 24) (bt n 24 8) l else .zero := by simp [linkF, hS, fixN, fixF]
  have e2 : linkN low fm n l = if bindN (bt n 0 24) l = 0 then (bt n 51 12 : Int) else 0 := by simp [linkN, hS, fixN]
  have e3 : linkE low fm n l = bindN (bt n 0 24) l := by simp [linkE, hS, fixN]
  rw [e1, e2, e3]
  clear e1 e2 e3 hS
  subst hfm
  have w24 : wrap64 (bt n 24 8 : Int) = (bt n 24 8 : Int) := by have := bt_lt n 24 8; unfold wrap64; omega
  have h24 := bt_lt n 0 24
  have HBI := hY (fun w => bind_any (bt n 0 24) (by omega) (bt n 24 8) l v w)
  generalize bt n 51 12 = A at *
  generalize bt n 63 1 = T at *
  generalize bt n 0 24 = D at *
  generalize bt n 24 8 = E at *
  subst hT
  clear H36 H368 h24
  generalize bindF (D) (E) l = fx at *
  generalize bindN (D) l = N at *
  by_cases hN : N = 0
  ·subst hN
   rw [if_pos rfl, if_pos rfl]
   go_enter Tryz.func23, Tryz.ntmps23
   go_wp2_with ((with_reducible refine Lay.bxQ (L := imgL) 32 m ?_ ?_); exact rfl)
   refine hY fun W1 bm ebm cbm xbm => ?_
   go_wp2_with (with_reducible refine Lay.alQ Tryz.tFy ?_)
   refine hY fun W2 br ebr cbr xbr => ?_
   go_wp2_with ((with_reducible refine Lay.ldQ Tryz.tImg m ((xbm.out.frame cbr.out).in) ?_ ?_); exact rfl)
   refine hY ?_
   go_wp2_with fail
   refine (HL.out _ ((Rd.out.frame cbm.out).frame cbr.out)).mono ?_
   rintro e W3 ⟨rfl, hc⟩
   have C3 := hY ((cbm.out.then cbr.out).then hc)
   have XR3 := hY (xbr.out.frame hc)
   clear hc
   go_wp2_with (with_reducible refine Lay.alQ Tryz.tFy ?_)
   refine hY fun W4 bf ebf cbf xbf => ?_
   have C := hY (C3.out.then cbf.out)
   have XF := hY (xbf.out)
   have XR := hY (XR3.out.frame cbf.out)
   have LB : Hid (w.heap.size ≤ br) := hY (by rw [ebr.out]; exact cbm.out.size)
   have LF : Hid (w.heap.size ≤ bf) := hY (by rw [ebf.out]; exact C3.out.size)
   have NE : Hid (br ≠ bf) := hY (by have := XR3.out.lt; have := ebf.out; omega)
   clear C3 XR3 xbf xbr cbr cbf ebr ebf
   go_wp2_with fail
   refine (H5112.out _).mono ?_
   rintro e W5 ⟨rfl, hc⟩
   replace C := hY (C.out.then hc)
   replace XF := hY (XF.out.frame hc)
   replace XR := hY (XR.out.frame hc)
   clear hc
   go_wp2_with fail
   refine (H63.out _).mono ?_
   rintro e W6 ⟨rfl, hc⟩
   replace C := hY (C.out.then hc)
   replace XF := hY (XF.out.frame hc)
   replace XR := hY (XR.out.frame hc)
   clear hc
   go_wp2_with fail
   refine (H24.out _).mono ?_
   rintro e W7 ⟨rfl, hc⟩
   replace C := hY (C.out.then hc)
   replace XF := hY (XF.out.frame hc)
   replace XR := hY (XR.out.frame hc)
   clear hc
   go_wp2_with fail
   refine (H248.out _).mono ?_
   rintro e W8 ⟨rfl, hc⟩
   replace C := hY (C.out.then hc)
   replace XF := hY (XF.out.frame hc)
   replace XR := hY (XR.out.frame hc)
   clear hc
   go_wp2_with fail
   refine (HBI.out _ (RdI.out.frame C.out)).mono ?_
   rintro e WB ⟨rfl, hc⟩
   replace C := hY (C.out.then hc)
   replace XF := hY (XF.out.frame hc)
   replace XR := hY (XR.out.frame hc)
   clear hc
   go_wp2_with ((with_reducible refine Lay.stQ Tryz.tFy fx (XF.out) ?_ ?_ ?_); exact rfl; exact rfl)
   refine hY fun WF cWF xWF => ?_
   replace C := hY (C.out.new cWF.out LF.out)
   replace XR := hY (XR.out.frameS cWF.out (by have := NE.out; simpa using this))
   have XG := hY (xWF.out)
   clear XF xWF cWF
   go_wp2_with ((with_reducible refine Lay.ldQ Tryz.tFy fx (XG.out.in) ?_ ?_); exact rfl)
   refine hY ?_
   go_wp2_with ((with_reducible refine Lay.stQ Tryz.tFy fx (XR.out) ?_ ?_ ?_); exact rfl; exact rfl)
   refine hY fun WZ cWZ xWZ => ?_
   go_wp2
   refine Lay.ret3 Tryz.tFy Tryz.results23 xWZ.out rfl rfl ?_
   exact ⟨rfl, C.out.new cWZ.out LB.out⟩
  ·have dN : (N == 0) = false := by simpa using hN
   have dN2 : (N != 0) = true := by simpa using hN
   rw [if_neg hN, if_neg hN]
   clear hN
   go_enter Tryz.func23, Tryz.ntmps23
   go_wp2_with ((with_reducible refine Lay.bxQ (L := imgL) 32 m ?_ ?_); exact rfl)
   refine hY fun W1 bm ebm cbm xbm => ?_
   go_wp2_with (with_reducible refine Lay.alQ Tryz.tFy ?_)
   refine hY fun W2 br ebr cbr xbr => ?_
   go_wp2_with ((with_reducible refine Lay.ldQ Tryz.tImg m ((xbm.out.frame cbr.out).in) ?_ ?_); exact rfl)
   refine hY ?_
   go_wp2_with fail
   refine (HL.out _ ((Rd.out.frame cbm.out).frame cbr.out)).mono ?_
   rintro e W3 ⟨rfl, hc⟩
   have C3 := hY ((cbm.out.then cbr.out).then hc)
   have XR3 := hY (xbr.out.frame hc)
   clear hc
   go_wp2_with (with_reducible refine Lay.alQ Tryz.tFy ?_)
   refine hY fun W4 bf ebf cbf xbf => ?_
   have C := hY (C3.out.then cbf.out)
   have XF := hY (xbf.out)
   have XR := hY (XR3.out.frame cbf.out)
   have LB : Hid (w.heap.size ≤ br) := hY (by rw [ebr.out]; exact cbm.out.size)
   have LF : Hid (w.heap.size ≤ bf) := hY (by rw [ebf.out]; exact C3.out.size)
   have NE : Hid (br ≠ bf) := hY (by have := XR3.out.lt; have := ebf.out; omega)
   clear C3 XR3 xbf xbr cbr cbf ebr ebf
   go_wp2_with fail
   refine (H5112.out _).mono ?_
   rintro e W5 ⟨rfl, hc⟩
   replace C := hY (C.out.then hc)
   replace XF := hY (XF.out.frame hc)
   replace XR := hY (XR.out.frame hc)
   clear hc
   go_wp2_with fail
   refine (H63.out _).mono ?_
   rintro e W6 ⟨rfl, hc⟩
   replace C := hY (C.out.then hc)
   replace XF := hY (XF.out.frame hc)
   replace XR := hY (XR.out.frame hc)
   clear hc
   go_wp2_with fail
   refine (H24.out _).mono ?_
   rintro e W7 ⟨rfl, hc⟩
   replace C := hY (C.out.then hc)
   replace XF := hY (XF.out.frame hc)
   replace XR := hY (XR.out.frame hc)
   clear hc
   go_wp2_with fail
   refine (H248.out _).mono ?_
   rintro e W8 ⟨rfl, hc⟩
   replace C := hY (C.out.then hc)
   replace XF := hY (XF.out.frame hc)
   replace XR := hY (XR.out.frame hc)
   clear hc
   go_wp2_with fail
   refine (HBI.out _ (RdI.out.frame C.out)).mono ?_
   rintro e WB ⟨rfl, hc⟩
   replace C := hY (C.out.then hc)
   replace XF := hY (XF.out.frame hc)
   replace XR := hY (XR.out.frame hc)
   clear hc
   go_wp2_with ((with_reducible refine Lay.stQ Tryz.tFy fx (XF.out) ?_ ?_ ?_); exact rfl; exact rfl)
   refine hY fun WF cWF xWF => ?_
   replace C := hY (C.out.new cWF.out LF.out)
   replace XR := hY (XR.out.frameS cWF.out (by have := NE.out; simpa using this))
   have XG := hY (xWF.out)
   clear XF xWF cWF
   go_wp2_with ((with_reducible refine Lay.stQ Tryz.tFy Fy.zero (XR.out) ?_ ?_ ?_); exact rfl; exact rfl)
   refine hY fun WZ cWZ xWZ => ?_
   go_wp2
   refine Lay.ret3 Tryz.tFy Tryz.results23 xWZ.out rfl rfl ?_
   exact ⟨rfl, C.out.new cWZ.out LB.out⟩
 ·have hO : oldS low true 24 n = ⟨false, 0, 0, ((bt n 0 36 + low) % 18446744073709551616 : Nat), bt n 36 8, bt n 51 12⟩ := by simp [oldS, hT]
  rw [hO] at hS
  clear hO
  have h36 := bt_lt n 0 36
  have e1 : linkF low fm n l = rebF (bt n 0 36) (low) (bt n 36 8) := by
   rw [(link_reb l hS rfl).1]
   unfold rebF
   simp only [Int.toNat_natCast]
   rw [tgt_a]
  have e2 : linkN low fm n l = (bt n 51 12 : Int) := (link_reb l hS rfl).2.1
  have e3 : linkE low fm n l = 0 := (link_reb l hS rfl).2.2
  rw [e1, e2, e3]
  clear e1 e2 e3 hS
  subst hfm
  have h8 := bt_lt n 36 8
  have HRB : Hid (∀ w, Calls Tryz.prog 64 #[.int .u64 (bt n 0 36 : Int), .int .u64 (low : Int), .int .u64 (bt n 36 8 : Int)] w fun e w' => e = .returned (fyL.val (rebF (bt n 0 36) (low) (bt n 36 8))) ∧ Chg [] w w') := hY (rebase_any (bt n 0 36) (low) (bt n 36 8) h8)
  have dT : ((bt n 63 1 : Int) == 1) = false := by simp; omega
  clear H24 H248 h36 h8
  generalize rebF (bt n 0 36) (low) (bt n 36 8) = fx at *
  generalize bt n 51 12 = A at *
  generalize bt n 63 1 = T at *
  generalize bt n 0 36 = D at *
  generalize bt n 36 8 = E at *
  clear hT
  go_enter Tryz.func23, Tryz.ntmps23
  go_wp2_with ((with_reducible refine Lay.bxQ (L := imgL) 32 m ?_ ?_); exact rfl)
  refine hY fun W1 bm ebm cbm xbm => ?_
  go_wp2_with (with_reducible refine Lay.alQ Tryz.tFy ?_)
  refine hY fun W2 br ebr cbr xbr => ?_
  go_wp2_with ((with_reducible refine Lay.ldQ Tryz.tImg m ((xbm.out.frame cbr.out).in) ?_ ?_); exact rfl)
  refine hY ?_
  go_wp2_with fail
  refine (HL.out _ ((Rd.out.frame cbm.out).frame cbr.out)).mono ?_
  rintro e W3 ⟨rfl, hc⟩
  have C3 := hY ((cbm.out.then cbr.out).then hc)
  have XR3 := hY (xbr.out.frame hc)
  clear hc
  go_wp2_with (with_reducible refine Lay.alQ Tryz.tFy ?_)
  refine hY fun W4 bf ebf cbf xbf => ?_
  have C := hY (C3.out.then cbf.out)
  have XF := hY (xbf.out)
  have XR := hY (XR3.out.frame cbf.out)
  have LB : Hid (w.heap.size ≤ br) := hY (by rw [ebr.out]; exact cbm.out.size)
  have LF : Hid (w.heap.size ≤ bf) := hY (by rw [ebf.out]; exact C3.out.size)
  have NE : Hid (br ≠ bf) := hY (by have := XR3.out.lt; have := ebf.out; omega)
  clear C3 XR3 xbf xbr cbr cbf ebr ebf
  go_wp2_with fail
  refine (H5112.out _).mono ?_
  rintro e W5 ⟨rfl, hc⟩
  replace C := hY (C.out.then hc)
  replace XF := hY (XF.out.frame hc)
  replace XR := hY (XR.out.frame hc)
  clear hc
  go_wp2_with fail
  refine (H63.out _).mono ?_
  rintro e W6 ⟨rfl, hc⟩
  replace C := hY (C.out.then hc)
  replace XF := hY (XF.out.frame hc)
  replace XR := hY (XR.out.frame hc)
  clear hc
  go_wp2_with fail
  refine (H36.out _).mono ?_
  rintro e W7 ⟨rfl, hc⟩
  replace C := hY (C.out.then hc)
  replace XF := hY (XF.out.frame hc)
  replace XR := hY (XR.out.frame hc)
  clear hc
  go_wp2_with fail
  refine (H368.out _).mono ?_
  rintro e W8 ⟨rfl, hc⟩
  replace C := hY (C.out.then hc)
  replace XF := hY (XF.out.frame hc)
  replace XR := hY (XR.out.frame hc)
  clear hc
  go_wp2_with fail
  refine (HRB.out _).mono ?_
  rintro e W9 ⟨rfl, hc⟩
  replace C := hY (C.out.then hc)
  replace XF := hY (XF.out.frame hc)
  replace XR := hY (XR.out.frame hc)
  clear hc
  go_wp2_with ((with_reducible refine Lay.stQ Tryz.tFy fx (XF.out) ?_ ?_ ?_); exact rfl; exact rfl)
  refine hY fun WF cWF xWF => ?_
  replace C := hY (C.out.new cWF.out LF.out)
  replace XR := hY (XR.out.frameS cWF.out (by have := NE.out; simpa using this))
  have XG := hY (xWF.out)
  clear XF xWF cWF
  go_wp2_with ((with_reducible refine Lay.ldQ Tryz.tFy fx (XG.out.in) ?_ ?_); exact rfl)
  refine hY ?_
  go_wp2_with ((with_reducible refine Lay.stQ Tryz.tFy fx (XR.out) ?_ ?_ ?_); exact rfl; exact rfl)
  refine hY fun WZ cWZ xWZ => ?_
  go_wp2
  refine Lay.ret3 Tryz.tFy Tryz.results23 xWZ.out rfl rfl ?_
  exact ⟨rfl, C.out.new cWZ.out LB.out⟩
end Go.Proofs.YtiljokmkiolpgaaGreatDoor
