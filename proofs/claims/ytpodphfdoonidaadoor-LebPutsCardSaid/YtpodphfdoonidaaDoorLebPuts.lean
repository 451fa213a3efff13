/- LebPuts, walked. -/
import Derived.Test.YtpodphfdoonidaaDoorLebReads
import Derived.Test.YtpodphfdoonidaaDoorReg
import Derived.Test.YtpodphfdoonidaaDoorApp
import Derived.Test.YtpodphfdoonidaaDoorSl2
namespace Go.Proofs.YtpodphfdoonidaaDoor
open Go.RowKit
set_option maxRecDepth 100000

theorem putU_len (n : Nat) : 0 < (putU n).length ∧ (putU n).length ≤ 10 := ⟨(putUf_length 9 n).2, (putUf_length 9 n).1⟩
theorem putS_len (n : Int) : 0 < (putS n).length ∧ (putS n).length ≤ 10 := ⟨(putSf_length 9 n).2, (putSf_length 9 n).1⟩

set_option maxHeartbeats 1000000 in
theorem LebPuts_in (n : Nat) (hn : n < 18446744073709551616) (m : Int) (hm : -9223372036854775808 ≤ m ∧ m < 9223372036854775808) (l : List UInt8) (a : Option Addr) (cap : Nat) (w : World) (rd : Rd w (.slice a l.length cap) (bytesV l)) (hg : Env w) (hl : l.length ≤ 100) :
    Calls Tryd.prog 6 #[.int .u64 n, .int .i64 m, .slice a l.length cap] w fun e w' => e = .returned (.bool true) ∧ Chg [] w w' := by
  have HG := Lib.hid hg
  have HN := Lib.hid hn
  have HM := Lib.hid hm
  have HR := Lib.hid rd
  clear hg hn hm rd
  go_enter Tryd.func6, Tryd.ntmps6
  go_wp2_with fail
  refine (Put_any n w HN.out).mono ?_
  rintro e w1 ⟨v1, rfl, ho1, hc1⟩
  have HO1 := Lib.hid ho1
  have HC1 := Lib.hid hc1
  clear ho1 hc1
  go_wp2_with fail
  refine (PutSigned_any m w1 HM.out).mono ?_
  rintro e w2 ⟨v2, rfl, ho2, hc2⟩
  obtain ⟨g1, c1, rfl, hnc1, hcm1, _, _, _⟩ := owned_at HO1.out (putU_len n).1
  obtain ⟨g2, c2, rfl, hnc2, hcm2, _, _, _⟩ := owned_at ho2 (putS_len m).1
  have hlu := putU_len n
  have hls := putS_len m
  have HO12 := Lib.hid (owned_frame HO1.out hc2 (fun _ _ hm => by cases hm))
  have HO2 := Lib.hid ho2
  have HC2 := Lib.hid (HC1.out.then hc2)
  have hs1 : ∀ W, Chg [] w2 W → (convert 22 9 (.slice (some ⟨g1, 0, none⟩) (putU n).length c1)).run Tryd.prog W = .ok (.string ⟨(putU n).toArray⟩) W := fun W hc => run_str (Rd.owned (owned_frame HO12.out hc (fun _ _ hm => by cases hm)))
  have hs2 : ∀ W, Chg [] w2 W → (convert 22 9 (.slice (some ⟨g2, 0, none⟩) (putS m).length c2)).run Tryd.prog W = .ok (.string ⟨(putS m).toArray⟩) W := fun W hc => run_str (Rd.owned (owned_frame HO2.out hc (fun _ _ hm => by cases hm)))
  have k0 : Chg [] w2 w2.drew := (Chg.refl _ _).drew
  clear ho2 hc2 hnc1 hcm1 hnc2 hcm2 HO1
  generalize hA : putU n = A at *
  generalize hB : putS m = B at *
  have HA := Lib.hid hA
  have HB := Lib.hid hB
  clear hA hB
  have hb1 : decide ((10 : Int) < (A.length : Int)) = false := by simp; omega
  have hb2 : decide ((10 : Int) < (B.length : Int)) = false := by simp; omega
  go_wp2_with fail
  refine wp_region_noPanic ?_
  refine wp_region_held_drew (S := fun w' => Chg [] w2 w') (by kernel_rfl) k0 (fun hHeld => ?_)
  refine take_read (i := 0) (v := ?_) (by simp only [List.getElem?_toArray, List.getElem?_cons_zero]; rfl) (by kernel_rfl) (by kernel_rfl) (by kernel_rfl) (fun _ _ _ h => h) hHeld ?_ ?_
  rotate_left
  · intro w hSw
    go_simp
    try with_reducible rfl
  try simp only [Act.put, List.setIfInBounds_toArray, List.set_cons_zero, List.set_cons_succ]
  refine take_read (i := 1) (v := ?_) (by simp only [List.getElem?_toArray, List.getElem?_cons_succ, List.getElem?_cons_zero]; rfl) (by kernel_rfl) (by kernel_rfl) (by kernel_rfl) (fun _ _ _ h => h) hHeld ?_ ?_
  rotate_left
  · intro w hSw
    go_simp
    try with_reducible rfl
  try simp only [Act.put, List.setIfInBounds_toArray, List.set_cons_zero, List.set_cons_succ]
  refine take_read (i := 2) (v := ?_) (by simp only [List.getElem?_toArray, List.getElem?_cons_succ, List.getElem?_cons_zero]; rfl) (by kernel_rfl) (by kernel_rfl) (by kernel_rfl) (fun _ _ _ h => h) hHeld ?_ ?_
  rotate_left
  · intro w hSw
    go_simp
    try with_reducible rfl
  try simp only [Act.put, List.setIfInBounds_toArray, List.set_cons_zero, List.set_cons_succ]
  refine wpAnyH_ready (rs := [3]) (by kernel_rfl) (by simp) ?_
  refine AllReadyH.cons rfl (fun K hK => ?_) AllReadyH.nil
  go_simp
  refine (RefPut_any 9 n _ (by decide) (lt_pow10 n HN.out) HN.out).mono ?_
  rintro e w3 ⟨v3, rfl, ho3, hc3⟩
  rw [show putUf 9 n = A from HA.out] at ho3
  obtain ⟨g3, c3, rfl, _, _, _, _, _⟩ := owned_at ho3 hlu.1
  have hs3 : ∀ W, Chg [] w3 W → (convert 22 9 (.slice (some ⟨g3, 0, none⟩) A.length c3)).run Tryd.prog W = .ok (.string ⟨A.toArray⟩) W := fun W hc => run_str (Rd.owned (owned_frame ho3 hc (fun _ _ hm => by cases hm)))
  have k3 := k0.then hc3
  have hs2 : ∀ W, Chg [] w3 W → (convert 22 9 (.slice (some ⟨g2, 0, none⟩) B.length c2)).run Tryd.prog W = .ok (.string ⟨B.toArray⟩) W := fun W hc => run_str (Rd.owned (owned_frame HO2.out (k3.then hc) (fun _ _ hm => by cases hm)))
  clear ho3 hc3
  refine hK.out _ _ k3 (fun _ => ?_)
  clear hK hHeld K
  refine wpAnyH_mono (S' := fun w' => Chg [] w3 w') (fun W h => k3.then h) _ _ _ _ ?_
  have hHeld : Chg [] w3 w3 := Chg.refl _ _
  try simp only [Act.put, List.setIfInBounds_toArray, List.set_cons_zero, List.set_cons_succ]
  refine take_read (i := 4) (v := ?_) (by simp only [List.getElem?_toArray, List.getElem?_cons_succ, List.getElem?_cons_zero]; rfl) (by kernel_rfl) (by kernel_rfl) (by kernel_rfl) (fun _ _ _ h => h) hHeld ?_ ?_
  rotate_left
  · intro w hSw
    go_simp
    try with_reducible rfl
  try simp only [Act.put, List.setIfInBounds_toArray, List.set_cons_zero, List.set_cons_succ]
  refine take_read (i := 5) (v := ?_) (by simp only [List.getElem?_toArray, List.getElem?_cons_succ, List.getElem?_cons_zero]; rfl) (by kernel_rfl) (by kernel_rfl) (by kernel_rfl) (fun _ _ _ h => h) hHeld ?_ ?_
  rotate_left
  · intro w hSw
    go_simp
    try with_reducible rfl
  try simp only [Act.put, List.setIfInBounds_toArray, List.set_cons_zero, List.set_cons_succ]
  refine take_read (i := 6) (v := ?_) (by simp only [List.getElem?_toArray, List.getElem?_cons_succ, List.getElem?_cons_zero]; rfl) (by kernel_rfl) (by kernel_rfl) (by kernel_rfl) (fun _ _ _ h => h) hHeld ?_ ?_
  rotate_left
  · intro w hSw
    go_simp
    try with_reducible rfl
  try simp only [Act.put, List.setIfInBounds_toArray, List.set_cons_zero, List.set_cons_succ]
  refine take_read (i := 7) (v := ?_) (by simp only [List.getElem?_toArray, List.getElem?_cons_succ, List.getElem?_cons_zero]; rfl) (by kernel_rfl) (by kernel_rfl) (by kernel_rfl) (fun _ _ _ h => h) hHeld ?_ ?_
  rotate_left
  · intro w hSw
    go_simp
    try with_reducible rfl
  try simp only [Act.put, List.setIfInBounds_toArray, List.set_cons_zero, List.set_cons_succ]
  refine take_read (i := 8) (v := ?_) (by simp only [List.getElem?_toArray, List.getElem?_cons_succ, List.getElem?_cons_zero]; rfl) (by kernel_rfl) (by kernel_rfl) (by kernel_rfl) (fun _ _ _ h => h) hHeld ?_ ?_
  rotate_left
  · intro w hSw
    go_simp
    try with_reducible rfl
  try simp only [Act.put, List.setIfInBounds_toArray, List.set_cons_zero, List.set_cons_succ]
  refine take_read (i := 9) (v := ?_) (by simp only [List.getElem?_toArray, List.getElem?_cons_succ, List.getElem?_cons_zero]; rfl) (by kernel_rfl) (by kernel_rfl) (by kernel_rfl) (fun _ _ _ h => h) hHeld ?_ ?_
  rotate_left
  · intro w hSw
    go_simp
    try with_reducible rfl
  try simp only [Act.put, List.setIfInBounds_toArray, List.set_cons_zero, List.set_cons_succ]
  refine wpAnyH_ready (rs := [10]) (by kernel_rfl) (by simp) ?_
  refine AllReadyH.cons rfl (fun K hK => ?_) AllReadyH.nil
  go_simp
  refine (RefPutSigned_any 9 m _ (by decide) (by have := HM.out; omega) HM.out).mono ?_
  rintro e w4 ⟨v4, rfl, ho4, hc4⟩
  rw [show putSf 9 m = B from HB.out] at ho4
  obtain ⟨g4, c4, rfl, _, _, _, _, _⟩ := owned_at ho4 hls.1
  have hs4 : ∀ W, Chg [] w4 W → (convert 22 9 (.slice (some ⟨g4, 0, none⟩) B.length c4)).run Tryd.prog W = .ok (.string ⟨B.toArray⟩) W := fun W hc => run_str (Rd.owned (owned_frame ho4 hc (fun _ _ hm => by cases hm)))
  clear ho4
  refine hK.out _ _ hc4 (fun _ => ?_)
  clear hK hHeld K
  refine wpAnyH_mono (S' := fun w' => Chg [] w4 w') (fun W h => hc4.then h) _ _ _ _ ?_
  have hHeld : Chg [] w4 w4 := Chg.refl _ _
  try simp only [Act.put, List.setIfInBounds_toArray, List.set_cons_zero, List.set_cons_succ]
  refine take_read (i := 11) (v := ?_) (by simp only [List.getElem?_toArray, List.getElem?_cons_succ, List.getElem?_cons_zero]; rfl) (by kernel_rfl) (by kernel_rfl) (by kernel_rfl) (fun _ _ _ h => h) hHeld ?_ ?_
  rotate_left
  · intro w hSw
    go_simp
    try with_reducible rfl
  try simp only [Act.put, List.setIfInBounds_toArray, List.set_cons_zero, List.set_cons_succ]
  refine take_read (i := 12) (v := ?_) (by simp only [List.getElem?_toArray, List.getElem?_cons_succ, List.getElem?_cons_zero]; rfl) (by kernel_rfl) (by kernel_rfl) (by kernel_rfl) (fun _ _ _ h => h) hHeld ?_ ?_
  rotate_left
  · intro w hSw
    go_simp
    try with_reducible rfl
  try simp only [Act.put, List.setIfInBounds_toArray, List.set_cons_zero, List.set_cons_succ]
  refine take_read (i := 13) (v := ?_) (by simp only [List.getElem?_toArray, List.getElem?_cons_succ, List.getElem?_cons_zero]; rfl) (by kernel_rfl) (by kernel_rfl) (by kernel_rfl) (fun _ _ _ h => h) hHeld ?_ ?_
  rotate_left
  · intro w hSw
    go_simp
    try with_reducible rfl
  try simp only [Act.put, List.setIfInBounds_toArray, List.set_cons_zero, List.set_cons_succ]
  refine take_read (i := 14) (v := ?_) (by simp only [List.getElem?_toArray, List.getElem?_cons_succ, List.getElem?_cons_zero]; rfl) (by kernel_rfl) (by kernel_rfl) (by kernel_rfl) (fun _ _ _ h => h) hHeld ?_ ?_
  rotate_left
  · intro w hSw
    go_simp
    try with_reducible rfl
  try simp only [Act.put, List.setIfInBounds_toArray, List.set_cons_zero, List.set_cons_succ]
  refine take_read (i := 15) (v := ?_) (by simp only [List.getElem?_toArray, List.getElem?_cons_succ, List.getElem?_cons_zero]; rfl) (by kernel_rfl) (by kernel_rfl) (by kernel_rfl) (fun _ _ _ h => h) hHeld ?_ ?_
  rotate_left
  · intro w hSw
    go_simp
    try with_reducible rfl
  try simp only [Act.put, List.setIfInBounds_toArray, List.set_cons_zero, List.set_cons_succ]
  refine take_read (i := 16) (v := ?_) (by simp only [List.getElem?_toArray, List.getElem?_cons_succ, List.getElem?_cons_zero]; rfl) (by kernel_rfl) (by kernel_rfl) (by kernel_rfl) (fun _ _ _ h => h) hHeld ?_ ?_
  rotate_left
  · intro w hSw
    go_simp
    try with_reducible rfl
  try simp only [Act.put, List.setIfInBounds_toArray, List.set_cons_zero, List.set_cons_succ]
  refine take_read (i := 17) (v := ?_) (by simp only [List.getElem?_toArray, List.getElem?_cons_succ, List.getElem?_cons_zero]; rfl) (by kernel_rfl) (by kernel_rfl) (by kernel_rfl) (fun _ _ _ h => h) hHeld ?_ ?_
  rotate_left
  · intro w hSw
    go_simp
    try with_reducible rfl
  try simp only [Act.put, List.setIfInBounds_toArray, List.set_cons_zero, List.set_cons_succ]
  refine take_read (i := 18) (v := ?_) (by simp only [List.getElem?_toArray, List.getElem?_cons_succ, List.getElem?_cons_zero]; rfl) (by kernel_rfl) (by kernel_rfl) (by kernel_rfl) (fun _ _ _ h => h) hHeld ?_ ?_
  rotate_left
  · intro w hSw
    go_simp
    try with_reducible rfl
  try simp only [Act.put, List.setIfInBounds_toArray, List.set_cons_zero, List.set_cons_succ]
  refine take_read (i := 19) (v := ?_) (by simp only [List.getElem?_toArray, List.getElem?_cons_succ, List.getElem?_cons_zero]; rfl) (by kernel_rfl) (by kernel_rfl) (by kernel_rfl) (fun _ _ _ h => h) hHeld ?_ ?_
  rotate_left
  · intro w hSw
    go_simp
    try with_reducible rfl
  try simp only [Act.put, List.setIfInBounds_toArray, List.set_cons_zero, List.set_cons_succ]
  refine take_read (i := 20) (v := ?_) (by simp only [List.getElem?_toArray, List.getElem?_cons_succ, List.getElem?_cons_zero]; rfl) (by kernel_rfl) (by kernel_rfl) (by kernel_rfl) (fun _ _ _ h => h) hHeld ?_ ?_
  rotate_left
  · intro w hSw
    go_simp
    try with_reducible rfl
  try simp only [Act.put, List.setIfInBounds_toArray, List.set_cons_zero, List.set_cons_succ]
  refine take_read (i := 21) (v := ?_) (by simp only [List.getElem?_toArray, List.getElem?_cons_succ, List.getElem?_cons_zero]; rfl) (by kernel_rfl) (by kernel_rfl) (by kernel_rfl) (fun _ _ _ h => h) hHeld ?_ ?_
  rotate_left
  · intro w hSw
    go_simp
    try with_reducible rfl
  try simp only [Act.put, List.setIfInBounds_toArray, List.set_cons_zero, List.set_cons_succ]
  refine take_read (i := 22) (v := ?_) (by simp only [List.getElem?_toArray, List.getElem?_cons_succ, List.getElem?_cons_zero]; rfl) (by kernel_rfl) (by kernel_rfl) (by kernel_rfl) (fun _ _ _ h => h) hHeld ?_ ?_
  rotate_left
  · intro w hSw
    go_simp
    try with_reducible rfl
  try simp only [Act.put, List.setIfInBounds_toArray, List.set_cons_zero, List.set_cons_succ]
  refine take_read (i := 23) (v := ?_) (by simp only [List.getElem?_toArray, List.getElem?_cons_succ, List.getElem?_cons_zero]; rfl) (by kernel_rfl) (by kernel_rfl) (by kernel_rfl) (fun _ _ _ h => h) hHeld ?_ ?_
  rotate_left
  · intro w hSw
    go_simp
    try with_reducible rfl
  try simp only [Act.put, List.setIfInBounds_toArray, List.set_cons_zero, List.set_cons_succ]
  refine wpAnyH_done (by kernel_rfl) ?_ _
  refine NoPanic.normal ?_
  have HC4 := Lib.hid (HC2.out.then (k3.then hc4))
  have HRA := Lib.hid (Rd.owned (owned_frame HO12.out (k3.then hc4) (fun _ _ hm => by cases hm)))
  have HRB := Lib.hid (Rd.owned (owned_frame HO2.out (k3.then hc4) (fun _ _ hm => by cases hm)))
  clear k0 k3 hc4 hs1 hs2 hs3 hs4 hHeld
  clear hs2
  have hD : Hid ((A ++ B ++ l).length ≤ 140737488355328) := Lib.hid (by simp; omega)
  go_wp2_with (at_builtin; refine app_bytes rfl _ _ rfl w4.heap.size _ 0 [] rfl (World.ownsRow_nil w4 w4.heap.size 5 1) _ rfl A HRA.out (by omega) (Nat.le_refl _) ?_; intro v5 w5 ho5 hg5; refine Hid.out ?_)
  refine Lib.hid ?_
  have HO5 : Hid (w5.ownsRow w4.heap.size 5 1 v5 A.length (bytesV A)) := Lib.hid (by simpa using ho5)
  have HC5 : Hid (Chg [] w4 w5) := Lib.hid ((Chg.refl _ _).grown hg5 (by intro k hk; cases hk))
  clear ho5 hg5
  have HRB5 := Lib.hid (HRB.out.frame HC5.out (fun _ _ hm => by cases hm))
  have hsz5 := HC5.out.size
  go_wp2_with (at_builtin; refine app_bytes rfl _ _ rfl w4.heap.size _ _ _ rfl HO5.out _ rfl B HRB5.out (by omega) hsz5 ?_; intro v6 w6 ho6 hg6; refine Hid.out ?_)
  refine Lib.hid ?_
  have HO6 := Lib.hid ho6
  have HC6 := Lib.hid (HC5.out.grown hg6 (fun k hk => .inr (HO5.out.lt k hk).1))
  clear ho6 hg6
  have HRL := Lib.hid (HR.out.frame (HC4.out.then HC6.out) (fun _ _ hm => by cases hm))
  have hsz6 := HC6.out.size
  go_wp2_with (at_builtin; refine app_bytes rfl _ _ rfl w4.heap.size _ _ _ rfl HO6.out _ rfl l HRL.out (by omega) hsz6 ?_; intro v7 w7 ho7 hg7; refine Hid.out ?_)
  refine Lib.hid ?_
  have HC7 := Lib.hid (HC6.out.grown hg7 (fun k hk => .inr (HO6.out.lt k hk).1))
  have HR7 : Hid (Rd w7 v7 (bytesV (A ++ B ++ l))) := Lib.hid (by rw [bytesV_append, bytesV_append]; exact Rd.owned ho7)
  clear ho7 hg7
  go_wp2_with fail
  refine (New_cur _ _ _ w7 HR7.out hD.out).mono ?_
  rintro e w8 ⟨x, rfl, hx, hcx, hch⟩
  have H8 := Lib.hid (((Curs.start HG.out).pure (HC4.out.then HC7.out)).new hch hcx hx)
  clear hcx hch hx
  have HU : Hid (uvalV ((A ++ B ++ l).drop 0) = some (n, A.length)) := Lib.hid (by
    rw [List.drop_zero, List.append_assoc, ← HA.out]; exact uvalV_put n HN.out _)
  have HS : Hid (svalV ((A ++ B ++ l).drop (0 + A.length)) = some (m, B.length)) := Lib.hid (by
    rw [Nat.zero_add, List.append_assoc, List.drop_left, ← HB.out]; exact svalV_put m HM.out _)
  go_wp2_with fail
  refine (Uleb_cur x _ w8 H8.out.env H8.out.cur).mono ?_
  rintro e w9 ⟨rfl, hcx, hch⟩
  have H9 := Lib.hid (H8.out.call hcx hch)
  clear hcx hch
  rw [(U_some false HU.out).2] at H9
  rw [(U_some false HU.out).1]
  go_wp2_with fail
  refine (Sleb_cur x _ w9 H9.out.env H9.out.cur).mono ?_
  rintro e w10 ⟨rfl, hcx, hch⟩
  have H10 := Lib.hid (H9.out.call hcx hch)
  clear hcx hch
  rw [(S_some false HS.out).2] at H10
  rw [(S_some false HS.out).1]
  go_wp2_with fail
  refine (Err_ok x _ w10 H10.out.cur rfl).mono ?_
  rintro e w11 ⟨rfl, hch⟩
  have H11 := Lib.hid (H10.out.pure hch)
  clear hch
  go_wp2_with fail
  refine (Left_cur x _ w11 H11.out.cur).mono ?_
  rintro e w12 ⟨rfl, hdr⟩
  have H12 := Lib.hid (H11.out.dr hdr)
  clear hdr
  rw [show ((A ++ B ++ l).length : Int) - ((0 + A.length + B.length : Nat) : Int) = l.length by simp; omega]
  go_wp2_with fail
  refine (known_ok w12 H12.out.env).mono ?_
  rintro e w13 ⟨rfl, hc⟩
  have HC := Lib.hid (H12.out.chg.then hc)
  clear hc
  go_wp2
  go_ret
  exact ⟨rfl, HC.out⟩
theorem LebPuts_out (n : Nat) (m : Int) (l : List UInt8) (a : Option Addr) (cap : Nat) (w : World) (rd : Rd w (.slice a l.length cap) (bytesV l)) (hg : Env w) (hl : 100 < l.length) :
    Calls Tryd.prog 6 #[.int .u64 n, .int .i64 m, .slice a l.length cap] w fun e w' => e = .returned (.bool true) ∧ Chg [] w w' := by
  have hmax := (Rd_len rd).2
  have HG := Lib.hid hg
  clear hg rd
  go_enter Tryd.func6, Tryd.ntmps6
  go_wp2_with fail
  refine (known_ok w HG.out).mono ?_
  rintro e w1 ⟨rfl, hc⟩
  have HC := Lib.hid hc
  clear hc
  go_wp2
  go_ret
  exact ⟨rfl, HC.out⟩
theorem LebPuts_walk (w : World) (hg : Env w) (n : Int) (hn : (Lit.int .u64 n).wf = true) (m : Int) (hm : (Lit.int .i64 m).wf = true) (l : List UInt8) (a : Option Addr) (cap : Nat) (rd : Rd w (.slice a l.length cap) (bytesV l)) :
    Calls Tryd.prog 6 #[.int .u64 n, .int .i64 m, .slice a l.length cap] w fun e w' => e = .returned (.bool true) ∧ Chg [] w w' := by
  obtain ⟨n, rfl, h1⟩ := u64_nat n hn
  have h2 := i64_bd m hm
  rcases Nat.lt_or_ge 100 l.length with h | h
  · exact LebPuts_out n m l a cap w rd hg h
  · exact LebPuts_in n h1 m h2 l a cap w rd hg h
end Go.Proofs.YtpodphfdoonidaaDoor
