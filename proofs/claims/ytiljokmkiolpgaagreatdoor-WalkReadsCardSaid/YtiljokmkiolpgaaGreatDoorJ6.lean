/- Lemmas, laid together: part 6 of 42. Conditions: none but each lemma's own. -/
import Derived.Test.YtiljokmkiolpgaaGreatDoorJ5
import Derived.Test.YtiljokmkiolpgaaGreatDoorJ4
import Derived.Test.YtiljokmkiolpgaaGreatDoorJ3
import Derived.Test.YtiljokmkiolpgaaGreatDoorJ1
namespace Go.Proofs.YtiljokmkiolpgaaGreatDoor
open Go.RowKit
set_option maxRecDepth 100000
def addS (v : Nat) : Int := if v < 262144 then v else (v : Int) - 524288
def youngS (low : Nat) (above : Bool) (nth : Nat) (n : Nat) : Say :=
 if bt n 62 1 = 1 then ⟨true, bt n 0 nth, if bt n 63 1 = 1 then 0 else addS (bt n 32 19), 0, 0, bt n 51 11⟩
 else if bt n 63 1 = 1 then ⟨false, 0, 0, (((low + bt n 0 32) % 18446744073709551616 : Nat) : Int), 0, bt n 51 11⟩
 else ⟨false, 0, 0, ((if above then (bt n 0 43 + low) % 18446744073709551616 else bt n 0 43 : Nat) : Int), bt n 43 8, bt n 51 11⟩
set_option maxHeartbeats 2000000 in
theorem young_any (n : Nat) (hn : n < 18446744073709551616) (low : Nat) (above : Bool) (nth : Nat) (hnth : nth ≤ 63) (w : World) :
  Calls Tryz.prog 71 #[Fmt.v ⟨low, above, nth⟩, .int .u64 n] w fun e w' => e = .returned (youngS low above nth n).v ∧ Chg [] w w' := by
 have H51 : Hid (∀ w, Calls Tryz.prog 73 #[.int .u64 (n : Int), .int .i64 51, .int .i64 11] w fun e w' => e = .returned (.int .u64 (bt n 51 11 : Int)) ∧ Dr w w') := hY (fun w => bits_any n 51 11 hn (by decide) (by decide) w)
 have H63 : Hid (∀ w, Calls Tryz.prog 73 #[.int .u64 (n : Int), .int .i64 63, .int .i64 1] w fun e w' => e = .returned (.int .u64 (bt n 63 1 : Int)) ∧ Dr w w') := hY (fun w => bits_any n 63 1 hn (by decide) (by decide) w)
 have H62 : Hid (∀ w, Calls Tryz.prog 73 #[.int .u64 (n : Int), .int .i64 62, .int .i64 1] w fun e w' => e = .returned (.int .u64 (bt n 62 1 : Int)) ∧ Dr w w') := hY (fun w => bits_any n 62 1 hn (by decide) (by decide) w)
 have H32 : Hid (∀ w, Calls Tryz.prog 73 #[.int .u64 (n : Int), .int .i64 32, .int .i64 19] w fun e w' => e = .returned (.int .u64 (bt n 32 19 : Int)) ∧ Dr w w') := hY (fun w => bits_any n 32 19 hn (by decide) (by decide) w)
 have H0 : Hid (∀ w, Calls Tryz.prog 73 #[.int .u64 (n : Int), .int .i64 0, .int .i64 43] w fun e w' => e = .returned (.int .u64 (bt n 0 43 : Int)) ∧ Dr w w') := hY (fun w => bits_any n 0 43 hn (by decide) (by decide) w)
 have H00 : Hid (∀ w, Calls Tryz.prog 73 #[.int .u64 (n : Int), .int .i64 0, .int .i64 32] w fun e w' => e = .returned (.int .u64 (bt n 0 32 : Int)) ∧ Dr w w') := hY (fun w => bits_any n 0 32 hn (by decide) (by decide) w)
 have H43 : Hid (∀ w, Calls Tryz.prog 73 #[.int .u64 (n : Int), .int .i64 43, .int .i64 8] w fun e w' => e = .returned (.int .u64 (bt n 43 8 : Int)) ∧ Dr w w') := hY (fun w => bits_any n 43 8 hn (by decide) (by decide) w)
 have HN : Hid (∀ w, Calls Tryz.prog 73 #[.int .u64 (n : Int), .int .i64 0, .int .i64 nth] w fun e w' => e = .returned (.int .u64 (bt n 0 nth : Int)) ∧ Dr w w') := hY (fun w => bits_any n 0 nth hn (by decide) hnth w)
 have w51 : wrap64 (bt n 51 11 : Int) = (bt n 51 11 : Int) := by have := bt_lt n 51 11; unfold wrap64; omega
 have hlt := bt_lt n 0 43
 have hlt2 := bt_lt n 32 19
 unfold youngS
 generalize bt n 51 11 = A at *
 generalize bt n 63 1 = T at *
 generalize bt n 62 1 = S at *
 generalize bt n 32 19 = D at *
 generalize bt n 0 43 = E at *
 generalize bt n 0 32 = J at *
 generalize bt n 43 8 = F at *
 generalize bt n 0 nth = C at *
 clear hn hnth
 show Calls _ _ #[.agg #[.int .u64 (low : Int), .bool above, .int .i64 (nth : Int)], _] w _
 by_cases hS : S = 1
 ·subst hS
  rw [if_pos rfl]
  by_cases hT : T = 1
  ·subst hT
   rw [if_pos rfl]
   clear hlt hlt2
   go_enter Tryz.func71, Tryz.ntmps71
   go_wp2_with fail
   refine ((H51).out _).mono ?_
   rintro e w' ⟨rfl, hdr⟩
   obtain ⟨k1, rfl⟩ := hdr.ex
   clear hdr
   go_wp2_with fail
   refine ((H63).out _).mono ?_
   rintro e w' ⟨rfl, hdr⟩
   obtain ⟨k2, rfl⟩ := hdr.ex
   clear hdr
   go_wp2_with fail
   refine ((H62).out _).mono ?_
   rintro e w' ⟨rfl, hdr⟩
   obtain ⟨k3, rfl⟩ := hdr.ex
   clear hdr
   go_wp2_with fail
   refine ((HN).out _).mono ?_
   rintro e w' ⟨rfl, hdr⟩
   obtain ⟨k4, rfl⟩ := hdr.ex
   clear hdr
   go_upto_region 12 with fail
   refine Lay.with_world (fun W => sayL.Box W (w.heap.size + 1 + 1) ⟨true, C, 0, 0, 0, A⟩ ∧ sayL.Box W (w.heap.size + 1) ⟨false, 0, 0, 0, 0, 0⟩ ∧ Chg [] w W) ⟨?_, ?_, ?_⟩ (fun W hW => ?_)
   rotate_left
   ·repeat' (first | with_reducible exact Say.boxAt _ ⟨false, 0, 0, 0, 0, 0⟩ _ (by simp) | with_reducible refine Lay.Box.drewN ?_ _ | with_reducible refine Lay.Box.drew ?_ | with_reducible refine Lay.Box.alloc ?_ _ | with_reducible refine Lay.Box.setCell ?_ _ _ ?_)
    all_goals ((try dsimp only); omega)
   ·repeat' (first | with_reducible exact Chg.refl _ _ | with_reducible refine Chg.drewN ?_ _ | with_reducible refine Chg.drew ?_ | with_reducible refine Chg.alloc ?_ _ | with_reducible refine Chg.setCell ?_ _ _ (.inr ?_))
    all_goals ((try dsimp only); omega)
   rotate_left
   ·refine Say.set_nth (Say.set_bind (Lay.Box.drewN (Say.boxAt _ ⟨false, 0, 0, 0, 0, A⟩ _ ?_) _) true) C
    simp
   obtain ⟨hx, hy, hc⟩ := hW
   obtain ⟨x0, x1, x2, x3, x4, x5⟩ := Say.at0B hx
   obtain ⟨y0, y1, y2, y3, y4, y5⟩ := Say.at0B hy
   have z0 := (hy).frozen 0
   have z1 := (hy).frozen 1
   have z2 := (hy).frozen 2
   have z3 := (hy).frozen 3
   have z4 := (hy).frozen 4
   have z5 := (hy).frozen 5
   have Hc := hY hc
   have Hx := hY hx
   have Hy := hY hy
   clear hc hx hy
   go_wp2
   refine Lay.with_post (fun W => sayL.Box W (w.heap.size + 1) ⟨true, C, 0, 0, 0, A⟩ ∧ Chg [] w W) ⟨Say.put0 (g := w.heap.size + 1) Hy.out ⟨true, C, 0, 0, 0, A⟩, Hc.out.new (Say.chg0 _ (w.heap.size + 1) ⟨true, C, 0, 0, 0, A⟩) (by omega)⟩ (fun W hW => ?_)
   obtain ⟨g0, g1, g2, g3, g4, g5⟩ := Say.at0B hW.1
   refine bodyPost_ret (v := (Say.v ⟨true, C, 0, 0, 0, A⟩)) (by simp [results, Tryz.results71, go_sem, g0, g1, g2, g3, g4, g5]) rfl ?_
   exact ⟨rfl, hW.2⟩
  ·rw [if_neg hT]
   have dT : ((T : Int) == 1) = false := by simp; omega
   have qD : wrap64 ((D : Int) * 35184372088832) / 35184372088832 = addS D := by unfold wrap64 addS; split <;> omega
   generalize addS D = X at *
   go_enter Tryz.func71, Tryz.ntmps71
   go_wp2_with fail
   refine ((H51).out _).mono ?_
   rintro e w' ⟨rfl, hdr⟩
   obtain ⟨k1, rfl⟩ := hdr.ex
   clear hdr
   go_wp2_with fail
   refine ((H63).out _).mono ?_
   rintro e w' ⟨rfl, hdr⟩
   obtain ⟨k2, rfl⟩ := hdr.ex
   clear hdr
   go_wp2_with fail
   refine ((H62).out _).mono ?_
   rintro e w' ⟨rfl, hdr⟩
   obtain ⟨k3, rfl⟩ := hdr.ex
   clear hdr
   go_wp2_with fail
   refine ((HN).out _).mono ?_
   rintro e w' ⟨rfl, hdr⟩
   obtain ⟨k4, rfl⟩ := hdr.ex
   clear hdr
   go_wp2_with fail
   refine ((H32).out _).mono ?_
   rintro e w' ⟨rfl, hdr⟩
   obtain ⟨k5, rfl⟩ := hdr.ex
   clear hdr
   go_upto_region 12 with fail
   refine Lay.with_world (fun W => sayL.Box W (w.heap.size + 1 + 1) ⟨true, C, X, 0, 0, A⟩ ∧ sayL.Box W (w.heap.size + 1) ⟨false, 0, 0, 0, 0, 0⟩ ∧ Chg [] w W) ⟨?_, ?_, ?_⟩ (fun W hW => ?_)
   rotate_left
   ·repeat' (first | with_reducible exact Say.boxAt _ ⟨false, 0, 0, 0, 0, 0⟩ _ (by simp) | with_reducible refine Lay.Box.drewN ?_ _ | with_reducible refine Lay.Box.drew ?_ | with_reducible refine Lay.Box.alloc ?_ _ | with_reducible refine Lay.Box.setCell ?_ _ _ ?_)
    all_goals ((try dsimp only); omega)
   ·repeat' (first | with_reducible exact Chg.refl _ _ | with_reducible refine Chg.drewN ?_ _ | with_reducible refine Chg.drew ?_ | with_reducible refine Chg.alloc ?_ _ | with_reducible refine Chg.setCell ?_ _ _ (.inr ?_))
    all_goals ((try dsimp only); omega)
   rotate_left
   ·refine Say.set_add (Lay.Box.drewN (Say.set_nth (Say.set_bind (Lay.Box.drewN (Say.boxAt _ ⟨false, 0, 0, 0, 0, A⟩ _ ?_) _) true) C) _) X
    simp
   obtain ⟨hx, hy, hc⟩ := hW
   obtain ⟨x0, x1, x2, x3, x4, x5⟩ := Say.at0B hx
   obtain ⟨y0, y1, y2, y3, y4, y5⟩ := Say.at0B hy
   have z0 := (hy).frozen 0
   have z1 := (hy).frozen 1
   have z2 := (hy).frozen 2
   have z3 := (hy).frozen 3
   have z4 := (hy).frozen 4
   have z5 := (hy).frozen 5
   have Hc := hY hc
   have Hx := hY hx
   have Hy := hY hy
   clear hc hx hy
   go_wp2
   refine Lay.with_post (fun W => sayL.Box W (w.heap.size + 1) ⟨true, C, X, 0, 0, A⟩ ∧ Chg [] w W) ⟨Say.put0 (g := w.heap.size + 1) Hy.out ⟨true, C, X, 0, 0, A⟩, Hc.out.new (Say.chg0 _ (w.heap.size + 1) ⟨true, C, X, 0, 0, A⟩) (by omega)⟩ (fun W hW => ?_)
   obtain ⟨g0, g1, g2, g3, g4, g5⟩ := Say.at0B hW.1
   refine bodyPost_ret (v := (Say.v ⟨true, C, X, 0, 0, A⟩)) (by simp [results, Tryz.results71, go_sem, g0, g1, g2, g3, g4, g5]) rfl ?_
   exact ⟨rfl, hW.2⟩
 ·rw [if_neg hS]
  have dS : ((S : Int) == 1) = false := by simp; omega
  by_cases hT : T = 1
  ·subst hT
   rw [if_pos rfl]
   have wG : IntKind.u64.wrap ((low : Int) + (J : Int)) = (((low + J) % 18446744073709551616 : Nat) : Int) := by rw [IntKind.wrap_u64]; omega
   generalize (low + J) % 18446744073709551616 = G at *
   clear hlt hlt2
   go_enter Tryz.func71, Tryz.ntmps71
   go_wp2_with fail
   refine ((H51).out _).mono ?_
   rintro e w' ⟨rfl, hdr⟩
   obtain ⟨k1, rfl⟩ := hdr.ex
   clear hdr
   go_wp2_with fail
   refine ((H63).out _).mono ?_
   rintro e w' ⟨rfl, hdr⟩
   obtain ⟨k2, rfl⟩ := hdr.ex
   clear hdr
   go_wp2_with fail
   refine ((H62).out _).mono ?_
   rintro e w' ⟨rfl, hdr⟩
   obtain ⟨k3, rfl⟩ := hdr.ex
   clear hdr
   go_upto_region 11 with fail
   refine Lay.with_world (fun W => sayL.Box W (w.heap.size + 1 + 1) ⟨false, 0, 0, 0, 0, A⟩ ∧ sayL.Box W (w.heap.size + 1) ⟨false, 0, 0, 0, 0, 0⟩ ∧ fmtL.Box W w.heap.size ⟨low, above, nth⟩ ∧ Chg [] w W) ⟨?_, ?_, ?_, ?_⟩ (fun W hW => ?_)
   ·repeat' (first | with_reducible exact Say.boxAt _ ⟨false, 0, 0, 0, 0, (A : Int)⟩ _ (by simp) | with_reducible refine Lay.Box.drewN ?_ _ | with_reducible refine Lay.Box.drew ?_ | with_reducible refine Lay.Box.alloc ?_ _ | with_reducible refine Lay.Box.setCell ?_ _ _ ?_)
    all_goals ((try dsimp only); omega)
   ·repeat' (first | with_reducible exact Say.boxAt _ ⟨false, 0, 0, 0, 0, 0⟩ _ (by simp) | with_reducible refine Lay.Box.drewN ?_ _ | with_reducible refine Lay.Box.drew ?_ | with_reducible refine Lay.Box.alloc ?_ _ | with_reducible refine Lay.Box.setCell ?_ _ _ ?_)
    all_goals ((try dsimp only); omega)
   ·repeat' (first | with_reducible exact Fmt.boxAt _ ⟨low, above, nth⟩ _ (by simp) | with_reducible refine Lay.Box.drewN ?_ _ | with_reducible refine Lay.Box.drew ?_ | with_reducible refine Lay.Box.alloc ?_ _ | with_reducible refine Lay.Box.setCell ?_ _ _ ?_)
    all_goals ((try dsimp only); omega)
   ·repeat' (first | with_reducible exact Chg.refl _ _ | with_reducible refine Chg.drewN ?_ _ | with_reducible refine Chg.drew ?_ | with_reducible refine Chg.alloc ?_ _ | with_reducible refine Chg.setCell ?_ _ _ (.inr ?_))
    all_goals ((try dsimp only); omega)
   obtain ⟨hx, hy, hf, hc⟩ := hW
   obtain ⟨f0, f1, f2⟩ := Fmt.at0B hf
   clear hf
   have Hx := hY hx
   have Hy := hY hy
   have Hc := hY hc
   clear hx hy hc
   refine wp_region_noPanic ?_
   refine wp_region_held_drew (S := fun w' => Chg [w.heap.size + 1 + 1] W w') (by kernel_rfl) (Chg.refl _ _).drew (fun hHeld => ?_)
   refine tkr 0 ?_ hHeld ?_ ?_
   rotate_left
   ·intro w hSw
    go_simp
    try with_reducible rfl
   try simp only [Act.put, aS, aZ, aC]
   refine tkr 1 ?_ hHeld ?_ ?_
   rotate_left
   ·intro w hSw
    have f0 := hSw.cell f0 (by simp; omega)
    go_simp
    try with_reducible rfl
   try simp only [Act.put, aS, aZ, aC]
   refine tkr 2 ?_ hHeld ?_ ?_
   rotate_left
   ·intro w hSw
    go_simp
    try with_reducible rfl
   try simp only [Act.put, aS, aZ, aC]
   refine wpAnyH_ready (rs := [3]) (by kernel_rfl) (by simp) ?_
   refine AllReadyH.cons rfl (fun K hK => ?_) AllReadyH.nil
   go_simp
   refine (H00.out _).mono ?_
   rintro e w2 ⟨rfl, h2⟩
   obtain ⟨n2, rfl⟩ := h2.ex
   clear h2
   have x3 := (Say.at0B (Hx.out.drewN (1 + n2))).2.2.2.1
   have z3 := (Hx.out.drewN (1 + n2)).frozen 3
   refine hK.out _ _ (show Chg [w.heap.size + 1 + 1] W (W.drew.drewN n2) from ((Chg.refl _ _).drew).drewN _) ?_
   clear hK hHeld K
   intro hHeld
   try (unfold Act.put; simp only [aS, aZ, aC])
   refine tkr 4 ?_ hHeld ?_ ?_
   rotate_left
   ·intro w hSw
    go_simp
    try with_reducible rfl
   try simp only [Act.put, aS, aZ, aC]
   refine tkr 5 ?_ hHeld ?_ ?_
   rotate_left
   ·intro w hSw
    go_simp
    try with_reducible rfl
   try simp only [Act.put, aS, aZ, aC]
   refine wpAnyH_ready (rs := [6]) (by kernel_rfl) (by simp) ?_
   refine AllReadyH.cons rfl (fun K hK => ?_) AllReadyH.nil
   go_simp
   refine hK.out _ _ (((Chg.refl _ _).drewN _).setCell _ _ (.inl (List.mem_cons_self ..))) ?_
   clear hK hHeld K
   intro hHeld
   try (unfold Act.put; simp only [aS, aZ, aC])
   refine wpAnyH_done (by kernel_rfl) ?_ _
   refine NoPanic.normal ?_
   clear x3 z3
   go_upto_region 12 with fail
   refine Lay.with_world (fun W => sayL.Box W (w.heap.size + 1 + 1) ⟨false, 0, 0, G, 0, A⟩ ∧ sayL.Box W (w.heap.size + 1) ⟨false, 0, 0, 0, 0, 0⟩ ∧ Chg [] w W) ⟨?_, ?_, ?_⟩ (fun W hW => ?_)
   ·exact Say.set_tgt (Hx.out.drewN _) G
   ·refine Lay.Box.setCell (Hy.out.drewN _) _ _ ?_
    dsimp only
    omega
   ·exact (Hc.out.drewN _).setCell _ _ (.inr (by dsimp only; omega))
   obtain ⟨hx, hy, hc⟩ := hW
   obtain ⟨x0, x1, x2, x3, x4, x5⟩ := Say.at0B hx
   obtain ⟨y0, y1, y2, y3, y4, y5⟩ := Say.at0B hy
   have z0 := (hy).frozen 0
   have z1 := (hy).frozen 1
   have z2 := (hy).frozen 2
   have z3 := (hy).frozen 3
   have z4 := (hy).frozen 4
   have z5 := (hy).frozen 5
   have Hc := hY hc
   have Hx := hY hx
   have Hy := hY hy
   clear hc hx hy
   go_wp2
   refine Lay.with_post (fun W => sayL.Box W (w.heap.size + 1) ⟨false, 0, 0, G, 0, A⟩ ∧ Chg [] w W) ⟨Say.put0 (g := w.heap.size + 1) Hy.out ⟨false, 0, 0, G, 0, A⟩, Hc.out.new (Say.chg0 _ (w.heap.size + 1) ⟨false, 0, 0, G, 0, A⟩) (by omega)⟩ (fun W hW => ?_)
   obtain ⟨g0, g1, g2, g3, g4, g5⟩ := Say.at0B hW.1
   refine bodyPost_ret (v := (Say.v ⟨false, 0, 0, G, 0, A⟩)) (by simp [results, Tryz.results71, go_sem, g0, g1, g2, g3, g4, g5]) rfl ?_
   exact ⟨rfl, hW.2⟩
  ·rw [if_neg hT]
   have dT : ((T : Int) == 1) = false := by simp; omega
   clear hlt2
   cases above with
   | false =>
    clear hlt
    go_enter Tryz.func71, Tryz.ntmps71
    go_wp2_with fail
    refine ((H51).out _).mono ?_
    rintro e w' ⟨rfl, hdr⟩
    obtain ⟨k1, rfl⟩ := hdr.ex
    clear hdr
    go_wp2_with fail
    refine ((H63).out _).mono ?_
    rintro e w' ⟨rfl, hdr⟩
    obtain ⟨k2, rfl⟩ := hdr.ex
    clear hdr
    go_wp2_with fail
    refine ((H62).out _).mono ?_
    rintro e w' ⟨rfl, hdr⟩
    obtain ⟨k3, rfl⟩ := hdr.ex
    clear hdr
    go_wp2_with fail
    refine ((H0).out _).mono ?_
    rintro e w' ⟨rfl, hdr⟩
    obtain ⟨k4, rfl⟩ := hdr.ex
    clear hdr
    go_wp2_with fail
    refine ((H43).out _).mono ?_
    rintro e w' ⟨rfl, hdr⟩
    obtain ⟨k5, rfl⟩ := hdr.ex
    clear hdr
    go_upto_region 12 with fail
    refine Lay.with_world (fun W => sayL.Box W (w.heap.size + 1 + 1) ⟨false, 0, 0, E, F, A⟩ ∧ sayL.Box W (w.heap.size + 1) ⟨false, 0, 0, 0, 0, 0⟩ ∧ Chg [] w W) ⟨?_, ?_, ?_⟩ (fun W hW => ?_)
    rotate_left
    ·repeat' (first | with_reducible exact Say.boxAt _ ⟨false, 0, 0, 0, 0, 0⟩ _ (by simp) | with_reducible refine Lay.Box.drewN ?_ _ | with_reducible refine Lay.Box.drew ?_ | with_reducible refine Lay.Box.alloc ?_ _ | with_reducible refine Lay.Box.setCell ?_ _ _ ?_)
     all_goals ((try dsimp only); omega)
    ·repeat' (first | with_reducible exact Chg.refl _ _ | with_reducible refine Chg.drewN ?_ _ | with_reducible refine Chg.drew ?_ | with_reducible refine Chg.alloc ?_ _ | with_reducible refine Chg.setCell ?_ _ _ (.inr ?_))
     all_goals ((try dsimp only); omega)
    rotate_left
    ·refine Say.set_high (Say.set_tgt (Lay.Box.drewN (Say.boxAt _ ⟨false, 0, 0, 0, 0, A⟩ _ ?_) _) E) F
     simp
    obtain ⟨hx, hy, hc⟩ := hW
    obtain ⟨x0, x1, x2, x3, x4, x5⟩ := Say.at0B hx
    obtain ⟨y0, y1, y2, y3, y4, y5⟩ := Say.at0B hy
    have z0 := (hy).frozen 0
    have z1 := (hy).frozen 1
    have z2 := (hy).frozen 2
    have z3 := (hy).frozen 3
    have z4 := (hy).frozen 4
    have z5 := (hy).frozen 5
    have Hc := hY hc
    have Hx := hY hx
    have Hy := hY hy
    clear hc hx hy
    go_wp2
    refine Lay.with_post (fun W => sayL.Box W (w.heap.size + 1) ⟨false, 0, 0, E, F, A⟩ ∧ Chg [] w W) ⟨Say.put0 (g := w.heap.size + 1) Hy.out ⟨false, 0, 0, E, F, A⟩, Hc.out.new (Say.chg0 _ (w.heap.size + 1) ⟨false, 0, 0, E, F, A⟩) (by omega)⟩ (fun W hW => ?_)
    obtain ⟨g0, g1, g2, g3, g4, g5⟩ := Say.at0B hW.1
    refine bodyPost_ret (v := (Say.v ⟨false, 0, 0, E, F, A⟩)) (by simp [results, Tryz.results71, go_sem, g0, g1, g2, g3, g4, g5]) rfl ?_
    exact ⟨rfl, hW.2⟩
   | true =>
    have wE : IntKind.u64.wrap ((E : Int) + (low : Int)) = (((E + low) % 18446744073709551616 : Nat) : Int) := by rw [IntKind.wrap_u64]; omega
    simp only [if_true]
    generalize (E + low) % 18446744073709551616 = G at *
    clear hlt
    go_enter Tryz.func71, Tryz.ntmps71
    go_wp2_with fail
    refine ((H51).out _).mono ?_
    rintro e w' ⟨rfl, hdr⟩
    obtain ⟨k1, rfl⟩ := hdr.ex
    clear hdr
    go_wp2_with fail
    refine ((H63).out _).mono ?_
    rintro e w' ⟨rfl, hdr⟩
    obtain ⟨k2, rfl⟩ := hdr.ex
    clear hdr
    go_wp2_with fail
    refine ((H62).out _).mono ?_
    rintro e w' ⟨rfl, hdr⟩
    obtain ⟨k3, rfl⟩ := hdr.ex
    clear hdr
    go_wp2_with fail
    refine ((H0).out _).mono ?_
    rintro e w' ⟨rfl, hdr⟩
    obtain ⟨k4, rfl⟩ := hdr.ex
    clear hdr
    go_wp2_with fail
    refine ((H43).out _).mono ?_
    rintro e w' ⟨rfl, hdr⟩
    obtain ⟨k5, rfl⟩ := hdr.ex
    clear hdr
    go_upto_region 12 with fail
    refine Lay.with_world (fun W => sayL.Box W (w.heap.size + 1 + 1) ⟨false, 0, 0, G, F, A⟩ ∧ sayL.Box W (w.heap.size + 1) ⟨false, 0, 0, 0, 0, 0⟩ ∧ Chg [] w W) ⟨?_, ?_, ?_⟩ (fun W hW => ?_)
    rotate_left
    ·repeat' (first | with_reducible exact Say.boxAt _ ⟨false, 0, 0, 0, 0, 0⟩ _ (by simp) | with_reducible refine Lay.Box.drewN ?_ _ | with_reducible refine Lay.Box.drew ?_ | with_reducible refine Lay.Box.alloc ?_ _ | with_reducible refine Lay.Box.setCell ?_ _ _ ?_)
     all_goals ((try dsimp only); omega)
    ·repeat' (first | with_reducible exact Chg.refl _ _ | with_reducible refine Chg.drewN ?_ _ | with_reducible refine Chg.drew ?_ | with_reducible refine Chg.alloc ?_ _ | with_reducible refine Chg.setCell ?_ _ _ (.inr ?_))
     all_goals ((try dsimp only); omega)
    rotate_left
    ·refine Say.set_tgt (Say.set_high (Say.set_tgt (Lay.Box.drewN (Say.boxAt _ ⟨false, 0, 0, 0, 0, A⟩ _ ?_) _) E) F) G
     simp
    obtain ⟨hx, hy, hc⟩ := hW
    obtain ⟨x0, x1, x2, x3, x4, x5⟩ := Say.at0B hx
    obtain ⟨y0, y1, y2, y3, y4, y5⟩ := Say.at0B hy
    have z0 := (hy).frozen 0
    have z1 := (hy).frozen 1
    have z2 := (hy).frozen 2
    have z3 := (hy).frozen 3
    have z4 := (hy).frozen 4
    have z5 := (hy).frozen 5
    have Hc := hY hc
    have Hx := hY hx
    have Hy := hY hy
    clear hc hx hy
    go_wp2
    refine Lay.with_post (fun W => sayL.Box W (w.heap.size + 1) ⟨false, 0, 0, G, F, A⟩ ∧ Chg [] w W) ⟨Say.put0 (g := w.heap.size + 1) Hy.out ⟨false, 0, 0, G, F, A⟩, Hc.out.new (Say.chg0 _ (w.heap.size + 1) ⟨false, 0, 0, G, F, A⟩) (by omega)⟩ (fun W hW => ?_)
    obtain ⟨g0, g1, g2, g3, g4, g5⟩ := Say.at0B hW.1
    refine bodyPost_ret (v := (Say.v ⟨false, 0, 0, G, F, A⟩)) (by simp [results, Tryz.results71, go_sem, g0, g1, g2, g3, g4, g5]) rfl ?_
    exact ⟨rfl, hW.2⟩
def readV (low : Int) (n : Int) : Value :=
 if n = 12 then .func (.func 71) #[Fmt.v ⟨low, true, 24⟩] #[]
 else if n = 6 then .func (.func 72) #[Fmt.v ⟨low, true, 24⟩] #[]
 else if n = 2 then .func (.func 72) #[Fmt.v ⟨low, false, 24⟩] #[]
 else if n = 1 then .func (.func 71) #[Fmt.v ⟨low, false, 16⟩] #[]
 else .nilFunc
theorem Tryz.tRd : Map.Ty (Map.intK .i64) Tryz.prog 145 .nilFunc := ⟨3, 93, by kernel_rfl, by kernel_rfl, fun w => by kernel_rfl⟩
set_option maxHeartbeats 1000000 in
theorem reader_any (n : Int) (m : Img) (ls : List Seg) (w : World) (rd : segL.Rd w m.segs.v ls) :
  Calls Tryz.prog 33 #[.int .i64 n, imgL.val m] w fun e w' => e = .returned (readV (lowS ls) n) ∧ Chg [] w w' := by
 obtain ⟨A, hA⟩ : ∃ A, A = lowS ls := ⟨_, rfl⟩
 rw [← hA]
 have HL := hY (low_any m ls)
 rw [← hA] at HL
 clear hA
 have Rd := hY rd
 clear rd
 go_enter Tryz.func33, Tryz.ntmps33
 go_wp2_with ((with_reducible refine Lay.bxQ (L := imgL) 32 m ?_ ?_); exact rfl)
 refine hY fun W bm hbm hcW hbox => ?_
 clear hbm
 go_wp2_with ((with_reducible refine Lay.ldQ Tryz.tImg m (hbox.out.in) ?_ ?_); exact rfl)
 refine hY ?_
 go_wp2_with fail
 refine (HL.out _ (Rd.out.frame hcW.out)).mono ?_
 rintro e w1 ⟨rfl, hc⟩
 have C1 := hY (hcW.out.then hc)
 clear hc
 go_wp2_with ((with_reducible refine Map.mkL (Map.intK .i64) 145 ?_); intro W2 bq ebq cbq mbq; replace ebq := hY ebq; replace cbq := hY cbq; replace mbq := hY mbq; refine Hid.out ?_)
 refine hY ?_
 go_wp2_with ((with_reducible refine Map.insL Tryz.tRd (mbq.out) 1 (.func (.func 71) #[Fmt.v ⟨A, false, 16⟩] #[]) ?_ ?_ ?_ ?_); exact rfl; exact rfl; exact rfl; intro W3 cW3 mW3; replace cW3 := hY cW3; replace mW3 := hY mW3; refine Hid.out ?_)
 refine hY ?_
 go_wp2_with ((with_reducible refine Map.insL Tryz.tRd (mW3.out) 2 (.func (.func 72) #[Fmt.v ⟨A, false, 24⟩] #[]) ?_ ?_ ?_ ?_); exact rfl; exact rfl; exact rfl; intro W4 cW4 mW4; replace cW4 := hY cW4; replace mW4 := hY mW4; refine Hid.out ?_)
 refine hY ?_
 go_wp2_with ((with_reducible refine Map.insL Tryz.tRd (mW4.out) 6 (.func (.func 72) #[Fmt.v ⟨A, true, 24⟩] #[]) ?_ ?_ ?_ ?_); exact rfl; exact rfl; exact rfl; intro W5 cW5 mW5; replace cW5 := hY cW5; replace mW5 := hY mW5; refine Hid.out ?_)
 refine hY ?_
 go_wp2_with ((with_reducible refine Map.insL Tryz.tRd (mW5.out) 12 (.func (.func 71) #[Fmt.v ⟨A, true, 24⟩] #[]) ?_ ?_ ?_ ?_); exact rfl; exact rfl; exact rfl; intro W6 cW6 mW6; replace cW6 := hY cW6; replace mW6 := hY mW6; refine Hid.out ?_)
 refine hY ?_
 go_wp2_with ((with_reducible refine Map.getL Tryz.tRd (mW6.out) n ?_ ?_ ?_); exact rfl; exact rfl; refine Hid.out ?_)
 refine hY ?_
 go_wp2
 go_ret
 refine ⟨?_, ?_⟩
 ·show Ending.returned (Option.getD _ _) = _
  congr 1
  simp only [Map.put, readV]
  by_cases h1 : n = 12
  ·simp [h1]
  by_cases h2 : n = 6
  ·simp [h2]
  by_cases h3 : n = 2
  ·simp [h3]
  by_cases h4 : n = 1
  ·simp [h4]
  simp [h1, h2, h3, h4]
 ·have hsz : w.heap.size ≤ bq := by rw [ebq.out]; exact C1.out.size
  exact (((((C1.out.then cbq.out).new cW3.out hsz).new cW4.out hsz).new cW5.out hsz).new cW6.out hsz)
end Go.Proofs.YtiljokmkiolpgaaGreatDoor
