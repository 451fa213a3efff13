/- Lemmas, laid together: part 29 of 43. Conditions: none but each lemma's own. -/
import Derived.Test.YtgjlgamlmmjdpaaGreatDoorJ28
import Derived.WalkMore
/- image.May. -/
namespace Go.Proofs.YtgjlgamlmmjdpaaGreatDoor
open Go.RowKit
set_option maxRecDepth 100000

/-- The first error (0: none). -/
def firstE : List Int → Int
  | [] => 0
  | e :: r => if e = 0 then firstE r else e
theorem firstE_zero {r : List Int} : firstE (0 :: r) = firstE r := rfl
theorem firstE_ne {e : Int} {r : List Int} (h : ¬ e = 0) : firstE (e :: r) = e := if_neg h
set_option maxHeartbeats 4000000 in
theorem may_core (m : Img) (n h E0 E1 E2 E3 : Int) (w : World)
    (h0 : ∀ W, Chg [] w W → Calls Tryz.prog 17 #[imgL.val m, .int .u64 n, .int .u64 h] W fun e w' => e = .returned (.int .i64 E0) ∧ Chg [] W w')
    (h1 : ∀ W, Chg [] w W → Calls Tryz.prog 18 #[imgL.val m, .int .u64 n, .int .u64 h] W fun e w' => e = .returned (.int .i64 E1) ∧ Chg [] W w')
    (h2 : ∀ W, Chg [] w W → Calls Tryz.prog 19 #[imgL.val m, .int .u64 n, .int .u64 h] W fun e w' => e = .returned (.int .i64 E2) ∧ Chg [] W w')
    (h3 : ∀ W, Chg [] w W → Calls Tryz.prog 20 #[imgL.val m, .int .u64 n, .int .u64 h] W fun e w' => e = .returned (.int .i64 E3) ∧ Chg [] W w') :
    Calls Tryz.prog 8 #[imgL.val m, .int .u64 n, .int .u64 h] w fun e w' => e = .returned (.int .i64 (firstE [E0, E1, E2, E3])) ∧ Chg [] w w' := by
  obtain ⟨E, hE⟩ : ∃ E, E = firstE [E0, E1, E2, E3] := ⟨_, rfl⟩
  rw [← hE]
  have H0 := Lib.hid h0
  have H1 := Lib.hid h1
  have H2 := Lib.hid h2
  have H3 := Lib.hid h3
  have HE := Lib.hid hE
  clear h0 h1 h2 h3 hE
  go_enter Tryz.func8, Tryz.ntmps8
  go_wp2_with ((with_reducible refine Lay.bxL (L := imgL) 32 m ?_ ?_); exact rfl; intro W1 bm ebm cbm xbm; replace ebm := Lib.hid ebm; replace cbm := Lib.hid cbm; replace xbm := Lib.hid xbm; refine Hid.out ?_)
  refine Lib.hid ?_
  go_wp2_with fail
  go_step3
  go_wp2_with fail
  go_step3
  go_wp2_with fail
  refine Lay.with_world (fun W => W.heap[W1.heap.size]? = some (.cells #[.func (.func 17) #[] #[], .func (.func 18) #[] #[], .func (.func 19) #[] #[], .func (.func 20) #[] #[]] 43) ∧ Chg [] W1 W) ⟨heap_alloc_eq _ _, (Chg.refl _ _).alloc _⟩ (fun W2 hW => ?_)
  obtain ⟨g, hg⟩ : ∃ g, g = W1.heap.size := ⟨_, rfl⟩
  rw [← hg] at hW ⊢
  have HG := Lib.hid (hW.1)
  have C2 := Lib.hid (cbm.out.then hW.2)
  have X2 := Lib.hid (xbm.out.frame hW.2)
  clear hW
  have Hg := Lib.hid hg
  clear hg
  go_loopw [6, 11] (fun s6 s11 wr => ∃ j : Nat, j ≤ 4 ∧ s11 = .int .i64 (j : Int) ∧ s6 = .int .i64 0 ∧ Chg [] W2 wr ∧ firstE ([E0, E1, E2, E3].drop j) = E) (fun _ s11 _ => 4 - (intOf s11).toNat)
  case atStart => exact ⟨0, Nat.zero_le _, rfl, rfl, Chg.refl _ _, HE.out.symm⟩
  case round =>
    obtain ⟨j, hj, rfl, rfl, hck, hgo⟩ := hrel
    have CK := Lib.hid (hck)
    have X1 := Lib.hid (X2.out.frame CK.out)
    have hgr := CK.out.heap HG.out (by simp)
    have c0 := cell_of_heap hgr 0
    have c1 := cell_of_heap hgr 1
    have c2 := cell_of_heap hgr 2
    have c3 := cell_of_heap hgr 3
    simp at c0 c1 c2 c3
    clear hck hgr
    have hjj : j = 0 ∨ j = 1 ∨ j = 2 ∨ j = 3 ∨ j = 4 := by omega
    rcases hjj with rfl | rfl | rfl | rfl | rfl
    · rw [show [E0, E1, E2, E3].drop 0 = [E0, E1, E2, E3] from rfl] at hgo
      go_wp2_with ((with_reducible refine Lay.ldL Tryz.tImg m (X1.out.in) ?_ ?_); exact rfl; refine Hid.out ?_)
      refine Lib.hid ?_
      go_wp2_with fail
      refine (H0.out wr (C2.out.then CK.out)).mono ?_
      rintro e Wc ⟨rfl, hc⟩
      have CE := Lib.hid (CK.out.then hc)
      clear hc c0 c1 c2 c3
      by_cases h0 : E0 = 0
      · subst h0
        rw [firstE_zero] at hgo
        have Hgo := Lib.hid hgo
        clear hgo
        go_wp2
        go_roundw
        case rel => exact ⟨1, by omega, rfl, rfl, CE.out, Hgo.out⟩
        case measure => decide
      · have d0 : (E0 != 0) = true := by rw [bne_iff_ne]; exact h0
        rw [firstE_ne h0] at hgo
        have Hgo := Lib.hid hgo
        have H0 := Lib.hid h0
        clear hgo h0
        go_wp2
        rw [Exit.noGoto_ret]
        change bodyPost _ _ _ _ _ _
        go_ret
        exact ⟨congrArg (fun z => Ending.returned (.int .i64 z)) Hgo.out, C2.out.then CE.out⟩
    · rw [show [E0, E1, E2, E3].drop 1 = [E1, E2, E3] from rfl] at hgo
      go_wp2_with ((with_reducible refine Lay.ldL Tryz.tImg m (X1.out.in) ?_ ?_); exact rfl; refine Hid.out ?_)
      refine Lib.hid ?_
      go_wp2_with fail
      refine (H1.out wr (C2.out.then CK.out)).mono ?_
      rintro e Wc ⟨rfl, hc⟩
      have CE := Lib.hid (CK.out.then hc)
      clear hc c0 c1 c2 c3
      by_cases h0 : E1 = 0
      · subst h0
        rw [firstE_zero] at hgo
        have Hgo := Lib.hid hgo
        clear hgo
        go_wp2
        go_roundw
        case rel => exact ⟨2, by omega, rfl, rfl, CE.out, Hgo.out⟩
        case measure => decide
      · have d0 : (E1 != 0) = true := by rw [bne_iff_ne]; exact h0
        rw [firstE_ne h0] at hgo
        have Hgo := Lib.hid hgo
        have H0 := Lib.hid h0
        clear hgo h0
        go_wp2
        rw [Exit.noGoto_ret]
        change bodyPost _ _ _ _ _ _
        go_ret
        exact ⟨congrArg (fun z => Ending.returned (.int .i64 z)) Hgo.out, C2.out.then CE.out⟩
    · rw [show [E0, E1, E2, E3].drop 2 = [E2, E3] from rfl] at hgo
      go_wp2_with ((with_reducible refine Lay.ldL Tryz.tImg m (X1.out.in) ?_ ?_); exact rfl; refine Hid.out ?_)
      refine Lib.hid ?_
      go_wp2_with fail
      refine (H2.out wr (C2.out.then CK.out)).mono ?_
      rintro e Wc ⟨rfl, hc⟩
      have CE := Lib.hid (CK.out.then hc)
      clear hc c0 c1 c2 c3
      by_cases h0 : E2 = 0
      · subst h0
        rw [firstE_zero] at hgo
        have Hgo := Lib.hid hgo
        clear hgo
        go_wp2
        go_roundw
        case rel => exact ⟨3, by omega, rfl, rfl, CE.out, Hgo.out⟩
        case measure => decide
      · have d0 : (E2 != 0) = true := by rw [bne_iff_ne]; exact h0
        rw [firstE_ne h0] at hgo
        have Hgo := Lib.hid hgo
        have H0 := Lib.hid h0
        clear hgo h0
        go_wp2
        rw [Exit.noGoto_ret]
        change bodyPost _ _ _ _ _ _
        go_ret
        exact ⟨congrArg (fun z => Ending.returned (.int .i64 z)) Hgo.out, C2.out.then CE.out⟩
    · rw [show [E0, E1, E2, E3].drop 3 = [E3] from rfl] at hgo
      go_wp2_with ((with_reducible refine Lay.ldL Tryz.tImg m (X1.out.in) ?_ ?_); exact rfl; refine Hid.out ?_)
      refine Lib.hid ?_
      go_wp2_with fail
      refine (H3.out wr (C2.out.then CK.out)).mono ?_
      rintro e Wc ⟨rfl, hc⟩
      have CE := Lib.hid (CK.out.then hc)
      clear hc c0 c1 c2 c3
      by_cases h0 : E3 = 0
      · subst h0
        rw [firstE_zero] at hgo
        have Hgo := Lib.hid hgo
        clear hgo
        go_wp2
        go_roundw
        case rel => exact ⟨4, by omega, rfl, rfl, CE.out, Hgo.out⟩
        case measure => decide
      · have d0 : (E3 != 0) = true := by rw [bne_iff_ne]; exact h0
        rw [firstE_ne h0] at hgo
        have Hgo := Lib.hid hgo
        have H0 := Lib.hid h0
        clear hgo h0
        go_wp2
        rw [Exit.noGoto_ret]
        change bodyPost _ _ _ _ _ _
        go_ret
        exact ⟨congrArg (fun z => Ending.returned (.int .i64 z)) Hgo.out, C2.out.then CE.out⟩
    · rw [show [E0, E1, E2, E3].drop 4 = [] from rfl, show firstE [] = 0 from rfl] at hgo
      have Hgo := Lib.hid hgo
      clear hgo
      clear c0 c1 c2 c3
      go_wp2
      try rw [Exit.noGoto_ret]
      try change bodyPost _ _ _ _ _ _
      go_ret
      exact ⟨congrArg (fun z => Ending.returned (.int .i64 z)) Hgo.out, C2.out.then CK.out⟩
end Go.Proofs.YtgjlgamlmmjdpaaGreatDoor
