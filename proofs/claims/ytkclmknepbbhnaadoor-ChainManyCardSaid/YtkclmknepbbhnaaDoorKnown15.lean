/- The chapter's row: clevislaw15.known. -/
import Derived.Test.YtkclmknepbbhnaaDoorCMk
import Derived.Test.YtkclmknepbbhnaaDoorPlain15
import Derived.Test.YtkclmknepbbhnaaDoorStr
namespace Go.Proofs.YtkclmknepbbhnaaDoor
open Go.RowKit
set_option maxRecDepth 100000

def imps15 : List Imp := [⟨0, false, sA, 0⟩, ⟨-2, true, sB, 0⟩]
def known15L : List UInt8 := mkB 1 imps15
theorem known15_len : known15L.length = 61 := by decide +kernel
theorem known15_a : ((known15L.drop 52).take 4).toArray = #[254, 7, 0, 0] := by decide +kernel
theorem known15_b : ((known15L.drop 56).take 5).toArray = #[0, 97, 0, 98, 0] := by decide +kernel
theorem seg_n {w : World} {s : SlV} {l : List Seg} (h : segL.Rd w s.v l) : s.n = l.length := by
  obtain ⟨a, c, e, _, _⟩ := h.shape
  cases s
  cases e
  rfl
theorem dep_n {w : World} {s : SlV} {l : List Dep} (h : depL.Rd w s.v l) : s.n = l.length := by
  obtain ⟨a, c, e, _, _⟩ := h.shape
  cases s
  cases e
  rfl
set_option maxHeartbeats 1000000 in
theorem known15 (w : World) : Calls Tryd.prog 5 #[] w fun e w' => e = .returned (.bool true) ∧ Chg [] w w' := by
  have HPL : Hid (∀ w : World, Calls Tryd.prog 6 #[.int .i64 0] w fun e w' => ∃ sg dp, e = .returned (imgL.val (plainImg sg dp)) ∧ segL.Rd w' sg.v segs15 ∧ depL.Rd w' dp.v (plainDeps 0) ∧ Chg [] w w') := Lib.hid (fun w => plain15_any 0 (by decide) w)
  have HMK : Hid (∀ (c : Chn) (m : Img) (W : World), c.starts.n = 0 → impL.Rd W c.imps.v imps15 → m.segs.n = 3 → m.deps.n = 0 → Calls Tryd.prog 7 #[chnL.val c, imgL.val m, .int .i64 1] W fun e w' => (∃ v, e = .returned (.tuple #[v, .int .i64 0]) ∧ BB w' W.heap.size v known15L) ∧ Chg [] W w') := by
    refine Lib.hid ?_
    intro c m W h1 h2 h3 h4
    have := cmake_any c h1 imps15 (by intro x hx; simp [imps15] at hx; rcases hx with rfl | rfl <;> decide) m h3 1 (by decide) W h2
    rw [h4, show okM 0 1 imps15 = true from by decide +kernel] at this
    exact this
  go_enter Tryd.func5, Tryd.ntmps5
  go_upto_region 2 with fail
  refine Lay.with_world (fun W => impL.Rd W (.slice (some ⟨w.heap.size, 0, none⟩) 2 2) imps15 ∧ chnL.Box W (w.heap.size + 1) ⟨⟨none, 0, 0⟩, ⟨some ⟨w.heap.size, 0, none⟩, 2, 2⟩⟩ ∧ Chg [] w W) ⟨?_, ?_, ?_⟩ (fun W hW => ?_)
  · exact (Lay.Rd.of_heap (heap_alloc_eq _ _) rfl rfl (show imps15.length ≤ maxLen by decide)).frame ((Chg.refl _ _).alloc _)
  · exact Chn.boxAt _ ⟨⟨none, 0, 0⟩, ⟨some ⟨w.heap.size, 0, none⟩, 2, 2⟩⟩ 38 (by simp)
  · exact ((Chg.refl _ _).alloc _).alloc _
  obtain ⟨rl, bx, C⟩ := hW
  have Rl := Lib.hid rl
  have Bx := Lib.hid bx
  have C0 := Lib.hid C
  clear rl bx C
  have x0 := Chn.c_starts Bx.out
  have x1 := Chn.c_imps Bx.out
  refine wp_region_noPanic ?_
  refine wp_region_held_drew (S := fun w' => Chg [] W w') (by kernel_rfl) ((Chg.refl _ _).drew) (fun hHeld => ?_)
  refine take_read (i := 0) (v := ?_) (by simp only [List.getElem?_toArray, List.getElem?_cons_zero]; rfl) (by kernel_rfl) (by kernel_rfl) (by kernel_rfl) (fun _ _ _ h => h) hHeld ?_ ?_
  rotate_left
  · intro w hSw
    have x0 := hSw.cell x0 (by simp); have x1 := hSw.cell x1 (by simp)
    go_simp
    try with_reducible rfl
  try simp only [Act.put, List.setIfInBounds_toArray, List.set_cons_zero, List.set_cons_succ]
  refine wpAnyH_ready (rs := [1]) (by kernel_rfl) (by simp) ?_
  refine AllReadyH.cons rfl (fun K hK => ?_) AllReadyH.nil
  go_simp
  refine (HPL.out _).mono ?_
  rintro e W2 ⟨sg, dp, rfl, hs, hd, hc⟩
  have H2 : Hid (Chg [] W W2) := Lib.hid (hHeld.then hc)
  have n1 := seg_n hs
  have n2 := dep_n hd
  clear hs hd hc
  refine hK.out _ _ H2.out (fun hHeld2 => ?_)
  clear hK hHeld K
  have hHeld := hHeld2
  clear hHeld2
  try (unfold Act.put; simp only [List.setIfInBounds_toArray, List.set_cons_zero, List.set_cons_succ])
  refine wpAnyH_ready (rs := [2]) (by kernel_rfl) (by simp) ?_
  refine AllReadyH.cons rfl (fun K hK => ?_) AllReadyH.nil
  go_simp
  refine (HMK.out ⟨⟨none, 0, 0⟩, ⟨some ⟨w.heap.size, 0, none⟩, 2, 2⟩⟩ (plainImg sg dp) _ rfl (Rl.out.frame H2.out) n1 n2).mono ?_
  rintro e W3 ⟨⟨v, rfl, hb⟩, hc⟩
  have H3 : Hid (Chg [] W W3) := Lib.hid (H2.out.then hc)
  obtain ⟨g, cap, rfl, _, hg, hcap, hcm, _, _, _⟩ := hb.at (by rw [known15_len]; decide)
  have hrd := hb.rd
  rw [known15_len] at hrd hcap ⊢
  clear hc hb n1 n2
  refine hK.out _ _ H3.out (fun hHeld2 => ?_)
  clear hK hHeld K
  have hHeld := hHeld2
  clear hHeld2
  try (unfold Act.put; simp only [List.setIfInBounds_toArray, List.set_cons_zero, List.set_cons_succ])
  refine take_read (i := 3) (v := ?_) (by simp only [List.getElem?_toArray, List.getElem?_cons_succ, List.getElem?_cons_zero]; rfl) (by kernel_rfl) (by kernel_rfl) (by kernel_rfl) (fun _ _ _ h => h) hHeld ?_ ?_
  rotate_left
  · intro w hSw
    go_simp
    try with_reducible rfl
  try simp only [Act.put, List.setIfInBounds_toArray, List.set_cons_zero, List.set_cons_succ]
  refine take_read (i := 4) (v := ?_) (by simp only [List.getElem?_toArray, List.getElem?_cons_succ, List.getElem?_cons_zero]; rfl) (by kernel_rfl) (by kernel_rfl) (by kernel_rfl) (fun _ _ _ h => h) hHeld ?_ ?_
  rotate_left
  · intro w hSw
    go_simp
    try with_reducible rfl
  try simp only [Act.put, List.setIfInBounds_toArray, List.set_cons_zero, List.set_cons_succ]
  refine take_read (i := 5) (v := ?_) (by simp only [List.getElem?_toArray, List.getElem?_cons_succ, List.getElem?_cons_zero]; rfl) (by kernel_rfl) (by kernel_rfl) (by kernel_rfl) (fun _ _ _ h => h) hHeld ?_ ?_
  rotate_left
  · intro w hSw
    go_simp
    try with_reducible rfl
  try simp only [Act.put, List.setIfInBounds_toArray, List.set_cons_zero, List.set_cons_succ]
  refine take_read (i := 6) (v := ?_) (by simp only [List.getElem?_toArray, List.getElem?_cons_succ, List.getElem?_cons_zero]; rfl) (by kernel_rfl) (by kernel_rfl) (by kernel_rfl) (fun _ _ _ h => h) hHeld ?_ ?_
  rotate_left
  · intro w hSw
    go_simp
    try with_reducible rfl
  try simp only [Act.put, List.setIfInBounds_toArray, List.set_cons_zero, List.set_cons_succ]
  refine take_read (i := 7) (v := ?_) (by simp only [List.getElem?_toArray, List.getElem?_cons_succ, List.getElem?_cons_zero]; rfl) (by kernel_rfl) (by kernel_rfl) (by kernel_rfl) (fun _ _ _ h => h) hHeld ?_ ?_
  rotate_left
  · intro w hSw
    go_simp
    try with_reducible rfl
  try simp only [Act.put, List.setIfInBounds_toArray, List.set_cons_zero, List.set_cons_succ]
  refine wpAnyH_done (by kernel_rfl) ?_ _
  refine NoPanic.normal ?_
  have r1 := Rd_sub hrd 52 4 (cap - 52) (by rw [known15_len]; decide) (by omega) (by unfold maxLen; omega)
  have r2 := Rd_sub hrd 56 5 (cap - 56) (by rw [known15_len]; decide) (by omega) (by unfold maxLen; omega)
  have s1 := run_strB r1
  have s2 := run_strB r2
  rw [known15_a] at s1
  rw [known15_b] at s2
  rw [Nat.zero_add] at s1 s2
  have Hrd := Lib.hid hrd
  have R1 := Lib.hid r1
  have R2 := Lib.hid r2
  clear hrd r1 r2
  go_wp2
  go_ret
  exact ⟨rfl, C0.out.then H3.out⟩
end Go.Proofs.YtkclmknepbbhnaaDoor
