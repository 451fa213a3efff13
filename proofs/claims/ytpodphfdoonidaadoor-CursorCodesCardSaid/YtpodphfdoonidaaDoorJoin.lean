/- errors.Join of two errors; strconv.Itoa by its table. -/
import Derived.Test.YtpodphfdoonidaaDoorErrs
import Derived.Test.YtpodphfdoonidaaDoorBytes
namespace Go.Proofs.YtpodphfdoonidaaDoor
open Go.RowKit
set_option maxRecDepth 100000

theorem Tryd.infoErr : (Tryd.prog.info? 67).map (fun i => (i.zero, i.size, i.bytes)) = some (some .nilIface, 1, 16) := by kernel_rfl
theorem one_iface (T : TypeId) (v : Value) : ∀ u ∈ [Value.iface T v], u.oneCell' = true := by
  intro u hu; simp at hu; subst hu; rfl
theorem own_ne {w : World} {base n b : Nat} {E T : TypeId} {v : Value} {xs : List Value} {c : Array Value} {fz : Nat × Nat} (h : w.ownsRow base E 1 v n xs) (hb : w.heap[b]? = some (.cells c T fz)) (hT : E ≠ T) : ∀ k, v.ownBlock = some k → k ≠ b := by
  intro k hk hm
  subst hm
  rcases h.2 with ⟨rfl, _⟩ | ⟨g, cap, cur, rfl, _, hg, _⟩
  · cases hk
  · cases hk
    rw [hg] at hb
    simp only [Option.some.injEq, Obj.cells.injEq] at hb
    exact hT hb.2.1
/-- What stands behind an append to a row of errors and the store of it into the one cell at j. -/
structure JW (w : World) (g j : Nat) (x1 x2 : Value) (W : World) (v : Value) (xs : List Value) : Prop where
  own : W.ownsRow w.heap.size 67 1 v xs.length xs
  jb : W.heap[j]? = some (.cells #[v] 104 (0, 0))
  g0 : W.cell? ⟨g, 0, none⟩ = some x1
  g1 : W.cell? ⟨g, 1, none⟩ = some x2
  chg : Chg [] w W
theorem JW.step {w : World} {g j : Nat} {x1 x2 : Value} {W : World} {v : Value} {xs : List Value} (h : JW w g j x1 x2 W v xs) (hg : g < w.heap.size) (hj : w.heap.size ≤ j) (y : Value) (T : TypeId) {va : Value} {wa : World}
    (hoa : wa.ownsRow w.heap.size 67 1 va (xs.length + 1) (xs ++ [y])) (hga : (W.alloc (.cells #[y] T)).grownBy wa v.ownBlock) :
    (∃ c, wa.heap[j]? = some (.cells #[c] 104 (0, 0))) ∧ JW w g j x1 x2 (wa.setCell ⟨j, 0, none⟩ va) va (xs ++ [y]) := by
  have hlt := World.ownsRow.lt h.own
  have hne := own_ne h.own h.jb (by decide)
  have hc : Chg v.ownBlock.toList W wa := (((Chg.refl [] W).alloc _).add).same (Chg.of_grown hga)
  have hS : ∀ i ∈ v.ownBlock.toList, w.heap.size ≤ i ∧ i ≠ j := fun i hi => ⟨(hlt i (by simpa using hi)).1, hne i (by simpa using hi)⟩
  have hgS : g ∉ v.ownBlock.toList := fun hm => by have := (hS g hm).1; omega
  have hjb : wa.heap[j]? = some (.cells #[v] 104 (0, 0)) := hc.heap h.jb (fun hm => (hS j hm).2 rfl)
  refine ⟨⟨_, hjb⟩, ?_, ?_, ?_, ?_, ?_⟩
  · have := owned_frame hoa (S := [j]) ((Chg.refl _ _).setCell ⟨j, 0, none⟩ va (.inl (by simp))) (fun b hb hm => by rw [List.mem_singleton] at hm; exact own_ne hoa hjb (by decide) b hb hm)
    simpa using this
  · rw [heap_setCell hjb]; rfl
  · rw [World.cell?_setCell_other _ _ _ _ (by intro e; cases e; omega)]; exact hc.cell h.g0 hgS
  · rw [World.cell?_setCell_other _ _ _ _ (by intro e; cases e)]; exact hc.cell h.g1 hgS
  · exact (h.chg.trans hc (fun i hm hi => by have := (hS i hm).1; omega)).setCell _ _ (.inr hj)

set_option maxHeartbeats 1000000 in
theorem Join_two (g : Nat) (T1 T2 : TypeId) (v1 v2 : Value) (w : World) (h0 : w.cell? ⟨g, 0, none⟩ = some (.iface T1 v1)) (h1 : w.cell? ⟨g, 1, none⟩ = some (.iface T2 v2)) :
    Calls Tryd.prog 45 #[.slice (some ⟨g, 0, none⟩) 2 2] w fun e w' => ∃ j g2 c, e = .returned (.iface 102 (.pointer (some ⟨j, 0, none⟩))) ∧
      w'.heap[j]? = some (.cells #[.slice (some ⟨g2, 0, none⟩) 2 c] 104 (0, 0)) ∧ w'.cell? ⟨g2, 0, none⟩ = some (.iface T1 v1) ∧ w'.cell? ⟨g2, 1, none⟩ = some (.iface T2 v2) ∧ Chg [] w w' := by
  have hmk : ∀ W : World, (Instr.makeSlice 101 (.int .i64 0) (.int .i64 2)).run Tryd.prog W = .ok (.slice (some ⟨W.heap.size, 0, none⟩) 0 2) (W.alloc (.cells #[.nilIface, .nilIface] 67)) := fun _ => by kernel_rfl
  obtain ⟨i0, hi, hz0, hz1, hz2⟩ := info_parts Tryd.infoErr
  have hgl : g < w.heap.size := World.block_lt_of_cell? w _ h0
  go_enter Tryd.func45, Tryd.ntmps45
  go_wp2_with fail
  refine wp_loop_rounds 3 ?_
  repeat (rw [rounds_succ]; go_wp2_with fail)
  obtain ⟨W1, hW1⟩ : ∃ W1, W1 = (w.alloc (.cells #[.nilIface, .nilIface] 67)).alloc (.cells #[.slice (some ⟨w.heap.size, 0, none⟩) 0 2] 104) := ⟨_, rfl⟩
  have hJ : JW w g (w.heap.size + 1) (.iface T1 v1) (.iface T2 v2) W1 (.slice (some ⟨w.heap.size, 0, none⟩) 0 2) [] := by
    rw [hW1]
    refine ⟨(World.ownsRow_made w #[.nilIface, .nilIface] 2 (Nat.le_refl _) (by unfold maxLen; omega) rfl).alloc _, ?_, ?_, ?_, ((Chg.refl _ _).alloc _).alloc _⟩
    · rw [show w.heap.size + 1 = (w.alloc (.cells #[.nilIface, .nilIface] 67)).heap.size from by simp]; exact heap_alloc_eq _ _
    · exact (((Chg.refl [] w).alloc _).alloc _).cell h0 (by simp)
    · exact (((Chg.refl [] w).alloc _).alloc _).cell h1 (by simp)
  rw [← hW1]
  have hsz : w.heap.size + 1 < W1.heap.size := lt_of_heap hJ.jb
  have HJ := Lib.hid (hJ)
  have c0 := HJ.out.g0
  have cj := cell_of_heap HJ.out.jb 0
  simp only [List.getElem?_toArray, List.getElem?_cons_zero] at cj
  clear hJ hW1 h0 h1 hmk
  refine wp_loop_rounds 3 ?_
  rw [rounds_succ]
  have hsrc := cell_one_new' W1 (.iface T1 v1) 67
  go_wp2_with (at_builtin; refine wpList_append_own _ rfl _ _ 101 rfl w.heap.size 67 i0 .nilIface 1 16 Tryd.underlying101 hi hz0 hz1 hz2 rfl (by decide) _ 0 [] rfl (HJ.out.own.alloc _) ⟨W1.heap.size, 0, none⟩ 1 1 [.iface T1 v1] rfl rfl hsrc (one_iface _ _) (by unfold maxLen; omega) (by omega) (by simp; omega) ?_; intro va wa hoa hga _; refine Hid.out ?_)
  refine Lib.hid ?_
  simp only [Nat.zero_add, List.nil_append] at hoa
  obtain ⟨ga, ca, rfl, hnc, hcm, hbg, hgl2, _⟩ := owned_at hoa (by decide)
  obtain ⟨⟨c1, hj1⟩, hJ2⟩ := HJ.out.step hgl (by omega) (.iface T1 v1) _ hoa hga
  have ck := cell_of_heap hj1 0
  have fk := frozen_of_heap hj1 0
  simp only [List.getElem?_toArray, List.getElem?_cons_zero] at ck
  have hsz2 : w.heap.size + 1 < wa.heap.size := lt_of_heap hj1
  clear hoa hga hj1 hnc hcm hbg HJ c0 cj hsrc
  have HJ := Lib.hid (hJ2)
  go_wp2_with fail
  obtain ⟨W2, hW2⟩ : ∃ W2, W2 = wa.setCell ⟨w.heap.size + 1, 0, none⟩ (.slice (some ⟨ga, 0, none⟩) 1 ca) := ⟨_, rfl⟩
  rw [← hW2] at HJ ⊢
  have c0 := HJ.out.g1
  have cj := cell_of_heap HJ.out.jb 0
  simp only [List.getElem?_toArray, List.getElem?_cons_zero] at cj
  have hsrc := cell_one_new' W2 (.iface T2 v2) 67
  have hsz3 : w.heap.size + 1 < W2.heap.size := lt_of_heap HJ.out.jb
  have hgl3 : ga < W2.heap.size := (World.ownsRow.lt HJ.out.own ga rfl).2
  clear hW2 hJ2 ck fk hsz2 hgl2
  rw [rounds_succ]
  go_wp2_with (at_builtin; refine wpList_append_own _ rfl _ _ 101 rfl w.heap.size 67 i0 .nilIface 1 16 Tryd.underlying101 hi hz0 hz1 hz2 rfl (by decide) _ 1 [.iface T1 v1] rfl (HJ.out.own.alloc _) ⟨W2.heap.size, 0, none⟩ 1 1 [.iface T2 v2] rfl rfl hsrc (one_iface _ _) (by unfold maxLen; omega) (by omega) (by simp; omega) ?_; intro va wb hoa hga _; refine Hid.out ?_)
  refine Lib.hid ?_
  simp only [List.cons_append, List.nil_append, Nat.reduceAdd] at hoa
  obtain ⟨gb, cb, rfl, hnc, hcm, hbg, hgl2, _⟩ := owned_at hoa (by decide)
  obtain ⟨⟨c1, hj1⟩, hJ2⟩ := HJ.out.step hgl (by omega) (.iface T2 v2) _ hoa hga
  have ck := cell_of_heap hj1 0
  have fk := frozen_of_heap hj1 0
  simp only [List.getElem?_toArray, List.getElem?_cons_zero] at ck
  have hsz2 : w.heap.size + 1 < wb.heap.size := lt_of_heap hj1
  clear hoa hga hj1 hnc hcm hbg HJ c0 cj hsrc
  have HJ := Lib.hid (hJ2)
  clear hJ2
  go_wp2_with fail
  rw [rounds_succ]
  go_wp2
  go_ret
  have hc := HJ.out.own.cells (g := gb) rfl
  exact ⟨_, gb, cb, rfl, HJ.out.jb, by simpa [Addr.add] using hc 0 _ rfl, by simpa [Addr.add] using hc 1 _ rfl, HJ.out.chg⟩
end Go.Proofs.YtpodphfdoonidaaDoor
