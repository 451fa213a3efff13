/- Lemmas, laid together: part 8 of 41. Conditions: none but each lemma's own. -/
import Derived.Test.YtkomocgodljecaaGreatDoorK7
/- A row of fixups, sorted (by the library's contract). -/
namespace Go.Proofs.YtkomocgodljecaaGreatDoor
open Go.RowKit Go.Sort
set_option maxRecDepth 100000

instance : Inhabited Fx := ⟨Fx.zero⟩
theorem swoF : SWO (ltOf ordF) where
  irrefl x := by unfold ltOf; rw [ord_self]; rfl
  trans x y z h1 h2 := by
    unfold ltOf at *
    rw [decide_eq_true_eq] at *
    exact ord_lt_trans h1 h2
  ntrans x y z h1 h2 := by
    unfold ltOf at *
    rw [decide_eq_false_iff_not] at *
    intro h3
    have a1 := ord_anti x y
    have a2 := ord_anti y z
    have a3 := ord_anti x z
    have := ordF_is.trans z y x (by omega) (by omega)
    omega
theorem sort_buf {w : World} {base g n cap : Nat} {ls : List Fx} (h : FxBuf w base (.slice (some ⟨g, 0, none⟩) n cap) ls) (m : Nat) (d : Array Fx) (os : Array Obj) (hd : d.size = ls.length) :
    FxBuf (sortWorldK Fx.cells 7 w g 0 m d os) base (.slice (some ⟨g, 0, none⟩) n cap) d.toList ∧ Chg [g] w (sortWorldK Fx.cells 7 w g 0 m d os) := by
  obtain ⟨hl, hx⟩ := h
  rcases hx with ⟨h1, _⟩ | ⟨g', cap', cur, hv', hb, hg, hnc, hcm, hcs, htake⟩
  · cases h1
  · cases hv'
    have hgl := lt_of_heap hg
    have hdl : d.toList.length = ls.length := by simpa using hd
    have hheap : (sortWorldK Fx.cells 7 w g 0 m d os).heap = w.heap.modify g (onCells (putCells id 0 (flatK Fx.cells 7 d))) ++ os := rfl
    refine ⟨⟨by rw [fxV_len], .inr ⟨g, cap, putCells id 0 (flatK Fx.cells 7 d) cur, by rw [hdl], hb, ?_, by rw [hdl]; exact hnc, hcm, ?_, ?_⟩⟩, ⟨rfl, rfl, rfl, ?_, fun k hk hn => ?_⟩⟩
    · rw [hheap, Array.getElem?_append_left (by rw [Array.size_modify]; exact hgl), Array.getElem?_modify, if_pos rfl, hg]
      rfl
    · simp [putCells, hcs]
    · apply List.ext_getElem?
      intro t
      rw [Array.length_toList, List.getElem?_take]
      by_cases ht : t < d.size * 7
      · rw [if_pos ht]
        have h2 := fxV_get d.toList (t / 7) (t % 7) (by rw [Array.length_toList]; omega) (Nat.mod_lt _ (by decide))
        rw [show t / 7 * 7 + t % 7 = t by omega] at h2
        rw [h2, Array.getElem?_toList]
        have htc : t < cur.size := by rw [hcs]; have : d.size * 7 ≤ cap * 7 := Nat.mul_le_mul_right _ (by omega); omega
        have h3 : (putCells id 0 (flatK Fx.cells 7 d) cur)[t]? = some ((flatK Fx.cells 7 d)[t]!) := by
          unfold putCells
          rw [Array.getElem?_mapIdx, Array.getElem?_eq_getElem htc]
          simp [ht]
        rw [h3, get_flatK _ _ _ _ ht]
        have h4 : d.toList.getD (t / 7) Fx.zero = d[t / 7]! := by
          have : t / 7 < d.size := by omega
          simp [List.getD_eq_getElem?_getD, this]
        rw [h4]
        have h5 : t % 7 < (Fx.cells d[t / 7]!).length := Nat.mod_lt _ (by decide)
        rw [List.getElem?_eq_getElem h5]
        exact congrArg some (getElem!_pos (Fx.cells d[t / 7]!) (t % 7) h5)
      · rw [if_neg ht, List.getElem?_eq_none (by rw [fxV_len, Array.length_toList]; omega)]
    · rw [hheap, Array.size_append, Array.size_modify]; omega
    · rw [hheap, Array.getElem?_append_left (by rw [Array.size_modify]; exact hk), Array.getElem?_modify, if_neg (by intro e; exact hn (by rw [e]; simp))]
theorem holds_buf {w : World} {base g n cap : Nat} {ls : List Fx} (h : FxBuf w base (.slice (some ⟨g, 0, none⟩) n cap) ls) : HoldsK Fx.cells 7 w g 0 ls.toArray := by
  obtain ⟨hl, hx⟩ := h
  rcases hx with ⟨h1, _⟩ | ⟨g', cap', cur, hv', hb, hg, hnc, hcm, hcs, htake⟩
  · cases h1
  · cases hv'
    intro t ht
    rw [size_flatK, List.size_toArray] at ht
    refine ⟨?_, frozen_of_heap hg _⟩
    have h2 := fxV_get ls (t / 7) (t % 7) (by omega) (Nat.mod_lt _ (by decide))
    rw [show t / 7 * 7 + t % 7 = t by omega] at h2
    rw [Nat.zero_add, cell_of_heap hg, get_flatK _ _ _ _ (by rw [List.size_toArray]; exact ht)]
    have h3 : cur[t]? = (fxV ls)[t]? := by
      rw [← htake, List.getElem?_take, if_pos ht]
      simp
    have h4 : ls.getD (t / 7) Fx.zero = ls.toArray[t / 7]! := by
      have : t / 7 < ls.length := by omega
      simp [List.getD_eq_getElem?_getD, this]
    have h5 : t % 7 < (Fx.cells ls.toArray[t / 7]!).length := Nat.mod_lt _ (by decide)
    rw [h3, h2, h4, List.getElem?_eq_getElem h5]
    exact congrArg some (getElem!_pos (Fx.cells ls.toArray[t / 7]!) (t % 7) h5).symm
theorem cmp_lays (blk off size : Nat) (w : World) : CmpLays Tryz.prog 36 #[] Fx.cells 7 ordF blk off size w :=
  fun _ _ _ _ x y => Order_g x y _

theorem Sort_any {w : World} {base g n cap : Nat} {ls : List Fx} (h : FxBuf w base (.slice (some ⟨g, 0, none⟩) n cap) ls) (hl : ls.length ≤ 1000000) :
    Calls Tryz.prog 64 #[.slice (some ⟨g, 0, none⟩) n cap, .func (.func 36) #[] #[]] w fun e w' =>
      e = .returned (.tuple #[]) ∧ ∃ ms : List Fx, FxBuf w' base (.slice (some ⟨g, 0, none⟩) n cap) ms ∧ ms.length = ls.length ∧ (∀ z, z ∈ ms ↔ z ∈ ls) ∧ SLfx ms ∧ Chg [g] w w' := by
  have hn : n = ls.length := by
    obtain ⟨_, hx⟩ := h
    rcases hx with ⟨h1, _⟩ | ⟨_, _, _, hv', _⟩
    · cases h1
    · cases hv'; rfl
  have hgl : g < w.heap.size := by
    obtain ⟨_, hx⟩ := h
    rcases hx with ⟨h1, _⟩ | ⟨_, _, _, hv', _, hg, _⟩
    · cases h1
    · cases hv'; exact lt_of_heap hg
  have hc := AnyQ.slices_SortFunc Tryz.sortFx 7 Tryz.isAgg53 Tryz.sizeOf53 Fx.cells (fun _ => rfl) (fun x v hv => by simp only [Fx.cells, List.mem_cons, List.not_mem_nil, or_false] at hv; rcases hv with rfl | rfl | rfl | rfl | rfl | rfl | rfl <;> rfl) ordF swoF 36 #[] g 0 cap ls.toArray w
    (enters_of Tryz.func36 (by kernel_rfl) rfl) (cmp_lays _ _ _ _) (holds_buf h) hgl (by rw [List.size_toArray]; omega)
  rw [hn]
  refine Calls.mono (show Calls Tryz.prog 64 #[.slice (some ⟨g, 0, none⟩) ls.length cap, .func (.func 36) #[] #[]] w _ from hc) ?_
  rintro e w' ⟨rfl, d', m, os, ⟨hs, _, hp⟩, hsd, rfl⟩
  rw [hn] at h
  have e0 : ls.toArray.size = ls.length := by simp
  rw [e0] at hs hp hsd
  have hdl : d'.toList.length = ls.length := by simpa using hs
  have hb := sort_buf h m d' os hs
  have hx1 : d'.extract 0 ls.length = d' := by rw [← hs]; simp
  have hx2 : ls.toArray.extract 0 ls.length = ls.toArray := by simp
  rw [hx1, hx2] at hp
  refine ⟨rfl, d'.toList, hb.1, hdl, fun z => hp.mem_iff, ?_, hb.2⟩
  unfold SLfx
  rw [List.pairwise_iff_getElem]
  intro i j h1 h2 hij
  have h1' : i < d'.size := by rw [hs, ← hdl]; exact h1
  have h2' : j < d'.size := by rw [hs, ← hdl]; exact h2
  have := hsd i j (Nat.zero_le _) hij (by omega)
  unfold ltOf at this
  rw [decide_eq_false_iff_not, getElem!_pos d' j h2', getElem!_pos d' i h1'] at this
  simpa using this
end Go.Proofs.YtkomocgodljecaaGreatDoor
/- append of a row of fixups; slices.Clone of it. -/
namespace Go.Proofs.YtkomocgodljecaaGreatDoor
open Go.RowKit
set_option maxRecDepth 100000

theorem fx_one (ls : List Fx) : ∀ u ∈ fxV ls, u.oneCell' = true := by
  intro u hu
  obtain ⟨f, _, hf⟩ := List.mem_flatMap.1 hu
  simp only [Fx.cells, List.mem_cons, List.not_mem_nil, or_false] at hf
  rcases hf with rfl | rfl | rfl | rfl | rfl | rfl | rfl <;> rfl
theorem FxRd.cells {w : World} {ad : Addr} {n cap : Nat} {ls : List Fx} (h : FxRd w (.slice (some ad) n cap) ls) : n = ls.length ∧ ∀ j u, (fxV ls)[j]? = some u → w.cell? (ad.add j) = some u := by
  obtain ⟨a', n', c', he, hn, _, _, hx⟩ := h
  cases he
  refine ⟨hn, fun j u hu => ?_⟩
  have hj : j < ls.length * 7 := by rw [← fxV_len]; exact (List.getElem?_eq_some_iff.1 hu).1
  obtain ⟨b, off, he, _, hc⟩ := hx (by rintro rfl; simp at hj)
  cases he
  have h1 := hc (j / 7) (by omega) (j % 7) (Nat.mod_lt _ (by decide))
  have h2 := fxV_get ls (j / 7) (j % 7) (by omega) (Nat.mod_lt _ (by decide))
  rw [show j / 7 * 7 + j % 7 = j by omega, hu] at h2
  rw [← h2, Nat.add_assoc, show j / 7 * 7 + j % 7 = j by omega] at h1
  rw [Addr_add]
  exact h1
theorem app_fxs {w : World} {ops : Array Oper} {rest : List Oper} {o : Oper} {a : Act} {Q : Exit → Act → World → Prop} (hgd : o.guard = none) (s x : Operand)
    (ho : o.op = .call { callee := .builtin .append, args := #[s, x], argTypes := #[31, 31] }) (base : Nat) (v : Value) (ls : List Fx) (hs : a.eval s = v) (hown : FxBuf w base v ls)
    (xv : Value) (hx : a.eval x = xv) (ms : List Fx) (hrd : FxRd w xv ms) (hle : ls.length + ms.length ≤ 1000000) (hbase : base ≤ w.heap.size)
    (h : ∀ v' w', FxBuf w' base v' (ls ++ ms) → w.grownBy w' v.ownBlock → wpList Tryz.prog ops Q rest (a.put o.dst v') w') : wpList Tryz.prog ops Q (o :: rest) a w := by
  obtain ⟨i0, hi, hz0, hz1, hz2⟩ := info_parts Tryz.infoFx
  obtain ⟨ax, m, c, rfl, hm, _, _, hcl⟩ := id hrd
  cases ax with
  | none =>
    have hl : ms = [] := by
      cases ms with
      | nil => rfl
      | cons b l => obtain ⟨_, _, h, _⟩ := hcl (by simp); cases h
    subst hl
    simp only [List.length_nil] at hm
    subst hm
    refine wpList_plain hgd fun K hK => ?_
    have hrun : (Builtin.append_ #[31, 31] o.type #[v, .slice none 0 c]).run Tryz.prog w = .ok v w := by
      rcases hown.2 with ⟨rfl, _⟩ | ⟨g, cap, cur, rfl, _, _, hnc, _⟩
      · simp [Builtin.append_, run_underlying Tryz.uFxsF, sizeOf, typeInfo, hi, Builtin.lenOf, Builtin.firstCells]
      · simp [Builtin.append_, run_underlying Tryz.uFxsF, sizeOf, typeInfo, hi, Builtin.lenOf, Builtin.firstCells, hnc, storeCells]
    unfold Oper.wp
    simp [execOp, ho, resolve, invoke, builtin, hs, hx, hrun, Result.andThen]
    have := h v w (by simpa using hown) ⟨rfl, rfl, rfl, Nat.le_refl _, fun _ _ _ => rfl⟩
    exact hK _ _ this
  | some ad =>
    obtain ⟨hl, hc⟩ := FxRd.cells hrd
    subst hl
    refine wpList_append_own _ hgd s x 31 ho base 53 i0 _ 7 64 Tryz.uFxsF hi hz0 hz1 hz2 rfl (by decide) v ls.length (fxV ls) hs hown ad ms.length c (fxV ms) hx (fxV_len ms) hc (fx_one _) (by unfold maxLen; omega) (by omega) hbase ?_
    intro v' w' h1 h2 _
    refine h v' w' ?_ h2
    unfold FxBuf
    rw [show fxV (ls ++ ms) = fxV ls ++ fxV ms from by simp [fxV], List.length_append]
    exact h1

set_option maxHeartbeats 1000000 in
theorem Clone_anyFx (ls : List Fx) (v : Value) (w : World) (rd : FxRd w v ls) (hlen : ls.length ≤ 100000) :
    Calls Tryz.prog 63 #[v] w fun e w' => ∃ v', e = .returned v' ∧ FxBuf w' w.heap.size v' ls ∧ Chg [] w w' := by
  obtain ⟨a, n, cap, rfl, rfl, hc1, hc2, hx⟩ := id rd
  have HR := Lib.hid rd
  clear rd
  have q1 : ∀ W : World, (binOp .eql 31 (.slice a ls.length cap) (.slice none 0 0)).run Tryz.prog W = .ok (.bool a.isNone) W := fun W => Lib.run_eql_slice_nil W _ _ a ls.length cap 0 0 Tryz.uFxsF
  cases a with
  | none =>
    have hl : ls = [] := by
      cases ls with
      | nil => rfl
      | cons b l => obtain ⟨_, _, h, _⟩ := hx (by simp); cases h
    subst hl
    clear hx
    simp only [Option.isNone_none, List.length_nil] at q1
    go_enter Tryz.func63, Tryz.ntmps63
    go_wp2
    go_ret
    exact ⟨_, rfl, FxBuf.nil _ _, Chg.refl _ _⟩
  | some ad =>
    simp only [Option.isNone_some] at q1
    have Hx := Lib.hid hx
    clear hx
    obtain ⟨w1, hw1⟩ : ∃ x, x = w.alloc (.cells #[] 53) := ⟨_, rfl⟩
    have B1 : Hid (FxBuf w1 w.heap.size (.slice (some ⟨w.heap.size, 0, none⟩) 0 0) []) := by
      refine Lib.hid ?_
      rw [hw1]
      exact ⟨rfl, .inr ⟨w.heap.size, 0, #[], rfl, Nat.le_refl _, heap_alloc_eq _ _, Nat.le_refl _, Nat.zero_le _, rfl, rfl⟩⟩
    have C1 : Hid (Chg [] w w1) := Lib.hid (by rw [hw1]; exact (Chg.refl _ _).alloc _)
    have HW1 := Lib.hid (hw1)
    clear hw1
    go_enter Tryz.func63, Tryz.ntmps63
    go_wp2_with (at_builtin; rw [← HW1.out]; refine app_fxs rfl _ _ rfl w.heap.size (.slice (some ⟨w.heap.size, 0, none⟩) 0 0) [] rfl B1.out _ rfl ls (HR.out.frame C1.out) (by simp; omega) C1.out.size ?_; intro va wa hoa hga; refine Hid.out ?_)
    refine Lib.hid ?_
    have BA : Hid (FxBuf wa w.heap.size va ls) := Lib.hid (hoa)
    have CA : Hid (Chg [] w wa) := Lib.hid (C1.out.trans (Chg.of_grown hga) (fun i hm hw => by simp [Value.ownBlock] at hm; omega))
    clear hoa hga
    go_wp2
    go_ret
    exact ⟨_, rfl, BA.out, CA.out⟩
end Go.Proofs.YtkomocgodljecaaGreatDoor
