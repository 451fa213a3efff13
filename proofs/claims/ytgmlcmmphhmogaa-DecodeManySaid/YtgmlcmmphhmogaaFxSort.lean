/- A row of fixups, sorted (by the library's contract). -/
import Derived.Test.YtgmlcmmphhmogaaFxMem
import Derived.Test.YtgmlcmmphhmogaaShelfS
namespace Go.Proofs.Ytgmlcmmphhmogaa
open Go.RowKit Go.Sort
set_option maxRecDepth 100000

instance : Inhabited Fx := ⟨Fx.zero⟩
theorem swoF : SWO (ltOf ordF) where
  irrefl x := by unfold ltOf; rw [ord_self]; rfl
  trans x y z h1 h2 := by
    unfold ltOf at *
    rw [decide_eq_true_eq] at *
    exact ord_lt_trans h1 h2
  ntrans x y z h1 h2 := by
    unfold ltOf at *
    rw [decide_eq_false_iff_not] at *
    intro h3
    have a1 := ord_anti x y
    have a2 := ord_anti y z
    have a3 := ord_anti x z
    have := ordF_is.trans z y x (by omega) (by omega)
    omega
theorem sort_buf {w : World} {base g n cap : Nat} {ls : List Fx} (h : FxBuf w base (.slice (some ⟨g, 0, none⟩) n cap) ls) (m : Nat) (d : Array Fx) (os : Array Obj) (hd : d.size = ls.length) :
    FxBuf (sortWorldK Fx.cells 7 w g 0 m d os) base (.slice (some ⟨g, 0, none⟩) n cap) d.toList ∧ Chg [g] w (sortWorldK Fx.cells 7 w g 0 m d os) := by
  obtain ⟨hl, hx⟩ := h
  rcases hx with ⟨h1, _⟩ | ⟨g', cap', cur, hv', hb, hg, hnc, hcm, hcs, htake⟩
  · cases h1
  · cases hv'
    have hgl := lt_of_heap hg
    have hdl : d.toList.length = ls.length := by simpa using hd
    have hheap : (sortWorldK Fx.cells 7 w g 0 m d os).heap = w.heap.modify g (onCells (putCells id 0 (flatK Fx.cells 7 d))) ++ os := rfl
    refine ⟨⟨by rw [fxV_len], .inr ⟨g, cap, putCells id 0 (flatK Fx.cells 7 d) cur, by rw [hdl], hb, ?_, by rw [hdl]; exact hnc, hcm, ?_, ?_⟩⟩, ⟨rfl, rfl, rfl, ?_, fun k hk hn => ?_⟩⟩
    · rw [hheap, Array.getElem?_append_left (by rw [Array.size_modify]; exact hgl), Array.getElem?_modify, if_pos rfl, hg]
      rfl
    · simp [putCells, hcs]
    · apply List.ext_getElem?
      intro t
      rw [Array.length_toList, List.getElem?_take]
      by_cases ht : t < d.size * 7
      · rw [if_pos ht]
        have h2 := fxV_get d.toList (t / 7) (t % 7) (by rw [Array.length_toList]; omega) (Nat.mod_lt _ (by decide))
        rw [show t / 7 * 7 + t % 7 = t by omega] at h2
        rw [h2, Array.getElem?_toList]
        have htc : t < cur.size := by rw [hcs]; have : d.size * 7 ≤ cap * 7 := Nat.mul_le_mul_right _ (by omega); omega
        have h3 : (putCells id 0 (flatK Fx.cells 7 d) cur)[t]? = some ((flatK Fx.cells 7 d)[t]!) := by
          unfold putCells
          rw [Array.getElem?_mapIdx, Array.getElem?_eq_getElem htc]
          simp [ht]
        rw [h3, get_flatK _ _ _ _ ht]
        have h4 : d.toList.getD (t / 7) Fx.zero = d[t / 7]! := by
          have : t / 7 < d.size := by omega
          simp [List.getD_eq_getElem?_getD, this]
        rw [h4]
        have h5 : t % 7 < (Fx.cells d[t / 7]!).length := Nat.mod_lt _ (by decide)
        rw [List.getElem?_eq_getElem h5]
        exact congrArg some (getElem!_pos (Fx.cells d[t / 7]!) (t % 7) h5)
      · rw [if_neg ht, List.getElem?_eq_none (by rw [fxV_len, Array.length_toList]; omega)]
    · rw [hheap, Array.size_append, Array.size_modify]; omega
    · rw [hheap, Array.getElem?_append_left (by rw [Array.size_modify]; exact hk), Array.getElem?_modify, if_neg (by intro e; exact hn (by rw [e]; simp))]
theorem holds_buf {w : World} {base g n cap : Nat} {ls : List Fx} (h : FxBuf w base (.slice (some ⟨g, 0, none⟩) n cap) ls) : HoldsK Fx.cells 7 w g 0 ls.toArray := by
  obtain ⟨hl, hx⟩ := h
  rcases hx with ⟨h1, _⟩ | ⟨g', cap', cur, hv', hb, hg, hnc, hcm, hcs, htake⟩
  · cases h1
  · cases hv'
    intro t ht
    rw [size_flatK, List.size_toArray] at ht
    refine ⟨?_, frozen_of_heap hg _⟩
    have h2 := fxV_get ls (t / 7) (t % 7) (by omega) (Nat.mod_lt _ (by decide))
    rw [show t / 7 * 7 + t % 7 = t by omega] at h2
    rw [Nat.zero_add, cell_of_heap hg, get_flatK _ _ _ _ (by rw [List.size_toArray]; exact ht)]
    have h3 : cur[t]? = (fxV ls)[t]? := by
      rw [← htake, List.getElem?_take, if_pos ht]
      simp
    have h4 : ls.getD (t / 7) Fx.zero = ls.toArray[t / 7]! := by
      have : t / 7 < ls.length := by omega
      simp [List.getD_eq_getElem?_getD, this]
    have h5 : t % 7 < (Fx.cells ls.toArray[t / 7]!).length := Nat.mod_lt _ (by decide)
    rw [h3, h2, h4, List.getElem?_eq_getElem h5]
    exact congrArg some (getElem!_pos (Fx.cells ls.toArray[t / 7]!) (t % 7) h5).symm
theorem cmp_lays (blk off size : Nat) (w : World) : CmpLays Try.prog 15 #[] Fx.cells 7 ordF blk off size w :=
  fun _ _ _ _ x y => Order_g x y _

theorem Sort_any {w : World} {base g n cap : Nat} {ls : List Fx} (h : FxBuf w base (.slice (some ⟨g, 0, none⟩) n cap) ls) (hl : ls.length ≤ 1000000) :
    Calls Try.prog 18 #[.slice (some ⟨g, 0, none⟩) n cap, .func (.func 15) #[] #[]] w fun e w' =>
      e = .returned (.tuple #[]) ∧ ∃ ms : List Fx, FxBuf w' base (.slice (some ⟨g, 0, none⟩) n cap) ms ∧ ms.length = ls.length ∧ (∀ z, z ∈ ms ↔ z ∈ ls) ∧ SL ms ∧ Chg [g] w w' := by
  have hn : n = ls.length := by
    obtain ⟨_, hx⟩ := h
    rcases hx with ⟨h1, _⟩ | ⟨_, _, _, hv', _⟩
    · cases h1
    · cases hv'; rfl
  have hgl : g < w.heap.size := by
    obtain ⟨_, hx⟩ := h
    rcases hx with ⟨h1, _⟩ | ⟨_, _, _, hv', _, hg, _⟩
    · cases h1
    · cases hv'; exact lt_of_heap hg
  have hc := AnyQ.slices_SortFunc Try.sortFx 7 Try.isAgg25 Try.sizeOf25 Fx.cells (fun _ => rfl) (fun x v hv => by simp only [Fx.cells, List.mem_cons, List.not_mem_nil, or_false] at hv; rcases hv with rfl | rfl | rfl | rfl | rfl | rfl | rfl <;> rfl) ordF swoF 15 #[] g 0 cap ls.toArray w
    (enters_of Try.func15 (by kernel_rfl) rfl) (cmp_lays _ _ _ _) (holds_buf h) hgl (by rw [List.size_toArray]; omega)
  rw [hn]
  refine Calls.mono (show Calls Try.prog 18 #[.slice (some ⟨g, 0, none⟩) ls.length cap, .func (.func 15) #[] #[]] w _ from hc) ?_
  rintro e w' ⟨rfl, d', m, os, ⟨hs, _, hp⟩, hsd, rfl⟩
  rw [hn] at h
  have e0 : ls.toArray.size = ls.length := by simp
  rw [e0] at hs hp hsd
  have hdl : d'.toList.length = ls.length := by simpa using hs
  have hb := sort_buf h m d' os hs
  have hx1 : d'.extract 0 ls.length = d' := by rw [← hs]; simp
  have hx2 : ls.toArray.extract 0 ls.length = ls.toArray := by simp
  rw [hx1, hx2] at hp
  refine ⟨rfl, d'.toList, hb.1, hdl, fun z => hp.mem_iff, ?_, hb.2⟩
  unfold SL
  rw [List.pairwise_iff_getElem]
  intro i j h1 h2 hij
  have h1' : i < d'.size := by rw [hs, ← hdl]; exact h1
  have h2' : j < d'.size := by rw [hs, ← hdl]; exact h2
  have := hsd i j (Nat.zero_le _) hij (by omega)
  unfold ltOf at this
  rw [decide_eq_false_iff_not, getElem!_pos d' j h2', getElem!_pos d' i h1'] at this
  simpa using this
end Go.Proofs.Ytgmlcmmphhmogaa
