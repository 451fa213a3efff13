/- Lemmas, laid together: part 10 of 39. Conditions: none but each lemma's own. -/
import Derived.Test.YtppbcgffdpdklaaGreatDoorJ9
import Derived.Shelf.SlSortCmp.WholeK
import Derived.Shelf.SlicesE.Clone
import Derived.Shelf.SlicesQ.Equal
import Derived.Test.YtppbcgffdpdklaaGreatDoorProg
/- Writes into a row of fixups; append of a fixup. -/
namespace Go.Proofs.YtppbcgffdpdklaaGreatDoor
open Go.RowKit
set_option maxRecDepth 100000

def set7 (l : List Value) (o : Nat) (f : Fx) : List Value :=
  ((((((l.set o (.int .u64 f.at_)).set (o + 1) (.int .i64 f.kind)).set (o + 2) (.int .u64 f.tgt)).set (o + 3) (.int .i64 f.ord)).set (o + 4) (.string f.sym)).set (o + 5) (.int .i64 f.add)).set (o + 6) (.bool f.weak)
theorem fxV_set (f : Fx) : ∀ (ls : List Fx) (j : Nat), j < ls.length → set7 (fxV ls) (j * 7) f = fxV (ls.set j f)
  | [], j, h => by simp at h
  | s :: r, 0, _ => by
    show set7 (s.cells ++ fxV r) 0 f = f.cells ++ fxV r
    simp [set7, Fx.cells]
  | s :: r, j + 1, h => by
    have ih := fxV_set f r j (by simpa using h)
    show set7 (s.cells ++ fxV r) ((j + 1) * 7) f = s.cells ++ fxV (r.set j f)
    rw [← ih, show (j + 1) * 7 = j * 7 + 7 by omega]
    have e : ∀ (l : List Value) (i : Nat) (u : Value), (s.cells ++ l).set (7 + i) u = s.cells ++ l.set i u := fun l i u => by
      rw [List.set_append_right _ _ (by show 7 ≤ 7 + i; omega)]
      show s.cells ++ l.set (7 + i - 7) u = _
      rw [Nat.add_sub_cancel_left]
    unfold set7
    rw [show j * 7 + 7 = 7 + j * 7 by omega, e, show 7 + j * 7 + 1 = 7 + (j * 7 + 1) by omega, e, show 7 + j * 7 + 2 = 7 + (j * 7 + 2) by omega, e, show 7 + j * 7 + 3 = 7 + (j * 7 + 3) by omega, e, show 7 + j * 7 + 4 = 7 + (j * 7 + 4) by omega, e, show 7 + j * 7 + 5 = 7 + (j * 7 + 5) by omega, e, show 7 + j * 7 + 6 = 7 + (j * 7 + 6) by omega, e]
/-- The world behind a fixup's being written. -/
def setW (w : World) (g o : Nat) (f : Fx) : World :=
  ((((((w.setCell ⟨g, o, none⟩ (.int .u64 f.at_)).setCell ⟨g, o + 1, none⟩ (.int .i64 f.kind)).setCell ⟨g, o + 2, none⟩ (.int .u64 f.tgt)).setCell ⟨g, o + 3, none⟩ (.int .i64 f.ord)).setCell ⟨g, o + 4, none⟩ (.string f.sym)).setCell ⟨g, o + 5, none⟩ (.int .i64 f.add)).setCell ⟨g, o + 6, none⟩ (.bool f.weak)
theorem setW_chg (w : World) (g o : Nat) (f : Fx) : Chg [g] w (setW w g o f) := by
  unfold setW
  exact (((((((Chg.refl _ _).setCell _ _ (.inl (by simp))).setCell _ _ (.inl (by simp))).setCell _ _ (.inl (by simp))).setCell _ _ (.inl (by simp))).setCell _ _ (.inl (by simp))).setCell _ _ (.inl (by simp))).setCell _ _ (.inl (by simp))
theorem FxBuf.set {w : World} {base : Nat} {v : Value} {ls : List Fx} (h : FxBuf w base v ls) {g n cap : Nat} (hv : v = .slice (some ⟨g, 0, none⟩) n cap) (j : Nat) (hj : j < ls.length) (f : Fx) : FxBuf (setW w g (j * 7) f) base v (ls.set j f) := by
  obtain ⟨hl, hx⟩ := h
  rcases hx with ⟨rfl, h0⟩ | ⟨g', cap', cur, hv', hb, hg, hnc, hcm, hcs, htake⟩
  · omega
  · rw [hv'] at hv
    cases hv
    subst hv'
    have h7 := heap_setCell (heap_setCell (heap_setCell (heap_setCell (heap_setCell (heap_setCell (heap_setCell hg (j * 7) (.int .u64 f.at_)) (j * 7 + 1) (.int .i64 f.kind)) (j * 7 + 2) (.int .u64 f.tgt)) (j * 7 + 3) (.int .i64 f.ord)) (j * 7 + 4) (.string f.sym)) (j * 7 + 5) (.int .i64 f.add)) (j * 7 + 6) (.bool f.weak)
    refine ⟨by rw [fxV_len], .inr ⟨_, _, _, by rw [List.length_set], hb, h7, by rw [List.length_set]; exact hnc, hcm, by simp [hcs], ?_⟩⟩
    rw [List.length_set, ← fxV_set f ls j hj, ← htake]
    unfold set7
    simp only [Array.toList_setIfInBounds, List.take_set]
/-- A row that is not empty. -/
theorem FxBuf.at {w : World} {base : Nat} {v : Value} {ls : List Fx} (h : FxBuf w base v ls) (hne : ls.length ≠ 0) :
    ∃ g cap, v = .slice (some ⟨g, 0, none⟩) ls.length cap ∧ base ≤ g ∧ ls.length ≤ cap ∧ cap ≤ maxLen ∧ v.ownBlock = some g ∧ (∀ j, w.frozen? ⟨g, j, none⟩ = false) ∧ ∀ j, j < ls.length → ∀ c, c < 7 → w.cell? ⟨g, j * 7 + c, none⟩ = (ls.getD j .zero).cells[c]? := by
  obtain ⟨hl, hv⟩ := h
  rcases hv with ⟨rfl, h0⟩ | ⟨g, cap, cur, rfl, hb, hg, hnc, hcm, hcs, htake⟩
  · exact absurd h0 hne
  · refine ⟨g, cap, rfl, hb, hnc, hcm, rfl, fun j => frozen_of_heap hg j, fun j hj c hc => ?_⟩
    rw [cell_of_heap hg, ← fxV_get ls j c hj hc, ← htake, List.getElem?_take, if_pos (by omega)]
    simp
theorem app_fx {ops : Array Oper} {rest : List Oper} {o : Oper} {a : Act} {Q : Exit → Act → World → Prop} {w : World} (hgd : o.guard = none) (s x : Operand)
    (ho : o.op = .call { callee := .builtin .append, args := #[s, x], argTypes := #[36, 36] }) (base : Nat) (v : Value) (ls : List Fx) (hs : a.eval s = v) (hown : FxBuf w base v ls)
    (q : Nat) (f : Fx) (hx : a.eval x = .slice (some ⟨q, 0, none⟩) 1 1) (hq : w.heap[q]? = some (.cells #[.int .u64 f.at_, .int .i64 f.kind, .int .u64 f.tgt, .int .i64 f.ord, .string f.sym, .int .i64 f.add, .bool f.weak] 43 (0, 0)))
    (hlen : ls.length ≤ 1000000) (hbase : base ≤ w.heap.size)
    (h : ∀ v' w', FxBuf w' base v' (ls ++ [f]) → w.grownBy w' v.ownBlock → wpList Tryz.prog ops Q rest (a.put o.dst v') w') : wpList Tryz.prog ops Q (o :: rest) a w := by
  obtain ⟨i0, hi, hz0, hz1, hz2⟩ := info_parts Tryz.infoFx
  refine wpList_append_own _ hgd s x 36 ho base 43 i0 _ 7 64 Tryz.uFxsF hi hz0 hz1 hz2 rfl (by decide) v ls.length (fxV ls) hs hown ⟨q, 0, none⟩ 1 1 f.cells hx rfl ?_ ?_ (by unfold maxLen; omega) (by omega) hbase ?_
  · intro j u hu
    rw [Addr_add, Nat.zero_add, cell_of_heap hq]
    simpa [Fx.cells] using hu
  · intro u hu
    simp only [Fx.cells, List.mem_cons, List.not_mem_nil, or_false] at hu
    rcases hu with rfl | rfl | rfl | rfl | rfl | rfl | rfl <;> rfl
  · intro v' w' h1 h2 _
    refine h v' w' ?_ h2
    unfold FxBuf
    rw [fxV_snoc, List.length_append]
    exact h1
end Go.Proofs.YtppbcgffdpdklaaGreatDoor
/- slices.SortFunc, slices.Clone, slices.Equal at a row of fixups: the library's layings (made by the kit's tool lay-plain). -/
namespace Go.Proofs
open Go.Shelf
def Tryz.sortFx_ren : Go.Shelf.Ren := ⟨fun | 6 => 53 | 15 => 65 | 14 => 64 | 28 => 93 | 29 => 94 | 20 => 85 | 21 => 86 | 22 => 87 | 23 => 88 | 24 => 89 | 25 => 90 | 26 => 91 | 27 => 92 | 46 => 105 | 47 => 106 | 48 => 107 | 49 => 108 | 50 => 109 | 57 => 117 | n => n, fun | 22 => 36 | 24 => 43 | 25 => 76 | 3 => 3 | 39 => 61 | 0 => 0 | 53 => 28 | 55 => 22 | 4 => 4 | 46 => 122 | 45 => 121 | 50 => 126 | 5 => 5 | 9 => 9 | 66 => 147 | 70 => 150 | 76 => 167 | 77 => 168 | n => n, fun | n => n⟩
theorem Tryz.sortFx : Go.Proofs.SlLaysF0.n6 Tryz.prog Tryz.sortFx_ren := {
  mixed := by kernel_rfl
  f6 := ⟨Tryz.f53.name, by decide, Tryz.func53.trans (congrArg some (by kernel_rfl))⟩
  f14 := ⟨Tryz.f64.name, by decide, Tryz.func64.trans (congrArg some (by kernel_rfl))⟩
  f15 := Tryz.func65.trans (congrArg some (by kernel_rfl))
  f20 := ⟨Tryz.f85.name, by decide, Tryz.func85.trans (congrArg some (by kernel_rfl))⟩
  f21 := ⟨Tryz.f86.name, by decide, Tryz.func86.trans (congrArg some (by kernel_rfl))⟩
  f22 := ⟨Tryz.f87.name, by decide, Tryz.func87.trans (congrArg some (by kernel_rfl))⟩
  f23 := ⟨Tryz.f88.name, by decide, Tryz.func88.trans (congrArg some (by kernel_rfl))⟩
  f24 := ⟨Tryz.f89.name, by decide, Tryz.func89.trans (congrArg some (by kernel_rfl))⟩
  f25 := ⟨Tryz.f90.name, by decide, Tryz.func90.trans (congrArg some (by kernel_rfl))⟩
  f26 := ⟨Tryz.f91.name, by decide, Tryz.func91.trans (congrArg some (by kernel_rfl))⟩
  f27 := ⟨Tryz.f92.name, by decide, Tryz.func92.trans (congrArg some (by kernel_rfl))⟩
  f28 := Tryz.func93.trans (congrArg some (by kernel_rfl))
  f29 := Tryz.func94.trans (congrArg some (by kernel_rfl))
  f46 := ⟨Tryz.f105.name, by decide, Tryz.func105.trans (congrArg some (by kernel_rfl))⟩
  f47 := Tryz.func106.trans (congrArg some (by kernel_rfl))
  f48 := Tryz.func107.trans (congrArg some (by kernel_rfl))
  f49 := ⟨Tryz.f108.name, by decide, Tryz.func108.trans (congrArg some (by kernel_rfl))⟩
  f50 := ⟨Tryz.f109.name, by decide, Tryz.func109.trans (congrArg some (by kernel_rfl))⟩
  f57 := ⟨Tryz.f117.name, by decide, Tryz.func117.trans (congrArg some (by kernel_rfl))⟩
  t0 := Tryz.underlying0
  a0 := Tryz.isAgg0
  z0 := Tryz.sizeOf0
  v0 := Tryz.zeroValue0
  t3 := Tryz.underlying3
  a3 := Tryz.isAgg3
  z3 := Tryz.sizeOf3
  v3 := Tryz.zeroValue3
  t4 := Tryz.underlying4
  a4 := Tryz.isAgg4
  z4 := Tryz.sizeOf4
  v4 := Tryz.zeroValue4
  t5 := Tryz.underlying5
  a5 := Tryz.isAgg5
  z5 := Tryz.sizeOf5
  v5 := Tryz.zeroValue5
  t9 := Tryz.underlying9
  a9 := Tryz.isAgg9
  z9 := Tryz.sizeOf9
  v9 := Tryz.zeroValue9
  t22 := Tryz.underlying36
  a22 := Tryz.isAgg36
  z22 := Tryz.sizeOf36
  v22 := Tryz.zeroValue36
  t25 := Tryz.underlying76
  a25 := Tryz.isAgg76
  z25 := Tryz.sizeOf76
  v25 := Tryz.zeroValue76
  t39 := Tryz.underlying61
  a39 := Tryz.isAgg61
  z39 := Tryz.sizeOf61
  v39 := Tryz.zeroValue61
  t45 := Tryz.underlying121
  a45 := Tryz.isAgg121
  z45 := Tryz.sizeOf121
  v45 := Tryz.zeroValue121
  t46 := Tryz.underlying122
  a46 := Tryz.isAgg122
  z46 := Tryz.sizeOf122
  v46 := Tryz.zeroValue122
  t50 := Tryz.underlying126
  a50 := Tryz.isAgg126
  z50 := Tryz.sizeOf126
  v50 := Tryz.zeroValue126
  t53 := Tryz.underlying28
  a53 := Tryz.isAgg28
  z53 := Tryz.sizeOf28
  v53 := Tryz.zeroValue28
  t55 := Tryz.underlying22
  a55 := Tryz.isAgg22
  z55 := Tryz.sizeOf22
  v55 := Tryz.zeroValue22
  t66 := Tryz.underlying147
  a66 := Tryz.isAgg147
  z66 := Tryz.sizeOf147
  v66 := Tryz.zeroValue147
  t70 := Tryz.underlying150
  a70 := Tryz.isAgg150
  z70 := Tryz.sizeOf150
  v70 := Tryz.zeroValue150
  t76 := Tryz.underlying167
  a76 := Tryz.isAgg167
  z76 := Tryz.sizeOf167
  v76 := Tryz.zeroValue167
  t77 := Tryz.underlying168
  a77 := Tryz.isAgg168
  z77 := Tryz.sizeOf168
  v77 := Tryz.zeroValue168 }
def Tryz.cloneFx_ren : Go.Shelf.Ren := ⟨fun | 41 => 52 | n => n, fun | 22 => 36 | 23 => 43 | 4 => 4 | n => n, fun | n => n⟩
theorem Tryz.cloneFx : Go.Proofs.SlLaysE0.n41 Tryz.prog Tryz.cloneFx_ren := {
  mixed := by kernel_rfl
  f41 := ⟨Tryz.f52.name, by decide, Tryz.func52.trans (congrArg some (by kernel_rfl))⟩
  t4 := Tryz.underlying4
  a4 := Tryz.isAgg4
  z4 := Tryz.sizeOf4
  v4 := Tryz.zeroValue4
  t22 := Tryz.underlying36
  a22 := Tryz.isAgg36
  z22 := Tryz.sizeOf36
  v22 := Tryz.zeroValue36 }
end Go.Proofs
/- A row of fixups, sorted (by the library's contract). -/
namespace Go.Proofs.YtppbcgffdpdklaaGreatDoor
open Go.RowKit Go.Sort
set_option maxRecDepth 100000

instance : Inhabited Fx := ⟨Fx.zero⟩
theorem swoF : SWO (ltOf ordF) where
  irrefl x := by unfold ltOf; rw [ord_self]; rfl
  trans x y z h1 h2 := by
    unfold ltOf at *
    rw [decide_eq_true_eq] at *
    exact ord_lt_trans h1 h2
  ntrans x y z h1 h2 := by
    unfold ltOf at *
    rw [decide_eq_false_iff_not] at *
    intro h3
    have a1 := ord_anti x y
    have a2 := ord_anti y z
    have a3 := ord_anti x z
    have := ordF_is.trans z y x (by omega) (by omega)
    omega
theorem sort_buf {w : World} {base g n cap : Nat} {ls : List Fx} (h : FxBuf w base (.slice (some ⟨g, 0, none⟩) n cap) ls) (m : Nat) (d : Array Fx) (os : Array Obj) (hd : d.size = ls.length) :
    FxBuf (sortWorldK Fx.cells 7 w g 0 m d os) base (.slice (some ⟨g, 0, none⟩) n cap) d.toList ∧ Chg [g] w (sortWorldK Fx.cells 7 w g 0 m d os) := by
  obtain ⟨hl, hx⟩ := h
  rcases hx with ⟨h1, _⟩ | ⟨g', cap', cur, hv', hb, hg, hnc, hcm, hcs, htake⟩
  · cases h1
  · cases hv'
    have hgl := lt_of_heap hg
    have hdl : d.toList.length = ls.length := by simpa using hd
    have hheap : (sortWorldK Fx.cells 7 w g 0 m d os).heap = w.heap.modify g (onCells (putCells id 0 (flatK Fx.cells 7 d))) ++ os := rfl
    refine ⟨⟨by rw [fxV_len], .inr ⟨g, cap, putCells id 0 (flatK Fx.cells 7 d) cur, by rw [hdl], hb, ?_, by rw [hdl]; exact hnc, hcm, ?_, ?_⟩⟩, ⟨rfl, rfl, rfl, ?_, fun k hk hn => ?_⟩⟩
    · rw [hheap, Array.getElem?_append_left (by rw [Array.size_modify]; exact hgl), Array.getElem?_modify, if_pos rfl, hg]
      rfl
    · simp [putCells, hcs]
    · apply List.ext_getElem?
      intro t
      rw [Array.length_toList, List.getElem?_take]
      by_cases ht : t < d.size * 7
      · rw [if_pos ht]
        have h2 := fxV_get d.toList (t / 7) (t % 7) (by rw [Array.length_toList]; omega) (Nat.mod_lt _ (by decide))
        rw [show t / 7 * 7 + t % 7 = t by omega] at h2
        rw [h2, Array.getElem?_toList]
        have htc : t < cur.size := by rw [hcs]; have : d.size * 7 ≤ cap * 7 := Nat.mul_le_mul_right _ (by omega); omega
        have h3 : (putCells id 0 (flatK Fx.cells 7 d) cur)[t]? = some ((flatK Fx.cells 7 d)[t]!) := by
          unfold putCells
          rw [Array.getElem?_mapIdx, Array.getElem?_eq_getElem htc]
          simp [ht]
        rw [h3, get_flatK _ _ _ _ ht]
        have h4 : d.toList.getD (t / 7) Fx.zero = d[t / 7]! := by
          have : t / 7 < d.size := by omega
          simp [List.getD_eq_getElem?_getD, this]
        rw [h4]
        have h5 : t % 7 < (Fx.cells d[t / 7]!).length := Nat.mod_lt _ (by decide)
        rw [List.getElem?_eq_getElem h5]
        exact congrArg some (getElem!_pos (Fx.cells d[t / 7]!) (t % 7) h5)
      · rw [if_neg ht, List.getElem?_eq_none (by rw [fxV_len, Array.length_toList]; omega)]
    · rw [hheap, Array.size_append, Array.size_modify]; omega
    · rw [hheap, Array.getElem?_append_left (by rw [Array.size_modify]; exact hk), Array.getElem?_modify, if_neg (by intro e; exact hn (by rw [e]; simp))]
theorem holds_buf {w : World} {base g n cap : Nat} {ls : List Fx} (h : FxBuf w base (.slice (some ⟨g, 0, none⟩) n cap) ls) : HoldsK Fx.cells 7 w g 0 ls.toArray := by
  obtain ⟨hl, hx⟩ := h
  rcases hx with ⟨h1, _⟩ | ⟨g', cap', cur, hv', hb, hg, hnc, hcm, hcs, htake⟩
  · cases h1
  · cases hv'
    intro t ht
    rw [size_flatK, List.size_toArray] at ht
    refine ⟨?_, frozen_of_heap hg _⟩
    have h2 := fxV_get ls (t / 7) (t % 7) (by omega) (Nat.mod_lt _ (by decide))
    rw [show t / 7 * 7 + t % 7 = t by omega] at h2
    rw [Nat.zero_add, cell_of_heap hg, get_flatK _ _ _ _ (by rw [List.size_toArray]; exact ht)]
    have h3 : cur[t]? = (fxV ls)[t]? := by
      rw [← htake, List.getElem?_take, if_pos ht]
      simp
    have h4 : ls.getD (t / 7) Fx.zero = ls.toArray[t / 7]! := by
      have : t / 7 < ls.length := by omega
      simp [List.getD_eq_getElem?_getD, this]
    have h5 : t % 7 < (Fx.cells ls.toArray[t / 7]!).length := Nat.mod_lt _ (by decide)
    rw [h3, h2, h4, List.getElem?_eq_getElem h5]
    exact congrArg some (getElem!_pos (Fx.cells ls.toArray[t / 7]!) (t % 7) h5).symm
theorem cmp_lays (blk off size : Nat) (w : World) : CmpLays Tryz.prog 36 #[] Fx.cells 7 ordF blk off size w :=
  fun _ _ _ _ x y => Order_g x y _

theorem Sort_any {w : World} {base g n cap : Nat} {ls : List Fx} (h : FxBuf w base (.slice (some ⟨g, 0, none⟩) n cap) ls) (hl : ls.length ≤ 1000000) :
    Calls Tryz.prog 53 #[.slice (some ⟨g, 0, none⟩) n cap, .func (.func 36) #[] #[]] w fun e w' =>
      e = .returned (.tuple #[]) ∧ ∃ ms : List Fx, FxBuf w' base (.slice (some ⟨g, 0, none⟩) n cap) ms ∧ ms.length = ls.length ∧ (∀ z, z ∈ ms ↔ z ∈ ls) ∧ SL ms ∧ Chg [g] w w' := by
  have hn : n = ls.length := by
    obtain ⟨_, hx⟩ := h
    rcases hx with ⟨h1, _⟩ | ⟨_, _, _, hv', _⟩
    · cases h1
    · cases hv'; rfl
  have hgl : g < w.heap.size := by
    obtain ⟨_, hx⟩ := h
    rcases hx with ⟨h1, _⟩ | ⟨_, _, _, hv', _, hg, _⟩
    · cases h1
    · cases hv'; exact lt_of_heap hg
  have hc := AnyQ.slices_SortFunc Tryz.sortFx 7 Tryz.isAgg43 Tryz.sizeOf43 Fx.cells (fun _ => rfl) (fun x v hv => by simp only [Fx.cells, List.mem_cons, List.not_mem_nil, or_false] at hv; rcases hv with rfl | rfl | rfl | rfl | rfl | rfl | rfl <;> rfl) ordF swoF 36 #[] g 0 cap ls.toArray w
    (enters_of Tryz.func36 (by kernel_rfl) rfl) (cmp_lays _ _ _ _) (holds_buf h) hgl (by rw [List.size_toArray]; omega)
  rw [hn]
  refine Calls.mono (show Calls Tryz.prog 53 #[.slice (some ⟨g, 0, none⟩) ls.length cap, .func (.func 36) #[] #[]] w _ from hc) ?_
  rintro e w' ⟨rfl, d', m, os, ⟨hs, _, hp⟩, hsd, rfl⟩
  rw [hn] at h
  have e0 : ls.toArray.size = ls.length := by simp
  rw [e0] at hs hp hsd
  have hdl : d'.toList.length = ls.length := by simpa using hs
  have hb := sort_buf h m d' os hs
  have hx1 : d'.extract 0 ls.length = d' := by rw [← hs]; simp
  have hx2 : ls.toArray.extract 0 ls.length = ls.toArray := by simp
  rw [hx1, hx2] at hp
  refine ⟨rfl, d'.toList, hb.1, hdl, fun z => hp.mem_iff, ?_, hb.2⟩
  unfold SL
  rw [List.pairwise_iff_getElem]
  intro i j h1 h2 hij
  have h1' : i < d'.size := by rw [hs, ← hdl]; exact h1
  have h2' : j < d'.size := by rw [hs, ← hdl]; exact h2
  have := hsd i j (Nat.zero_le _) hij (by omega)
  unfold ltOf at this
  rw [decide_eq_false_iff_not, getElem!_pos d' j h2', getElem!_pos d' i h1'] at this
  simpa using this
end Go.Proofs.YtppbcgffdpdklaaGreatDoor
