/- Writes into a row of fixups; append of a fixup. -/
import Derived.Test.YtgmlcmmphhmogaaFxRow
namespace Go.Proofs.Ytgmlcmmphhmogaa
open Go.RowKit
set_option maxRecDepth 100000

def set7 (l : List Value) (o : Nat) (f : Fx) : List Value :=
  ((((((l.set o (.int .u64 f.at_)).set (o + 1) (.int .i64 f.kind)).set (o + 2) (.int .u64 f.tgt)).set (o + 3) (.int .i64 f.ord)).set (o + 4) (.string f.sym)).set (o + 5) (.int .i64 f.add)).set (o + 6) (.bool f.weak)
theorem fxV_set (f : Fx) : ∀ (ls : List Fx) (j : Nat), j < ls.length → set7 (fxV ls) (j * 7) f = fxV (ls.set j f)
  | [], j, h => by simp at h
  | s :: r, 0, _ => by
    show set7 (s.cells ++ fxV r) 0 f = f.cells ++ fxV r
    simp [set7, Fx.cells]
  | s :: r, j + 1, h => by
    have ih := fxV_set f r j (by simpa using h)
    show set7 (s.cells ++ fxV r) ((j + 1) * 7) f = s.cells ++ fxV (r.set j f)
    rw [← ih, show (j + 1) * 7 = j * 7 + 7 by omega]
    have e : ∀ (l : List Value) (i : Nat) (u : Value), (s.cells ++ l).set (7 + i) u = s.cells ++ l.set i u := fun l i u => by
      rw [List.set_append_right _ _ (by show 7 ≤ 7 + i; omega)]
      show s.cells ++ l.set (7 + i - 7) u = _
      rw [Nat.add_sub_cancel_left]
    unfold set7
    rw [show j * 7 + 7 = 7 + j * 7 by omega, e, show 7 + j * 7 + 1 = 7 + (j * 7 + 1) by omega, e, show 7 + j * 7 + 2 = 7 + (j * 7 + 2) by omega, e, show 7 + j * 7 + 3 = 7 + (j * 7 + 3) by omega, e, show 7 + j * 7 + 4 = 7 + (j * 7 + 4) by omega, e, show 7 + j * 7 + 5 = 7 + (j * 7 + 5) by omega, e, show 7 + j * 7 + 6 = 7 + (j * 7 + 6) by omega, e]
/-- The world behind a fixup's being written. -/
def setW (w : World) (g o : Nat) (f : Fx) : World :=
  ((((((w.setCell ⟨g, o, none⟩ (.int .u64 f.at_)).setCell ⟨g, o + 1, none⟩ (.int .i64 f.kind)).setCell ⟨g, o + 2, none⟩ (.int .u64 f.tgt)).setCell ⟨g, o + 3, none⟩ (.int .i64 f.ord)).setCell ⟨g, o + 4, none⟩ (.string f.sym)).setCell ⟨g, o + 5, none⟩ (.int .i64 f.add)).setCell ⟨g, o + 6, none⟩ (.bool f.weak)
theorem setW_chg (w : World) (g o : Nat) (f : Fx) : Chg [g] w (setW w g o f) := by
  unfold setW
  exact (((((((Chg.refl _ _).setCell _ _ (.inl (by simp))).setCell _ _ (.inl (by simp))).setCell _ _ (.inl (by simp))).setCell _ _ (.inl (by simp))).setCell _ _ (.inl (by simp))).setCell _ _ (.inl (by simp))).setCell _ _ (.inl (by simp))
theorem FxBuf.set {w : World} {base : Nat} {v : Value} {ls : List Fx} (h : FxBuf w base v ls) {g n cap : Nat} (hv : v = .slice (some ⟨g, 0, none⟩) n cap) (j : Nat) (hj : j < ls.length) (f : Fx) : FxBuf (setW w g (j * 7) f) base v (ls.set j f) := by
  obtain ⟨hl, hx⟩ := h
  rcases hx with ⟨rfl, h0⟩ | ⟨g', cap', cur, hv', hb, hg, hnc, hcm, hcs, htake⟩
  · omega
  · rw [hv'] at hv
    cases hv
    subst hv'
    have h7 := heap_setCell (heap_setCell (heap_setCell (heap_setCell (heap_setCell (heap_setCell (heap_setCell hg (j * 7) (.int .u64 f.at_)) (j * 7 + 1) (.int .i64 f.kind)) (j * 7 + 2) (.int .u64 f.tgt)) (j * 7 + 3) (.int .i64 f.ord)) (j * 7 + 4) (.string f.sym)) (j * 7 + 5) (.int .i64 f.add)) (j * 7 + 6) (.bool f.weak)
    refine ⟨by rw [fxV_len], .inr ⟨_, _, _, by rw [List.length_set], hb, h7, by rw [List.length_set]; exact hnc, hcm, by simp [hcs], ?_⟩⟩
    rw [List.length_set, ← fxV_set f ls j hj, ← htake]
    unfold set7
    simp only [Array.toList_setIfInBounds, List.take_set]
/-- A row that is not empty. -/
theorem FxBuf.at {w : World} {base : Nat} {v : Value} {ls : List Fx} (h : FxBuf w base v ls) (hne : ls.length ≠ 0) :
    ∃ g cap, v = .slice (some ⟨g, 0, none⟩) ls.length cap ∧ base ≤ g ∧ ls.length ≤ cap ∧ cap ≤ maxLen ∧ v.ownBlock = some g ∧ (∀ j, w.frozen? ⟨g, j, none⟩ = false) ∧ ∀ j, j < ls.length → ∀ c, c < 7 → w.cell? ⟨g, j * 7 + c, none⟩ = (ls.getD j .zero).cells[c]? := by
  obtain ⟨hl, hv⟩ := h
  rcases hv with ⟨rfl, h0⟩ | ⟨g, cap, cur, rfl, hb, hg, hnc, hcm, hcs, htake⟩
  · exact absurd h0 hne
  · refine ⟨g, cap, rfl, hb, hnc, hcm, rfl, fun j => frozen_of_heap hg j, fun j hj c hc => ?_⟩
    rw [cell_of_heap hg, ← fxV_get ls j c hj hc, ← htake, List.getElem?_take, if_pos (by omega)]
    simp
theorem app_fx {ops : Array Oper} {rest : List Oper} {o : Oper} {a : Act} {Q : Exit → Act → World → Prop} {w : World} (hgd : o.guard = none) (s x : Operand)
    (ho : o.op = .call { callee := .builtin .append, args := #[s, x], argTypes := #[28, 28] }) (base : Nat) (v : Value) (ls : List Fx) (hs : a.eval s = v) (hown : FxBuf w base v ls)
    (q : Nat) (f : Fx) (hx : a.eval x = .slice (some ⟨q, 0, none⟩) 1 1) (hq : w.heap[q]? = some (.cells #[.int .u64 f.at_, .int .i64 f.kind, .int .u64 f.tgt, .int .i64 f.ord, .string f.sym, .int .i64 f.add, .bool f.weak] 25 (0, 0)))
    (hlen : ls.length ≤ 1000000) (hbase : base ≤ w.heap.size)
    (h : ∀ v' w', FxBuf w' base v' (ls ++ [f]) → w.grownBy w' v.ownBlock → wpList Try.prog ops Q rest (a.put o.dst v') w') : wpList Try.prog ops Q (o :: rest) a w := by
  obtain ⟨i0, hi, hz0, hz1, hz2⟩ := info_parts Try.infoFx
  refine wpList_append_own _ hgd s x 28 ho base 25 i0 _ 7 64 Try.uFxsF hi hz0 hz1 hz2 rfl (by decide) v ls.length (fxV ls) hs hown ⟨q, 0, none⟩ 1 1 f.cells hx rfl ?_ ?_ (by unfold maxLen; omega) (by omega) hbase ?_
  · intro j u hu
    rw [Addr_add, Nat.zero_add, cell_of_heap hq]
    simpa [Fx.cells] using hu
  · intro u hu
    simp only [Fx.cells, List.mem_cons, List.not_mem_nil, or_false] at hu
    rcases hu with rfl | rfl | rfl | rfl | rfl | rfl | rfl <;> rfl
  · intro v' w' h1 h2 _
    refine h v' w' ?_ h2
    unfold FxBuf
    rw [fxV_snoc, List.length_append]
    exact h1
end Go.Proofs.Ytgmlcmmphhmogaa
