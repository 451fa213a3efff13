/- Lemmas, laid together: part 14 of 35. Conditions: none but each lemma's own. -/
import Derived.Test.YtlblcbgmmfjdjaaGreatDoorJ13
import Derived.Test.YtlblcbgmmfjdjaaGreatDoorJ11
import Derived.Shelf.SlSortCmp.WholeK
import Derived.Shelf.SlicesE.Clone
import Derived.Shelf.SlicesQ.Equal
import Derived.Test.YtlblcbgmmfjdjaaGreatDoorProg
/- Rows of fixups: read, made, appended to; two fixups compared. -/
namespace Go.Proofs.YtlblcbgmmfjdjaaGreatDoor
open Go.RowKit
set_option maxRecDepth 100000

def Fx.zero : Fx := ⟨0, 0, 0, 0, ⟨#[]⟩, 0, false⟩
def Fx.cells (f : Fx) : List Value := [.int .u64 f.at_, .int .i64 f.kind, .int .u64 f.tgt, .int .i64 f.ord, .string f.sym, .int .i64 f.add, .bool f.weak]
/-- The slice value v of fixups reads as ls. -/
def FxRd (w : World) (v : Value) (ls : List Fx) : Prop :=
  ∃ a n cap, v = .slice a n cap ∧ n = ls.length ∧ n ≤ cap ∧ cap ≤ maxLen ∧
    (ls ≠ [] → ∃ b off, a = some ⟨b, off, none⟩ ∧ b < w.heap.size ∧ ∀ j, j < ls.length → ∀ c, c < 7 → w.cell? ⟨b, off + j * 7 + c, none⟩ = (ls.getD j .zero).cells[c]?)
theorem FxRd.frame {w w' : World} {v : Value} {ls : List Fx} (h : FxRd w v ls) (k : Chg [] w w') : FxRd w' v ls := by
  obtain ⟨a, n, cap, rfl, hn, hc, hm, hx⟩ := h
  refine ⟨a, n, cap, rfl, hn, hc, hm, fun hne => ?_⟩
  obtain ⟨b, off, rfl, hb, hcell⟩ := hx hne
  refine ⟨b, off, rfl, Nat.lt_of_lt_of_le hb k.size, fun j hj c hc => ?_⟩
  have h1 := hcell j hj c hc
  cases hv : (ls.getD j .zero).cells[c]? with
  | none => have : c < (ls.getD j .zero).cells.length := hc; rw [List.getElem?_eq_getElem this] at hv; cases hv
  | some u => rw [hv] at h1; exact k.cell h1 (by simp)
theorem FxRd.at {w : World} {b off j : Nat} {f : Fx} (h : ∀ c, c < 7 → w.cell? ⟨b, off + j * 7 + c, none⟩ = f.cells[c]?) :
    w.cell? ⟨b, off + j * 7, none⟩ = some (.int .u64 f.at_) ∧ w.cell? ⟨b, off + j * 7 + 1, none⟩ = some (.int .i64 f.kind) ∧ w.cell? ⟨b, off + j * 7 + 2, none⟩ = some (.int .u64 f.tgt) ∧ w.cell? ⟨b, off + j * 7 + 3, none⟩ = some (.int .i64 f.ord) ∧ w.cell? ⟨b, off + j * 7 + 4, none⟩ = some (.string f.sym) ∧ w.cell? ⟨b, off + j * 7 + 5, none⟩ = some (.int .i64 f.add) ∧ w.cell? ⟨b, off + j * 7 + 6, none⟩ = some (.bool f.weak) :=
  ⟨h 0 (by decide), h 1 (by decide), h 2 (by decide), h 3 (by decide), h 4 (by decide), h 5 (by decide), h 6 (by decide)⟩
def fxV (ls : List Fx) : List Value := ls.flatMap Fx.cells
theorem fxV_len (ls : List Fx) : (fxV ls).length = ls.length * 7 := by
  induction ls with
  | nil => rfl
  | cons s r ih => show (s.cells ++ fxV r).length = _; rw [List.length_append, ih, List.length_cons]; show 7 + _ = _; omega
theorem fxV_get : ∀ (ls : List Fx) (j c : Nat), j < ls.length → c < 7 → (fxV ls)[j * 7 + c]? = (ls.getD j .zero).cells[c]?
  | [], j, c, hj, _ => by simp at hj
  | s :: r, 0, c, _, hc => by
    show (s.cells ++ fxV r)[0 * 7 + c]? = _
    rw [Nat.zero_mul, Nat.zero_add, List.getElem?_append_left (by show c < 7; exact hc)]
    rfl
  | s :: r, j + 1, c, hj, hc => by
    show (s.cells ++ fxV r)[(j + 1) * 7 + c]? = _
    rw [List.getElem?_append_right (by show 7 ≤ _; omega)]
    have := fxV_get r j c (by simpa using hj) hc
    show (fxV r)[(j + 1) * 7 + c - 7]? = _
    rw [show (j + 1) * 7 + c - 7 = j * 7 + c by omega, this]
    simp
theorem fxV_snoc (ls : List Fx) (s : Fx) : fxV (ls ++ [s]) = fxV ls ++ s.cells := by simp [fxV]
/-- A row of fixups that is the call's own. -/
def FxBuf (w : World) (base : Nat) (v : Value) (ls : List Fx) : Prop := w.ownsRow base 46 7 v ls.length (fxV ls)
theorem FxBuf.nil (w : World) (base : Nat) : FxBuf w base (.slice none 0 0) [] := ⟨rfl, .inl ⟨rfl, rfl⟩⟩
theorem FxBuf.rd {w : World} {base : Nat} {v : Value} {ls : List Fx} (h : FxBuf w base v ls) : FxRd w v ls := by
  obtain ⟨hl, hv⟩ := h
  rcases hv with ⟨rfl, h0⟩ | ⟨g, cap, cur, rfl, hb, hg, hnc, hcm, hcs, htake⟩
  · have : ls = [] := List.eq_nil_of_length_eq_zero h0
    subst this
    exact ⟨_, _, _, rfl, rfl, Nat.le_refl _, Nat.zero_le _, fun h => absurd rfl h⟩
  · refine ⟨_, _, _, rfl, rfl, hnc, hcm, fun _ => ⟨g, 0, rfl, lt_of_heap hg, fun j hj c hc => ?_⟩⟩
    rw [cell_of_heap hg, ← fxV_get ls j c hj hc, ← htake, List.getElem?_take, if_pos (by omega), Nat.zero_add]
    simp
theorem FxBuf.pure {w w' : World} {base : Nat} {v : Value} {ls : List Fx} (h : FxBuf w base v ls) (k : Chg [] w w') : FxBuf w' base v ls := owned_frame h k (fun _ _ hm => by cases hm)
theorem FxBuf.frame {w w' : World} {base : Nat} {v : Value} {ls : List Fx} (h : FxBuf w base v ls) {S : List Nat} (k : Chg S w w') (hn : ∀ b, v.ownBlock = some b → b ∉ S) : FxBuf w' base v ls := owned_frame h k hn
theorem FxBuf.mono {w : World} {base base' : Nat} {v : Value} {ls : List Fx} (h : FxBuf w base v ls) (hb : base' ≤ base) : FxBuf w base' v ls := owned_base h hb
theorem Tryz.infoFx : (Tryz.prog.info? 46).map (fun i => (i.zero, i.size, i.bytes)) = some (some (.agg #[.int .u64 0, .int .i64 0, .int .u64 0, .int .i64 0, .string ⟨#[]⟩, .int .i64 0, .bool false]), 7, 64) := by kernel_rfl
theorem Tryz.uFxsF : Tryz.prog.underlying 36 = some (.slice 46) := by kernel_rfl

theorem fx_eqv (a b : Fx) : decide (a = b) = (decide (a.at_ = b.at_) && (decide (a.kind = b.kind) && (decide (a.tgt = b.tgt) && (decide (a.ord = b.ord) && (decide (a.sym.toList = b.sym.toList) && (decide (a.add = b.add) && decide (a.weak = b.weak))))))) := by
  obtain ⟨a1, a2, a3, a4, a5, a6, a7⟩ := a
  obtain ⟨b1, b2, b3, b4, b5, b6, b7⟩ := b
  have h5 : decide (a5.toList = b5.toList) = decide (a5 = b5) := decide_eq_decide.2 ⟨fun e => by rw [Lib.toList_data, Lib.toList_data] at e; exact ByteArray.ext (Array.toList_inj.1 e), fun e => by rw [e]⟩
  simp only [h5]
  simp [Bool.decide_and]
set_option maxHeartbeats 2000000 in
theorem fx_eql (a b : Fx) (W : World) : (binOp .eql 46 (.agg #[.int .u64 a.at_, .int .i64 a.kind, .int .u64 a.tgt, .int .i64 a.ord, .string a.sym, .int .i64 a.add, .bool a.weak]) (.agg #[.int .u64 b.at_, .int .i64 b.kind, .int .u64 b.tgt, .int .i64 b.ord, .string b.sym, .int .i64 b.add, .bool b.weak])).run Tryz.prog W = .ok (.bool (decide (a = b))) W := by
  rw [fx_eqv]
  go_simp
  (repeat' split) <;> simp [*]
set_option maxHeartbeats 2000000 in
theorem fx_neq (a b : Fx) (W : World) : (binOp .neq 46 (.agg #[.int .u64 a.at_, .int .i64 a.kind, .int .u64 a.tgt, .int .i64 a.ord, .string a.sym, .int .i64 a.add, .bool a.weak]) (.agg #[.int .u64 b.at_, .int .i64 b.kind, .int .u64 b.tgt, .int .i64 b.ord, .string b.sym, .int .i64 b.add, .bool b.weak])).run Tryz.prog W = .ok (.bool (!decide (a = b))) W := by
  rw [fx_eqv]
  go_simp
  (repeat' split) <;> simp [*]

end Go.Proofs.YtlblcbgmmfjdjaaGreatDoor
/- Writes into a row of fixups; append of a fixup. -/
namespace Go.Proofs.YtlblcbgmmfjdjaaGreatDoor
open Go.RowKit
set_option maxRecDepth 100000

def set7 (l : List Value) (o : Nat) (f : Fx) : List Value :=
  ((((((l.set o (.int .u64 f.at_)).set (o + 1) (.int .i64 f.kind)).set (o + 2) (.int .u64 f.tgt)).set (o + 3) (.int .i64 f.ord)).set (o + 4) (.string f.sym)).set (o + 5) (.int .i64 f.add)).set (o + 6) (.bool f.weak)
theorem fxV_set (f : Fx) : ∀ (ls : List Fx) (j : Nat), j < ls.length → set7 (fxV ls) (j * 7) f = fxV (ls.set j f)
  | [], j, h => by simp at h
  | s :: r, 0, _ => by
    show set7 (s.cells ++ fxV r) 0 f = f.cells ++ fxV r
    simp [set7, Fx.cells]
  | s :: r, j + 1, h => by
    have ih := fxV_set f r j (by simpa using h)
    show set7 (s.cells ++ fxV r) ((j + 1) * 7) f = s.cells ++ fxV (r.set j f)
    rw [← ih, show (j + 1) * 7 = j * 7 + 7 by omega]
    have e : ∀ (l : List Value) (i : Nat) (u : Value), (s.cells ++ l).set (7 + i) u = s.cells ++ l.set i u := fun l i u => by
      rw [List.set_append_right _ _ (by show 7 ≤ 7 + i; omega)]
      show s.cells ++ l.set (7 + i - 7) u = _
      rw [Nat.add_sub_cancel_left]
    unfold set7
    rw [show j * 7 + 7 = 7 + j * 7 by omega, e, show 7 + j * 7 + 1 = 7 + (j * 7 + 1) by omega, e, show 7 + j * 7 + 2 = 7 + (j * 7 + 2) by omega, e, show 7 + j * 7 + 3 = 7 + (j * 7 + 3) by omega, e, show 7 + j * 7 + 4 = 7 + (j * 7 + 4) by omega, e, show 7 + j * 7 + 5 = 7 + (j * 7 + 5) by omega, e, show 7 + j * 7 + 6 = 7 + (j * 7 + 6) by omega, e]
/-- The world behind a fixup's being written. -/
def setW (w : World) (g o : Nat) (f : Fx) : World :=
  ((((((w.setCell ⟨g, o, none⟩ (.int .u64 f.at_)).setCell ⟨g, o + 1, none⟩ (.int .i64 f.kind)).setCell ⟨g, o + 2, none⟩ (.int .u64 f.tgt)).setCell ⟨g, o + 3, none⟩ (.int .i64 f.ord)).setCell ⟨g, o + 4, none⟩ (.string f.sym)).setCell ⟨g, o + 5, none⟩ (.int .i64 f.add)).setCell ⟨g, o + 6, none⟩ (.bool f.weak)
theorem setW_chg (w : World) (g o : Nat) (f : Fx) : Chg [g] w (setW w g o f) := by
  unfold setW
  exact (((((((Chg.refl _ _).setCell _ _ (.inl (by simp))).setCell _ _ (.inl (by simp))).setCell _ _ (.inl (by simp))).setCell _ _ (.inl (by simp))).setCell _ _ (.inl (by simp))).setCell _ _ (.inl (by simp))).setCell _ _ (.inl (by simp))
theorem FxBuf.set {w : World} {base : Nat} {v : Value} {ls : List Fx} (h : FxBuf w base v ls) {g n cap : Nat} (hv : v = .slice (some ⟨g, 0, none⟩) n cap) (j : Nat) (hj : j < ls.length) (f : Fx) : FxBuf (setW w g (j * 7) f) base v (ls.set j f) := by
  obtain ⟨hl, hx⟩ := h
  rcases hx with ⟨rfl, h0⟩ | ⟨g', cap', cur, hv', hb, hg, hnc, hcm, hcs, htake⟩
  · omega
  · rw [hv'] at hv
    cases hv
    subst hv'
    have h7 := heap_setCell (heap_setCell (heap_setCell (heap_setCell (heap_setCell (heap_setCell (heap_setCell hg (j * 7) (.int .u64 f.at_)) (j * 7 + 1) (.int .i64 f.kind)) (j * 7 + 2) (.int .u64 f.tgt)) (j * 7 + 3) (.int .i64 f.ord)) (j * 7 + 4) (.string f.sym)) (j * 7 + 5) (.int .i64 f.add)) (j * 7 + 6) (.bool f.weak)
    refine ⟨by rw [fxV_len], .inr ⟨_, _, _, by rw [List.length_set], hb, h7, by rw [List.length_set]; exact hnc, hcm, by simp [hcs], ?_⟩⟩
    rw [List.length_set, ← fxV_set f ls j hj, ← htake]
    unfold set7
    simp only [Array.toList_setIfInBounds, List.take_set]
/-- A row that is not empty. -/
theorem FxBuf.at {w : World} {base : Nat} {v : Value} {ls : List Fx} (h : FxBuf w base v ls) (hne : ls.length ≠ 0) :
    ∃ g cap, v = .slice (some ⟨g, 0, none⟩) ls.length cap ∧ base ≤ g ∧ ls.length ≤ cap ∧ cap ≤ maxLen ∧ v.ownBlock = some g ∧ (∀ j, w.frozen? ⟨g, j, none⟩ = false) ∧ ∀ j, j < ls.length → ∀ c, c < 7 → w.cell? ⟨g, j * 7 + c, none⟩ = (ls.getD j .zero).cells[c]? := by
  obtain ⟨hl, hv⟩ := h
  rcases hv with ⟨rfl, h0⟩ | ⟨g, cap, cur, rfl, hb, hg, hnc, hcm, hcs, htake⟩
  · exact absurd h0 hne
  · refine ⟨g, cap, rfl, hb, hnc, hcm, rfl, fun j => frozen_of_heap hg j, fun j hj c hc => ?_⟩
    rw [cell_of_heap hg, ← fxV_get ls j c hj hc, ← htake, List.getElem?_take, if_pos (by omega)]
    simp
theorem app_fx {ops : Array Oper} {rest : List Oper} {o : Oper} {a : Act} {Q : Exit → Act → World → Prop} {w : World} (hgd : o.guard = none) (s x : Operand)
    (ho : o.op = .call { callee := .builtin .append, args := #[s, x], argTypes := #[36, 36] }) (base : Nat) (v : Value) (ls : List Fx) (hs : a.eval s = v) (hown : FxBuf w base v ls)
    (q : Nat) (f : Fx) (hx : a.eval x = .slice (some ⟨q, 0, none⟩) 1 1) (hq : w.heap[q]? = some (.cells #[.int .u64 f.at_, .int .i64 f.kind, .int .u64 f.tgt, .int .i64 f.ord, .string f.sym, .int .i64 f.add, .bool f.weak] 46 (0, 0)))
    (hlen : ls.length ≤ 1000000) (hbase : base ≤ w.heap.size)
    (h : ∀ v' w', FxBuf w' base v' (ls ++ [f]) → w.grownBy w' v.ownBlock → wpList Tryz.prog ops Q rest (a.put o.dst v') w') : wpList Tryz.prog ops Q (o :: rest) a w := by
  obtain ⟨i0, hi, hz0, hz1, hz2⟩ := info_parts Tryz.infoFx
  refine wpList_append_own _ hgd s x 36 ho base 46 i0 _ 7 64 Tryz.uFxsF hi hz0 hz1 hz2 rfl (by decide) v ls.length (fxV ls) hs hown ⟨q, 0, none⟩ 1 1 f.cells hx rfl ?_ ?_ (by unfold maxLen; omega) (by omega) hbase ?_
  · intro j u hu
    rw [Addr_add, Nat.zero_add, cell_of_heap hq]
    simpa [Fx.cells] using hu
  · intro u hu
    simp only [Fx.cells, List.mem_cons, List.not_mem_nil, or_false] at hu
    rcases hu with rfl | rfl | rfl | rfl | rfl | rfl | rfl <;> rfl
  · intro v' w' h1 h2 _
    refine h v' w' ?_ h2
    unfold FxBuf
    rw [fxV_snoc, List.length_append]
    exact h1
end Go.Proofs.YtlblcbgmmfjdjaaGreatDoor
/- slices.SortFunc, slices.Clone, slices.Equal at a row of fixups: the library's layings (made by the kit's tool lay-plain). -/
namespace Go.Proofs
open Go.Shelf
def Tryz.sortFx_ren : Go.Shelf.Ren := ⟨fun | 6 => 44 | 15 => 53 | 14 => 52 | 28 => 81 | 29 => 82 | 20 => 73 | 21 => 74 | 22 => 75 | 23 => 76 | 24 => 77 | 25 => 78 | 26 => 79 | 27 => 80 | 46 => 97 | 47 => 98 | 48 => 99 | 49 => 100 | 50 => 101 | 57 => 104 | n => n, fun | 22 => 36 | 24 => 46 | 25 => 79 | 3 => 3 | 39 => 54 | 0 => 0 | 53 => 28 | 55 => 22 | 4 => 4 | 46 => 125 | 45 => 124 | 50 => 129 | 5 => 5 | 9 => 9 | 66 => 154 | 70 => 158 | 76 => 162 | 77 => 163 | n => n, fun | n => n⟩
theorem Tryz.sortFx : Go.Proofs.SlLaysF0.n6 Tryz.prog Tryz.sortFx_ren := {
  mixed := by kernel_rfl
  f6 := ⟨Tryz.f44.name, by decide, Tryz.func44.trans (congrArg some (by kernel_rfl))⟩
  f14 := ⟨Tryz.f52.name, by decide, Tryz.func52.trans (congrArg some (by kernel_rfl))⟩
  f15 := Tryz.func53.trans (congrArg some (by kernel_rfl))
  f20 := ⟨Tryz.f73.name, by decide, Tryz.func73.trans (congrArg some (by kernel_rfl))⟩
  f21 := ⟨Tryz.f74.name, by decide, Tryz.func74.trans (congrArg some (by kernel_rfl))⟩
  f22 := ⟨Tryz.f75.name, by decide, Tryz.func75.trans (congrArg some (by kernel_rfl))⟩
  f23 := ⟨Tryz.f76.name, by decide, Tryz.func76.trans (congrArg some (by kernel_rfl))⟩
  f24 := ⟨Tryz.f77.name, by decide, Tryz.func77.trans (congrArg some (by kernel_rfl))⟩
  f25 := ⟨Tryz.f78.name, by decide, Tryz.func78.trans (congrArg some (by kernel_rfl))⟩
  f26 := ⟨Tryz.f79.name, by decide, Tryz.func79.trans (congrArg some (by kernel_rfl))⟩
  f27 := ⟨Tryz.f80.name, by decide, Tryz.func80.trans (congrArg some (by kernel_rfl))⟩
  f28 := Tryz.func81.trans (congrArg some (by kernel_rfl))
  f29 := Tryz.func82.trans (congrArg some (by kernel_rfl))
  f46 := ⟨Tryz.f97.name, by decide, Tryz.func97.trans (congrArg some (by kernel_rfl))⟩
  f47 := Tryz.func98.trans (congrArg some (by kernel_rfl))
  f48 := Tryz.func99.trans (congrArg some (by kernel_rfl))
  f49 := ⟨Tryz.f100.name, by decide, Tryz.func100.trans (congrArg some (by kernel_rfl))⟩
  f50 := ⟨Tryz.f101.name, by decide, Tryz.func101.trans (congrArg some (by kernel_rfl))⟩
  f57 := ⟨Tryz.f104.name, by decide, Tryz.func104.trans (congrArg some (by kernel_rfl))⟩
  t0 := Tryz.underlying0
  a0 := Tryz.isAgg0
  z0 := Tryz.sizeOf0
  v0 := Tryz.zeroValue0
  t3 := Tryz.underlying3
  a3 := Tryz.isAgg3
  z3 := Tryz.sizeOf3
  v3 := Tryz.zeroValue3
  t4 := Tryz.underlying4
  a4 := Tryz.isAgg4
  z4 := Tryz.sizeOf4
  v4 := Tryz.zeroValue4
  t5 := Tryz.underlying5
  a5 := Tryz.isAgg5
  z5 := Tryz.sizeOf5
  v5 := Tryz.zeroValue5
  t9 := Tryz.underlying9
  a9 := Tryz.isAgg9
  z9 := Tryz.sizeOf9
  v9 := Tryz.zeroValue9
  t22 := Tryz.underlying36
  a22 := Tryz.isAgg36
  z22 := Tryz.sizeOf36
  v22 := Tryz.zeroValue36
  t25 := Tryz.underlying79
  a25 := Tryz.isAgg79
  z25 := Tryz.sizeOf79
  v25 := Tryz.zeroValue79
  t39 := Tryz.underlying54
  a39 := Tryz.isAgg54
  z39 := Tryz.sizeOf54
  v39 := Tryz.zeroValue54
  t45 := Tryz.underlying124
  a45 := Tryz.isAgg124
  z45 := Tryz.sizeOf124
  v45 := Tryz.zeroValue124
  t46 := Tryz.underlying125
  a46 := Tryz.isAgg125
  z46 := Tryz.sizeOf125
  v46 := Tryz.zeroValue125
  t50 := Tryz.underlying129
  a50 := Tryz.isAgg129
  z50 := Tryz.sizeOf129
  v50 := Tryz.zeroValue129
  t53 := Tryz.underlying28
  a53 := Tryz.isAgg28
  z53 := Tryz.sizeOf28
  v53 := Tryz.zeroValue28
  t55 := Tryz.underlying22
  a55 := Tryz.isAgg22
  z55 := Tryz.sizeOf22
  v55 := Tryz.zeroValue22
  t66 := Tryz.underlying154
  a66 := Tryz.isAgg154
  z66 := Tryz.sizeOf154
  v66 := Tryz.zeroValue154
  t70 := Tryz.underlying158
  a70 := Tryz.isAgg158
  z70 := Tryz.sizeOf158
  v70 := Tryz.zeroValue158
  t76 := Tryz.underlying162
  a76 := Tryz.isAgg162
  z76 := Tryz.sizeOf162
  v76 := Tryz.zeroValue162
  t77 := Tryz.underlying163
  a77 := Tryz.isAgg163
  z77 := Tryz.sizeOf163
  v77 := Tryz.zeroValue163 }
def Tryz.cloneFx_ren : Go.Shelf.Ren := ⟨fun | 41 => 43 | n => n, fun | 22 => 36 | 23 => 46 | 4 => 4 | n => n, fun | n => n⟩
theorem Tryz.cloneFx : Go.Proofs.SlLaysE0.n41 Tryz.prog Tryz.cloneFx_ren := {
  mixed := by kernel_rfl
  f41 := ⟨Tryz.f43.name, by decide, Tryz.func43.trans (congrArg some (by kernel_rfl))⟩
  t4 := Tryz.underlying4
  a4 := Tryz.isAgg4
  z4 := Tryz.sizeOf4
  v4 := Tryz.zeroValue4
  t22 := Tryz.underlying36
  a22 := Tryz.isAgg36
  z22 := Tryz.sizeOf36
  v22 := Tryz.zeroValue36 }
end Go.Proofs
