/- Lemmas, laid together: part 28 of 46. Conditions: none but each lemma's own. -/
import Derived.Test.YtaipelkegemoeaaGreatDoorJ27
import Derived.Test.YtaipelkegemoeaaGreatDoorJ25
import Derived.Shelf.SlSortCmp.WholeK
import Derived.Shelf.SlicesE.Clone
import Derived.Shelf.SlicesQ.Equal
import Derived.Test.YtaipelkegemoeaaGreatDoorProg
/- Rows of fixups: read, made, appended to; two fixups compared. -/
namespace Go.Proofs.YtaipelkegemoeaaGreatDoor
open Go.RowKit
set_option maxRecDepth 100000

def Fx.zero : Fx := ⟨0, 0, 0, 0, ⟨#[]⟩, 0, false⟩
def Fx.cells (f : Fx) : List Value := [.int .u64 f.at_, .int .i64 f.kind, .int .u64 f.tgt, .int .i64 f.ord, .string f.sym, .int .i64 f.add, .bool f.weak]
/-- The slice value v of fixups reads as ls. -/
def FxRd (w : World) (v : Value) (ls : List Fx) : Prop :=
  ∃ a n cap, v = .slice a n cap ∧ n = ls.length ∧ n ≤ cap ∧ cap ≤ maxLen ∧
    (ls ≠ [] → ∃ b off, a = some ⟨b, off, none⟩ ∧ b < w.heap.size ∧ ∀ j, j < ls.length → ∀ c, c < 7 → w.cell? ⟨b, off + j * 7 + c, none⟩ = (ls.getD j .zero).cells[c]?)
theorem FxRd.frame {w w' : World} {v : Value} {ls : List Fx} (h : FxRd w v ls) (k : Chg [] w w') : FxRd w' v ls := by
  obtain ⟨a, n, cap, rfl, hn, hc, hm, hx⟩ := h
  refine ⟨a, n, cap, rfl, hn, hc, hm, fun hne => ?_⟩
  obtain ⟨b, off, rfl, hb, hcell⟩ := hx hne
  refine ⟨b, off, rfl, Nat.lt_of_lt_of_le hb k.size, fun j hj c hc => ?_⟩
  have h1 := hcell j hj c hc
  cases hv : (ls.getD j .zero).cells[c]? with
  | none => have : c < (ls.getD j .zero).cells.length := hc; rw [List.getElem?_eq_getElem this] at hv; cases hv
  | some u => rw [hv] at h1; exact k.cell h1 (by simp)
theorem FxRd.at {w : World} {b off j : Nat} {f : Fx} (h : ∀ c, c < 7 → w.cell? ⟨b, off + j * 7 + c, none⟩ = f.cells[c]?) :
    w.cell? ⟨b, off + j * 7, none⟩ = some (.int .u64 f.at_) ∧ w.cell? ⟨b, off + j * 7 + 1, none⟩ = some (.int .i64 f.kind) ∧ w.cell? ⟨b, off + j * 7 + 2, none⟩ = some (.int .u64 f.tgt) ∧ w.cell? ⟨b, off + j * 7 + 3, none⟩ = some (.int .i64 f.ord) ∧ w.cell? ⟨b, off + j * 7 + 4, none⟩ = some (.string f.sym) ∧ w.cell? ⟨b, off + j * 7 + 5, none⟩ = some (.int .i64 f.add) ∧ w.cell? ⟨b, off + j * 7 + 6, none⟩ = some (.bool f.weak) :=
  ⟨h 0 (by decide), h 1 (by decide), h 2 (by decide), h 3 (by decide), h 4 (by decide), h 5 (by decide), h 6 (by decide)⟩
def fxV (ls : List Fx) : List Value := ls.flatMap Fx.cells
theorem fxV_len (ls : List Fx) : (fxV ls).length = ls.length * 7 := by
  induction ls with
  | nil => rfl
  | cons s r ih => show (s.cells ++ fxV r).length = _; rw [List.length_append, ih, List.length_cons]; show 7 + _ = _; omega
theorem fxV_get : ∀ (ls : List Fx) (j c : Nat), j < ls.length → c < 7 → (fxV ls)[j * 7 + c]? = (ls.getD j .zero).cells[c]?
  | [], j, c, hj, _ => by simp at hj
  | s :: r, 0, c, _, hc => by
    show (s.cells ++ fxV r)[0 * 7 + c]? = _
    rw [Nat.zero_mul, Nat.zero_add, List.getElem?_append_left (by show c < 7; exact hc)]
    rfl
  | s :: r, j + 1, c, hj, hc => by
    show (s.cells ++ fxV r)[(j + 1) * 7 + c]? = _
    rw [List.getElem?_append_right (by show 7 ≤ _; omega)]
    have := fxV_get r j c (by simpa using hj) hc
    show (fxV r)[(j + 1) * 7 + c - 7]? = _
    rw [show (j + 1) * 7 + c - 7 = j * 7 + c by omega, this]
    simp
theorem fxV_snoc (ls : List Fx) (s : Fx) : fxV (ls ++ [s]) = fxV ls ++ s.cells := by simp [fxV]
/-- A row of fixups that is the call's own. -/
def FxBuf (w : World) (base : Nat) (v : Value) (ls : List Fx) : Prop := w.ownsRow base 46 7 v ls.length (fxV ls)
theorem FxBuf.nil (w : World) (base : Nat) : FxBuf w base (.slice none 0 0) [] := ⟨rfl, .inl ⟨rfl, rfl⟩⟩
theorem FxBuf.rd {w : World} {base : Nat} {v : Value} {ls : List Fx} (h : FxBuf w base v ls) : FxRd w v ls := by
  obtain ⟨hl, hv⟩ := h
  rcases hv with ⟨rfl, h0⟩ | ⟨g, cap, cur, rfl, hb, hg, hnc, hcm, hcs, htake⟩
  · have : ls = [] := List.eq_nil_of_length_eq_zero h0
    subst this
    exact ⟨_, _, _, rfl, rfl, Nat.le_refl _, Nat.zero_le _, fun h => absurd rfl h⟩
  · refine ⟨_, _, _, rfl, rfl, hnc, hcm, fun _ => ⟨g, 0, rfl, lt_of_heap hg, fun j hj c hc => ?_⟩⟩
    rw [cell_of_heap hg, ← fxV_get ls j c hj hc, ← htake, List.getElem?_take, if_pos (by omega), Nat.zero_add]
    simp
theorem FxBuf.pure {w w' : World} {base : Nat} {v : Value} {ls : List Fx} (h : FxBuf w base v ls) (k : Chg [] w w') : FxBuf w' base v ls := owned_frame12 h k (fun _ _ hm => by cases hm)
theorem FxBuf.frame {w w' : World} {base : Nat} {v : Value} {ls : List Fx} (h : FxBuf w base v ls) {S : List Nat} (k : Chg S w w') (hn : ∀ b, v.ownBlock = some b → b ∉ S) : FxBuf w' base v ls := owned_frame12 h k hn
theorem FxBuf.mono {w : World} {base base' : Nat} {v : Value} {ls : List Fx} (h : FxBuf w base v ls) (hb : base' ≤ base) : FxBuf w base' v ls := owned_base12 h hb
theorem Tryz.infoFx : (Tryz.prog.info? 46).map (fun i => (i.zero, i.size, i.bytes)) = some (some (.agg #[.int .u64 0, .int .i64 0, .int .u64 0, .int .i64 0, .string ⟨#[]⟩, .int .i64 0, .bool false]), 7, 64) := by kernel_rfl
theorem Tryz.uFxsF : Tryz.prog.underlying 23 = some (.slice 46) := by kernel_rfl

theorem fx_eqv (a b : Fx) : decide (a = b) = (decide (a.at_ = b.at_) && (decide (a.kind = b.kind) && (decide (a.tgt = b.tgt) && (decide (a.ord = b.ord) && (decide (a.sym.toList = b.sym.toList) && (decide (a.add = b.add) && decide (a.weak = b.weak))))))) := by
  obtain ⟨a1, a2, a3, a4, a5, a6, a7⟩ := a
  obtain ⟨b1, b2, b3, b4, b5, b6, b7⟩ := b
  have h5 : decide (a5.toList = b5.toList) = decide (a5 = b5) := decide_eq_decide.2 ⟨fun e => by rw [Lib.toList_data, Lib.toList_data] at e; exact ByteArray.ext (Array.toList_inj.1 e), fun e => by rw [e]⟩
  simp only [h5]
  simp [Bool.decide_and]
set_option maxHeartbeats 2000000 in
theorem fx_eql (a b : Fx) (W : World) : (binOp .eql 46 (.agg #[.int .u64 a.at_, .int .i64 a.kind, .int .u64 a.tgt, .int .i64 a.ord, .string a.sym, .int .i64 a.add, .bool a.weak]) (.agg #[.int .u64 b.at_, .int .i64 b.kind, .int .u64 b.tgt, .int .i64 b.ord, .string b.sym, .int .i64 b.add, .bool b.weak])).run Tryz.prog W = .ok (.bool (decide (a = b))) W := by
  rw [fx_eqv]
  go_simp
  (repeat' split) <;> simp [*]
set_option maxHeartbeats 2000000 in
theorem fx_neq (a b : Fx) (W : World) : (binOp .neq 46 (.agg #[.int .u64 a.at_, .int .i64 a.kind, .int .u64 a.tgt, .int .i64 a.ord, .string a.sym, .int .i64 a.add, .bool a.weak]) (.agg #[.int .u64 b.at_, .int .i64 b.kind, .int .u64 b.tgt, .int .i64 b.ord, .string b.sym, .int .i64 b.add, .bool b.weak])).run Tryz.prog W = .ok (.bool (!decide (a = b))) W := by
  rw [fx_eqv]
  go_simp
  (repeat' split) <;> simp [*]

end Go.Proofs.YtaipelkegemoeaaGreatDoor
/- Writes into a row of fixups; append of a fixup. -/
namespace Go.Proofs.YtaipelkegemoeaaGreatDoor
open Go.RowKit
set_option maxRecDepth 100000

def set7 (l : List Value) (o : Nat) (f : Fx) : List Value :=
  ((((((l.set o (.int .u64 f.at_)).set (o + 1) (.int .i64 f.kind)).set (o + 2) (.int .u64 f.tgt)).set (o + 3) (.int .i64 f.ord)).set (o + 4) (.string f.sym)).set (o + 5) (.int .i64 f.add)).set (o + 6) (.bool f.weak)
theorem fxV_set (f : Fx) : ∀ (ls : List Fx) (j : Nat), j < ls.length → set7 (fxV ls) (j * 7) f = fxV (ls.set j f)
  | [], j, h => by simp at h
  | s :: r, 0, _ => by
    show set7 (s.cells ++ fxV r) 0 f = f.cells ++ fxV r
    simp [set7, Fx.cells]
  | s :: r, j + 1, h => by
    have ih := fxV_set f r j (by simpa using h)
    show set7 (s.cells ++ fxV r) ((j + 1) * 7) f = s.cells ++ fxV (r.set j f)
    rw [← ih, show (j + 1) * 7 = j * 7 + 7 by omega]
    have e : ∀ (l : List Value) (i : Nat) (u : Value), (s.cells ++ l).set (7 + i) u = s.cells ++ l.set i u := fun l i u => by
      rw [List.set_append_right _ _ (by show 7 ≤ 7 + i; omega)]
      show s.cells ++ l.set (7 + i - 7) u = _
      rw [Nat.add_sub_cancel_left]
    unfold set7
    rw [show j * 7 + 7 = 7 + j * 7 by omega, e, show 7 + j * 7 + 1 = 7 + (j * 7 + 1) by omega, e, show 7 + j * 7 + 2 = 7 + (j * 7 + 2) by omega, e, show 7 + j * 7 + 3 = 7 + (j * 7 + 3) by omega, e, show 7 + j * 7 + 4 = 7 + (j * 7 + 4) by omega, e, show 7 + j * 7 + 5 = 7 + (j * 7 + 5) by omega, e, show 7 + j * 7 + 6 = 7 + (j * 7 + 6) by omega, e]
/-- The world behind a fixup's being written. -/
def setW (w : World) (g o : Nat) (f : Fx) : World :=
  ((((((w.setCell ⟨g, o, none⟩ (.int .u64 f.at_)).setCell ⟨g, o + 1, none⟩ (.int .i64 f.kind)).setCell ⟨g, o + 2, none⟩ (.int .u64 f.tgt)).setCell ⟨g, o + 3, none⟩ (.int .i64 f.ord)).setCell ⟨g, o + 4, none⟩ (.string f.sym)).setCell ⟨g, o + 5, none⟩ (.int .i64 f.add)).setCell ⟨g, o + 6, none⟩ (.bool f.weak)
theorem setW_chg (w : World) (g o : Nat) (f : Fx) : Chg [g] w (setW w g o f) := by
  unfold setW
  exact (((((((Chg.refl _ _).setCell _ _ (.inl (by simp))).setCell _ _ (.inl (by simp))).setCell _ _ (.inl (by simp))).setCell _ _ (.inl (by simp))).setCell _ _ (.inl (by simp))).setCell _ _ (.inl (by simp))).setCell _ _ (.inl (by simp))
theorem FxBuf.set {w : World} {base : Nat} {v : Value} {ls : List Fx} (h : FxBuf w base v ls) {g n cap : Nat} (hv : v = .slice (some ⟨g, 0, none⟩) n cap) (j : Nat) (hj : j < ls.length) (f : Fx) : FxBuf (setW w g (j * 7) f) base v (ls.set j f) := by
  obtain ⟨hl, hx⟩ := h
  rcases hx with ⟨rfl, h0⟩ | ⟨g', cap', cur, hv', hb, hg, hnc, hcm, hcs, htake⟩
  · omega
  · rw [hv'] at hv
    cases hv
    subst hv'
    have h7 := heap_setCell (heap_setCell (heap_setCell (heap_setCell (heap_setCell (heap_setCell (heap_setCell hg (j * 7) (.int .u64 f.at_)) (j * 7 + 1) (.int .i64 f.kind)) (j * 7 + 2) (.int .u64 f.tgt)) (j * 7 + 3) (.int .i64 f.ord)) (j * 7 + 4) (.string f.sym)) (j * 7 + 5) (.int .i64 f.add)) (j * 7 + 6) (.bool f.weak)
    refine ⟨by rw [fxV_len], .inr ⟨_, _, _, by rw [List.length_set], hb, h7, by rw [List.length_set]; exact hnc, hcm, by simp [hcs], ?_⟩⟩
    rw [List.length_set, ← fxV_set f ls j hj, ← htake]
    unfold set7
    simp only [Array.toList_setIfInBounds, List.take_set]
/-- A row that is not empty. -/
theorem FxBuf.at {w : World} {base : Nat} {v : Value} {ls : List Fx} (h : FxBuf w base v ls) (hne : ls.length ≠ 0) :
    ∃ g cap, v = .slice (some ⟨g, 0, none⟩) ls.length cap ∧ base ≤ g ∧ ls.length ≤ cap ∧ cap ≤ maxLen ∧ v.ownBlock = some g ∧ (∀ j, w.frozen? ⟨g, j, none⟩ = false) ∧ ∀ j, j < ls.length → ∀ c, c < 7 → w.cell? ⟨g, j * 7 + c, none⟩ = (ls.getD j .zero).cells[c]? := by
  obtain ⟨hl, hv⟩ := h
  rcases hv with ⟨rfl, h0⟩ | ⟨g, cap, cur, rfl, hb, hg, hnc, hcm, hcs, htake⟩
  · exact absurd h0 hne
  · refine ⟨g, cap, rfl, hb, hnc, hcm, rfl, fun j => frozen_of_heap hg j, fun j hj c hc => ?_⟩
    rw [cell_of_heap hg, ← fxV_get ls j c hj hc, ← htake, List.getElem?_take, if_pos (by omega)]
    simp
theorem app_fx {ops : Array Oper} {rest : List Oper} {o : Oper} {a : Act} {Q : Exit → Act → World → Prop} {w : World} (hgd : o.guard = none) (s x : Operand)
    (ho : o.op = .call { callee := .builtin .append, args := #[s, x], argTypes := #[23, 23] }) (base : Nat) (v : Value) (ls : List Fx) (hs : a.eval s = v) (hown : FxBuf w base v ls)
    (q : Nat) (f : Fx) (hx : a.eval x = .slice (some ⟨q, 0, none⟩) 1 1) (hq : w.heap[q]? = some (.cells #[.int .u64 f.at_, .int .i64 f.kind, .int .u64 f.tgt, .int .i64 f.ord, .string f.sym, .int .i64 f.add, .bool f.weak] 46 (0, 0)))
    (hlen : ls.length ≤ 1000000) (hbase : base ≤ w.heap.size)
    (h : ∀ v' w', FxBuf w' base v' (ls ++ [f]) → w.grownBy w' v.ownBlock → wpList Tryz.prog ops Q rest (a.put o.dst v') w') : wpList Tryz.prog ops Q (o :: rest) a w := by
  obtain ⟨i0, hi, hz0, hz1, hz2⟩ := info_parts Tryz.infoFx
  refine wpList_append_own _ hgd s x 23 ho base 46 i0 _ 7 64 Tryz.uFxsF hi hz0 hz1 hz2 rfl (by decide) v ls.length (fxV ls) hs hown ⟨q, 0, none⟩ 1 1 f.cells hx rfl ?_ ?_ (by unfold maxLen; omega) (by omega) hbase ?_
  · intro j u hu
    rw [Addr_add, Nat.zero_add, cell_of_heap hq]
    simpa [Fx.cells] using hu
  · intro u hu
    simp only [Fx.cells, List.mem_cons, List.not_mem_nil, or_false] at hu
    rcases hu with rfl | rfl | rfl | rfl | rfl | rfl | rfl <;> rfl
  · intro v' w' h1 h2 _
    refine h v' w' ?_ h2
    unfold FxBuf
    rw [fxV_snoc, List.length_append]
    exact h1
end Go.Proofs.YtaipelkegemoeaaGreatDoor
/- slices.SortFunc, slices.Clone, slices.Equal at a row of fixups: the library's layings (made by the kit's tool lay-plain). -/
namespace Go.Proofs
open Go.Shelf
def Tryz.sortFx_ren : Go.Shelf.Ren := ⟨fun | 6 => 62 | 15 => 80 | 14 => 79 | 28 => 109 | 29 => 110 | 20 => 101 | 21 => 102 | 22 => 103 | 23 => 104 | 24 => 105 | 25 => 106 | 26 => 107 | 27 => 108 | 46 => 125 | 47 => 126 | 48 => 127 | 49 => 128 | 50 => 129 | 57 => 137 | n => n, fun | 22 => 23 | 24 => 46 | 25 => 89 | 3 => 3 | 39 => 74 | 0 => 0 | 53 => 25 | 55 => 28 | 4 => 4 | 46 => 160 | 45 => 159 | 50 => 164 | 5 => 5 | 9 => 9 | 66 => 187 | 70 => 191 | 76 => 208 | 77 => 209 | n => n, fun | n => n⟩
theorem Tryz.sortFx : Go.Proofs.SlLaysF0.n6 Tryz.prog Tryz.sortFx_ren := {
  mixed := by kernel_rfl
  f6 := ⟨Tryz.f62.name, by decide, Tryz.func62.trans (congrArg some (by kernel_rfl))⟩
  f14 := ⟨Tryz.f79.name, by decide, Tryz.func79.trans (congrArg some (by kernel_rfl))⟩
  f15 := Tryz.func80.trans (congrArg some (by kernel_rfl))
  f20 := ⟨Tryz.f101.name, by decide, Tryz.func101.trans (congrArg some (by kernel_rfl))⟩
  f21 := ⟨Tryz.f102.name, by decide, Tryz.func102.trans (congrArg some (by kernel_rfl))⟩
  f22 := ⟨Tryz.f103.name, by decide, Tryz.func103.trans (congrArg some (by kernel_rfl))⟩
  f23 := ⟨Tryz.f104.name, by decide, Tryz.func104.trans (congrArg some (by kernel_rfl))⟩
  f24 := ⟨Tryz.f105.name, by decide, Tryz.func105.trans (congrArg some (by kernel_rfl))⟩
  f25 := ⟨Tryz.f106.name, by decide, Tryz.func106.trans (congrArg some (by kernel_rfl))⟩
  f26 := ⟨Tryz.f107.name, by decide, Tryz.func107.trans (congrArg some (by kernel_rfl))⟩
  f27 := ⟨Tryz.f108.name, by decide, Tryz.func108.trans (congrArg some (by kernel_rfl))⟩
  f28 := Tryz.func109.trans (congrArg some (by kernel_rfl))
  f29 := Tryz.func110.trans (congrArg some (by kernel_rfl))
  f46 := ⟨Tryz.f125.name, by decide, Tryz.func125.trans (congrArg some (by kernel_rfl))⟩
  f47 := Tryz.func126.trans (congrArg some (by kernel_rfl))
  f48 := Tryz.func127.trans (congrArg some (by kernel_rfl))
  f49 := ⟨Tryz.f128.name, by decide, Tryz.func128.trans (congrArg some (by kernel_rfl))⟩
  f50 := ⟨Tryz.f129.name, by decide, Tryz.func129.trans (congrArg some (by kernel_rfl))⟩
  f57 := ⟨Tryz.f137.name, by decide, Tryz.func137.trans (congrArg some (by kernel_rfl))⟩
  t0 := Tryz.underlying0
  a0 := Tryz.isAgg0
  z0 := Tryz.sizeOf0
  v0 := Tryz.zeroValue0
  t3 := Tryz.underlying3
  a3 := Tryz.isAgg3
  z3 := Tryz.sizeOf3
  v3 := Tryz.zeroValue3
  t4 := Tryz.underlying4
  a4 := Tryz.isAgg4
  z4 := Tryz.sizeOf4
  v4 := Tryz.zeroValue4
  t5 := Tryz.underlying5
  a5 := Tryz.isAgg5
  z5 := Tryz.sizeOf5
  v5 := Tryz.zeroValue5
  t9 := Tryz.underlying9
  a9 := Tryz.isAgg9
  z9 := Tryz.sizeOf9
  v9 := Tryz.zeroValue9
  t22 := Tryz.underlying23
  a22 := Tryz.isAgg23
  z22 := Tryz.sizeOf23
  v22 := Tryz.zeroValue23
  t25 := Tryz.underlying89
  a25 := Tryz.isAgg89
  z25 := Tryz.sizeOf89
  v25 := Tryz.zeroValue89
  t39 := Tryz.underlying74
  a39 := Tryz.isAgg74
  z39 := Tryz.sizeOf74
  v39 := Tryz.zeroValue74
  t45 := Tryz.underlying159
  a45 := Tryz.isAgg159
  z45 := Tryz.sizeOf159
  v45 := Tryz.zeroValue159
  t46 := Tryz.underlying160
  a46 := Tryz.isAgg160
  z46 := Tryz.sizeOf160
  v46 := Tryz.zeroValue160
  t50 := Tryz.underlying164
  a50 := Tryz.isAgg164
  z50 := Tryz.sizeOf164
  v50 := Tryz.zeroValue164
  t53 := Tryz.underlying25
  a53 := Tryz.isAgg25
  z53 := Tryz.sizeOf25
  v53 := Tryz.zeroValue25
  t55 := Tryz.underlying28
  a55 := Tryz.isAgg28
  z55 := Tryz.sizeOf28
  v55 := Tryz.zeroValue28
  t66 := Tryz.underlying187
  a66 := Tryz.isAgg187
  z66 := Tryz.sizeOf187
  v66 := Tryz.zeroValue187
  t70 := Tryz.underlying191
  a70 := Tryz.isAgg191
  z70 := Tryz.sizeOf191
  v70 := Tryz.zeroValue191
  t76 := Tryz.underlying208
  a76 := Tryz.isAgg208
  z76 := Tryz.sizeOf208
  v76 := Tryz.zeroValue208
  t77 := Tryz.underlying209
  a77 := Tryz.isAgg209
  z77 := Tryz.sizeOf209
  v77 := Tryz.zeroValue209 }
end Go.Proofs
/- A row of fixups, sorted (by the library's contract). -/
namespace Go.Proofs.YtaipelkegemoeaaGreatDoor
open Go.RowKit Go.Sort
set_option maxRecDepth 100000

instance : Inhabited Fx := ⟨Fx.zero⟩
theorem swoF : SWO (ltOf ordF) where
  irrefl x := by unfold ltOf; rw [ord_self]; rfl
  trans x y z h1 h2 := by
    unfold ltOf at *
    rw [decide_eq_true_eq] at *
    exact ord_lt_trans h1 h2
  ntrans x y z h1 h2 := by
    unfold ltOf at *
    rw [decide_eq_false_iff_not] at *
    intro h3
    have a1 := ord_anti x y
    have a2 := ord_anti y z
    have a3 := ord_anti x z
    have := ordF_is.trans z y x (by omega) (by omega)
    omega
theorem sort_buf {w : World} {base g n cap : Nat} {ls : List Fx} (h : FxBuf w base (.slice (some ⟨g, 0, none⟩) n cap) ls) (m : Nat) (d : Array Fx) (os : Array Obj) (hd : d.size = ls.length) :
    FxBuf (sortWorldK Fx.cells 7 w g 0 m d os) base (.slice (some ⟨g, 0, none⟩) n cap) d.toList ∧ Chg [g] w (sortWorldK Fx.cells 7 w g 0 m d os) := by
  obtain ⟨hl, hx⟩ := h
  rcases hx with ⟨h1, _⟩ | ⟨g', cap', cur, hv', hb, hg, hnc, hcm, hcs, htake⟩
  · cases h1
  · cases hv'
    have hgl := lt_of_heap hg
    have hdl : d.toList.length = ls.length := by simpa using hd
    have hheap : (sortWorldK Fx.cells 7 w g 0 m d os).heap = w.heap.modify g (onCells (putCells id 0 (flatK Fx.cells 7 d))) ++ os := rfl
    refine ⟨⟨by rw [fxV_len], .inr ⟨g, cap, putCells id 0 (flatK Fx.cells 7 d) cur, by rw [hdl], hb, ?_, by rw [hdl]; exact hnc, hcm, ?_, ?_⟩⟩, ⟨rfl, rfl, rfl, ?_, fun k hk hn => ?_⟩⟩
    · rw [hheap, Array.getElem?_append_left (by rw [Array.size_modify]; exact hgl), Array.getElem?_modify, if_pos rfl, hg]
      rfl
    · simp [putCells, hcs]
    · apply List.ext_getElem?
      intro t
      rw [Array.length_toList, List.getElem?_take]
      by_cases ht : t < d.size * 7
      · rw [if_pos ht]
        have h2 := fxV_get d.toList (t / 7) (t % 7) (by rw [Array.length_toList]; omega) (Nat.mod_lt _ (by decide))
        rw [show t / 7 * 7 + t % 7 = t by omega] at h2
        rw [h2, Array.getElem?_toList]
        have htc : t < cur.size := by rw [hcs]; have : d.size * 7 ≤ cap * 7 := Nat.mul_le_mul_right _ (by omega); omega
        have h3 : (putCells id 0 (flatK Fx.cells 7 d) cur)[t]? = some ((flatK Fx.cells 7 d)[t]!) := by
          unfold putCells
          rw [Array.getElem?_mapIdx, Array.getElem?_eq_getElem htc]
          simp [ht]
        rw [h3, get_flatK _ _ _ _ ht]
        have h4 : d.toList.getD (t / 7) Fx.zero = d[t / 7]! := by
          have : t / 7 < d.size := by omega
          simp [List.getD_eq_getElem?_getD, this]
        rw [h4]
        have h5 : t % 7 < (Fx.cells d[t / 7]!).length := Nat.mod_lt _ (by decide)
        rw [List.getElem?_eq_getElem h5]
        exact congrArg some (getElem!_pos (Fx.cells d[t / 7]!) (t % 7) h5)
      · rw [if_neg ht, List.getElem?_eq_none (by rw [fxV_len, Array.length_toList]; omega)]
    · rw [hheap, Array.size_append, Array.size_modify]; omega
    · rw [hheap, Array.getElem?_append_left (by rw [Array.size_modify]; exact hk), Array.getElem?_modify, if_neg (by intro e; exact hn (by rw [e]; simp))]
theorem holds_buf {w : World} {base g n cap : Nat} {ls : List Fx} (h : FxBuf w base (.slice (some ⟨g, 0, none⟩) n cap) ls) : HoldsK Fx.cells 7 w g 0 ls.toArray := by
  obtain ⟨hl, hx⟩ := h
  rcases hx with ⟨h1, _⟩ | ⟨g', cap', cur, hv', hb, hg, hnc, hcm, hcs, htake⟩
  · cases h1
  · cases hv'
    intro t ht
    rw [size_flatK, List.size_toArray] at ht
    refine ⟨?_, frozen_of_heap hg _⟩
    have h2 := fxV_get ls (t / 7) (t % 7) (by omega) (Nat.mod_lt _ (by decide))
    rw [show t / 7 * 7 + t % 7 = t by omega] at h2
    rw [Nat.zero_add, cell_of_heap hg, get_flatK _ _ _ _ (by rw [List.size_toArray]; exact ht)]
    have h3 : cur[t]? = (fxV ls)[t]? := by
      rw [← htake, List.getElem?_take, if_pos ht]
      simp
    have h4 : ls.getD (t / 7) Fx.zero = ls.toArray[t / 7]! := by
      have : t / 7 < ls.length := by omega
      simp [List.getD_eq_getElem?_getD, this]
    have h5 : t % 7 < (Fx.cells ls.toArray[t / 7]!).length := Nat.mod_lt _ (by decide)
    rw [h3, h2, h4, List.getElem?_eq_getElem h5]
    exact congrArg some (getElem!_pos (Fx.cells ls.toArray[t / 7]!) (t % 7) h5).symm
theorem cmp_lays (blk off size : Nat) (w : World) : CmpLays Tryz.prog 37 #[] Fx.cells 7 ordF blk off size w :=
  fun _ _ _ _ x y => Order_g x y _

theorem Sort_any {w : World} {base g n cap : Nat} {ls : List Fx} (h : FxBuf w base (.slice (some ⟨g, 0, none⟩) n cap) ls) (hl : ls.length ≤ 1000000) :
    Calls Tryz.prog 62 #[.slice (some ⟨g, 0, none⟩) n cap, .func (.func 37) #[] #[]] w fun e w' =>
      e = .returned (.tuple #[]) ∧ ∃ ms : List Fx, FxBuf w' base (.slice (some ⟨g, 0, none⟩) n cap) ms ∧ ms.length = ls.length ∧ (∀ z, z ∈ ms ↔ z ∈ ls) ∧ SLfx ms ∧ Chg [g] w w' := by
  have hn : n = ls.length := by
    obtain ⟨_, hx⟩ := h
    rcases hx with ⟨h1, _⟩ | ⟨_, _, _, hv', _⟩
    · cases h1
    · cases hv'; rfl
  have hgl : g < w.heap.size := by
    obtain ⟨_, hx⟩ := h
    rcases hx with ⟨h1, _⟩ | ⟨_, _, _, hv', _, hg, _⟩
    · cases h1
    · cases hv'; exact lt_of_heap hg
  have hc := AnyQ.slices_SortFunc Tryz.sortFx 7 Tryz.isAgg46 Tryz.sizeOf46 Fx.cells (fun _ => rfl) (fun x v hv => by simp only [Fx.cells, List.mem_cons, List.not_mem_nil, or_false] at hv; rcases hv with rfl | rfl | rfl | rfl | rfl | rfl | rfl <;> rfl) ordF swoF 37 #[] g 0 cap ls.toArray w
    (enters_of Tryz.func37 (by kernel_rfl) rfl) (cmp_lays _ _ _ _) (holds_buf h) hgl (by rw [List.size_toArray]; omega)
  rw [hn]
  refine Calls.mono (show Calls Tryz.prog 62 #[.slice (some ⟨g, 0, none⟩) ls.length cap, .func (.func 37) #[] #[]] w _ from hc) ?_
  rintro e w' ⟨rfl, d', m, os, ⟨hs, _, hp⟩, hsd, rfl⟩
  rw [hn] at h
  have e0 : ls.toArray.size = ls.length := by simp
  rw [e0] at hs hp hsd
  have hdl : d'.toList.length = ls.length := by simpa using hs
  have hb := sort_buf h m d' os hs
  have hx1 : d'.extract 0 ls.length = d' := by rw [← hs]; simp
  have hx2 : ls.toArray.extract 0 ls.length = ls.toArray := by simp
  rw [hx1, hx2] at hp
  refine ⟨rfl, d'.toList, hb.1, hdl, fun z => hp.mem_iff, ?_, hb.2⟩
  unfold SLfx
  rw [List.pairwise_iff_getElem]
  intro i j h1 h2 hij
  have h1' : i < d'.size := by rw [hs, ← hdl]; exact h1
  have h2' : j < d'.size := by rw [hs, ← hdl]; exact h2
  have := hsd i j (Nat.zero_le _) hij (by omega)
  unfold ltOf at this
  rw [decide_eq_false_iff_not, getElem!_pos d' j h2', getElem!_pos d' i h1'] at this
  simpa using this
end Go.Proofs.YtaipelkegemoeaaGreatDoor
/- append of a row of fixups; slices.Clone of it. -/
namespace Go.Proofs.YtaipelkegemoeaaGreatDoor
open Go.RowKit
set_option maxRecDepth 100000

theorem fx_one (ls : List Fx) : ∀ u ∈ fxV ls, u.oneCell' = true := by
  intro u hu
  obtain ⟨f, _, hf⟩ := List.mem_flatMap.1 hu
  simp only [Fx.cells, List.mem_cons, List.not_mem_nil, or_false] at hf
  rcases hf with rfl | rfl | rfl | rfl | rfl | rfl | rfl <;> rfl
theorem FxRd.cells {w : World} {ad : Addr} {n cap : Nat} {ls : List Fx} (h : FxRd w (.slice (some ad) n cap) ls) : n = ls.length ∧ ∀ j u, (fxV ls)[j]? = some u → w.cell? (ad.add j) = some u := by
  obtain ⟨a', n', c', he, hn, _, _, hx⟩ := h
  cases he
  refine ⟨hn, fun j u hu => ?_⟩
  have hj : j < ls.length * 7 := by rw [← fxV_len]; exact (List.getElem?_eq_some_iff.1 hu).1
  obtain ⟨b, off, he, _, hc⟩ := hx (by rintro rfl; simp at hj)
  cases he
  have h1 := hc (j / 7) (by omega) (j % 7) (Nat.mod_lt _ (by decide))
  have h2 := fxV_get ls (j / 7) (j % 7) (by omega) (Nat.mod_lt _ (by decide))
  rw [show j / 7 * 7 + j % 7 = j by omega, hu] at h2
  rw [← h2, Nat.add_assoc, show j / 7 * 7 + j % 7 = j by omega] at h1
  rw [Addr_add]
  exact h1
theorem app_fxs {w : World} {ops : Array Oper} {rest : List Oper} {o : Oper} {a : Act} {Q : Exit → Act → World → Prop} (hgd : o.guard = none) (s x : Operand)
    (ho : o.op = .call { callee := .builtin .append, args := #[s, x], argTypes := #[23, 23] }) (base : Nat) (v : Value) (ls : List Fx) (hs : a.eval s = v) (hown : FxBuf w base v ls)
    (xv : Value) (hx : a.eval x = xv) (ms : List Fx) (hrd : FxRd w xv ms) (hle : ls.length + ms.length ≤ 1000000) (hbase : base ≤ w.heap.size)
    (h : ∀ v' w', FxBuf w' base v' (ls ++ ms) → w.grownBy w' v.ownBlock → wpList Tryz.prog ops Q rest (a.put o.dst v') w') : wpList Tryz.prog ops Q (o :: rest) a w := by
  obtain ⟨i0, hi, hz0, hz1, hz2⟩ := info_parts Tryz.infoFx
  obtain ⟨ax, m, c, rfl, hm, _, _, hcl⟩ := id hrd
  cases ax with
  | none =>
    have hl : ms = [] := by
      cases ms with
      | nil => rfl
      | cons b l => obtain ⟨_, _, h, _⟩ := hcl (by simp); cases h
    subst hl
    simp only [List.length_nil] at hm
    subst hm
    refine wpList_plain hgd fun K hK => ?_
    have hrun : (Builtin.append_ #[23, 23] o.type #[v, .slice none 0 c]).run Tryz.prog w = .ok v w := by
      rcases hown.2 with ⟨rfl, _⟩ | ⟨g, cap, cur, rfl, _, _, hnc, _⟩
      · simp [Builtin.append_, run_underlying Tryz.uFxsF, sizeOf, typeInfo, hi, Builtin.lenOf, Builtin.firstCells]
      · simp [Builtin.append_, run_underlying Tryz.uFxsF, sizeOf, typeInfo, hi, Builtin.lenOf, Builtin.firstCells, hnc, storeCells]
    unfold Oper.wp
    simp [execOp, ho, resolve, invoke, builtin, hs, hx, hrun, Result.andThen]
    have := h v w (by simpa using hown) ⟨rfl, rfl, rfl, Nat.le_refl _, fun _ _ _ => rfl⟩
    exact hK _ _ this
  | some ad =>
    obtain ⟨hl, hc⟩ := FxRd.cells hrd
    subst hl
    refine wpList_append_own _ hgd s x 23 ho base 46 i0 _ 7 64 Tryz.uFxsF hi hz0 hz1 hz2 rfl (by decide) v ls.length (fxV ls) hs hown ad ms.length c (fxV ms) hx (fxV_len ms) hc (fx_one _) (by unfold maxLen; omega) (by omega) hbase ?_
    intro v' w' h1 h2 _
    refine h v' w' ?_ h2
    unfold FxBuf
    rw [show fxV (ls ++ ms) = fxV ls ++ fxV ms from by simp [fxV], List.length_append]
    exact h1

set_option maxHeartbeats 1000000 in
theorem Clone_anyFx (ls : List Fx) (v : Value) (w : World) (rd : FxRd w v ls) (hlen : ls.length ≤ 100000) :
    Calls Tryz.prog 61 #[v] w fun e w' => ∃ v', e = .returned v' ∧ FxBuf w' w.heap.size v' ls ∧ Chg [] w w' := by
  obtain ⟨a, n, cap, rfl, rfl, hc1, hc2, hx⟩ := id rd
  have HR := Lib.hid rd
  clear rd
  have q1 : ∀ W : World, (binOp .eql 23 (.slice a ls.length cap) (.slice none 0 0)).run Tryz.prog W = .ok (.bool a.isNone) W := fun W => Lib.run_eql_slice_nil W _ _ a ls.length cap 0 0 Tryz.uFxsF
  cases a with
  | none =>
    have hl : ls = [] := by
      cases ls with
      | nil => rfl
      | cons b l => obtain ⟨_, _, h, _⟩ := hx (by simp); cases h
    subst hl
    clear hx
    simp only [Option.isNone_none, List.length_nil] at q1
    go_enter Tryz.func61, Tryz.ntmps61
    go_wp2
    go_ret
    exact ⟨_, rfl, FxBuf.nil _ _, Chg.refl _ _⟩
  | some ad =>
    simp only [Option.isNone_some] at q1
    have Hx := Lib.hid hx
    clear hx
    obtain ⟨w1, hw1⟩ : ∃ x, x = w.alloc (.cells #[] 46) := ⟨_, rfl⟩
    have B1 : Hid (FxBuf w1 w.heap.size (.slice (some ⟨w.heap.size, 0, none⟩) 0 0) []) := by
      refine Lib.hid ?_
      rw [hw1]
      exact ⟨rfl, .inr ⟨w.heap.size, 0, #[], rfl, Nat.le_refl _, heap_alloc_eq _ _, Nat.le_refl _, Nat.zero_le _, rfl, rfl⟩⟩
    have C1 : Hid (Chg [] w w1) := Lib.hid (by rw [hw1]; exact (Chg.refl _ _).alloc _)
    have HW1 := Lib.hid (hw1)
    clear hw1
    go_enter Tryz.func61, Tryz.ntmps61
    go_wp2_with (at_builtin; rw [← HW1.out]; refine app_fxs rfl _ _ rfl w.heap.size (.slice (some ⟨w.heap.size, 0, none⟩) 0 0) [] rfl B1.out _ rfl ls (HR.out.frame C1.out) (by simp; omega) C1.out.size ?_; intro va wa hoa hga; refine Hid.out ?_)
    refine Lib.hid ?_
    have BA : Hid (FxBuf wa w.heap.size va ls) := Lib.hid (hoa)
    have CA : Hid (Chg [] w wa) := Lib.hid (C1.out.trans (Chg.of_grown hga) (fun i hm hw => by simp [Value.ownBlock] at hm; omega))
    clear hoa hga
    go_wp2
    go_ret
    exact ⟨_, rfl, BA.out, CA.out⟩
end Go.Proofs.YtaipelkegemoeaaGreatDoor
