/- Rows of slices of a fat file: made, appended to; what an entry says. -/
import Derived.Test.YtchkombikjcokaaDoorMeet
namespace Go.Proofs.YtchkombikjcokaaDoor
open Go.RowKit
set_option maxRecDepth 100000

def SL.cells (s : SL) : List Value := [.int .u32 s.cpu, .int .u32 s.sub, .int .u64 s.off, .int .u64 s.size, .int .i64 s.align]
def slV (ls : List SL) : List Value := ls.flatMap SL.cells
theorem slV_len (ls : List SL) : (slV ls).length = ls.length * 5 := by
  induction ls with
  | nil => rfl
  | cons s r ih => show (s.cells ++ slV r).length = _; rw [List.length_append, ih, List.length_cons]; show 5 + _ = _; omega
theorem slV_get : ∀ (ls : List SL) (j c : Nat), j < ls.length → c < 5 → (slV ls)[j * 5 + c]? = (ls.getD j .zero).cells[c]?
  | [], j, c, hj, _ => by simp at hj
  | s :: r, 0, c, _, hc => by
    show (s.cells ++ slV r)[0 * 5 + c]? = _
    rw [Nat.zero_mul, Nat.zero_add, List.getElem?_append_left (by show c < 5; exact hc)]
    rfl
  | s :: r, j + 1, c, hj, hc => by
    show (s.cells ++ slV r)[(j + 1) * 5 + c]? = _
    rw [List.getElem?_append_right (by show 5 ≤ _; omega)]
    have := slV_get r j c (by simpa using hj) hc
    show (slV r)[(j + 1) * 5 + c - 5]? = _
    rw [show (j + 1) * 5 + c - 5 = j * 5 + c by omega, this]
    simp
theorem slV_snoc (ls : List SL) (s : SL) : slV (ls ++ [s]) = slV ls ++ s.cells := by simp [slV]
/-- A row of slices that is the call's own. -/
def SlBuf (w : World) (base : Nat) (v : Value) (ls : List SL) : Prop := w.ownsRow base 52 5 v ls.length (slV ls)
theorem SlBuf.nil (w : World) (base : Nat) : SlBuf w base (.slice none 0 0) [] := ⟨rfl, .inl ⟨rfl, rfl⟩⟩
theorem SlBuf.rd {w : World} {base : Nat} {v : Value} {ls : List SL} (h : SlBuf w base v ls) : SlRd w v ls := by
  obtain ⟨hl, hv⟩ := h
  rcases hv with ⟨rfl, h0⟩ | ⟨g, cap, cur, rfl, hb, hg, hnc, hcm, hcs, htake⟩
  · have : ls = [] := List.eq_nil_of_length_eq_zero h0
    subst this
    exact ⟨_, _, _, rfl, rfl, Nat.le_refl _, Nat.zero_le _, fun h => absurd rfl h⟩
  · refine ⟨_, _, _, rfl, rfl, hnc, hcm, fun _ => ⟨g, 0, rfl, lt_of_heap hg, fun j hj => ?_⟩⟩
    have key : ∀ c, c < 5 → w.cell? ⟨g, 0 + j * 5 + c, none⟩ = (ls.getD j .zero).cells[c]? := fun c hc => by
      rw [cell_of_heap hg, ← slV_get ls j c hj hc, ← htake, List.getElem?_take, if_pos (by omega), Nat.zero_add]
      simp
    exact ⟨key 0 (by decide), key 1 (by decide), key 2 (by decide), key 3 (by decide), key 4 (by decide)⟩
theorem SlBuf.pure {w w' : World} {base : Nat} {v : Value} {ls : List SL} (h : SlBuf w base v ls) (k : Chg [] w w') : SlBuf w' base v ls := owned_frame h k (fun _ _ hm => by cases hm)
theorem SlBuf.frame {w w' : World} {base : Nat} {v : Value} {ls : List SL} (h : SlBuf w base v ls) {S : List Nat} (k : Chg S w w') (hn : ∀ b, v.ownBlock = some b → b ∉ S) : SlBuf w' base v ls := owned_frame h k hn
theorem SlBuf.mono {w : World} {base base' : Nat} {v : Value} {ls : List SL} (h : SlBuf w base v ls) (hb : base' ≤ base) : SlBuf w base' v ls := owned_base h hb
theorem Tryd.infoSl : (Tryd.prog.info? 52).map (fun i => (i.zero, i.size, i.bytes)) = some (some (.agg #[.int .u32 0, .int .u32 0, .int .u64 0, .int .u64 0, .int .i64 0]), 5, 32) := by kernel_rfl
theorem Tryd.uSlsF : Tryd.prog.underlying 37 = some (.slice 52) := by kernel_rfl

theorem app_sl {ops : Array Oper} {rest : List Oper} {o : Oper} {a : Act} {Q : Exit → Act → World → Prop} {w : World} (hgd : o.guard = none) (s x : Operand)
    (ho : o.op = .call { callee := .builtin .append, args := #[s, x], argTypes := #[37, 37] }) (base : Nat) (v : Value) (ls : List SL) (hs : a.eval s = v) (hown : SlBuf w base v ls)
    (q : Nat) (sl : SL) (hx : a.eval x = .slice (some ⟨q, 0, none⟩) 1 1) (hq : w.heap[q]? = some (.cells #[.int .u32 sl.cpu, .int .u32 sl.sub, .int .u64 sl.off, .int .u64 sl.size, .int .i64 sl.align] 52 (0, 0)))
    (hlen : ls.length ≤ 1000000) (hbase : base ≤ w.heap.size)
    (h : ∀ v' w', SlBuf w' base v' (ls ++ [sl]) → w.grownBy w' v.ownBlock → wpList Tryd.prog ops Q rest (a.put o.dst v') w') : wpList Tryd.prog ops Q (o :: rest) a w := by
  obtain ⟨i0, hi, hz0, hz1, hz2⟩ := info_parts Tryd.infoSl
  refine wpList_append_own _ hgd s x 37 ho base 52 i0 _ 5 32 Tryd.uSlsF hi hz0 hz1 hz2 rfl (by decide) v ls.length (slV ls) hs hown ⟨q, 0, none⟩ 1 1 sl.cells hx rfl ?_ ?_ (by unfold maxLen; omega) (by omega) hbase ?_
  · intro j u hu
    rw [Addr_add, Nat.zero_add, cell_of_heap hq]
    simpa [SL.cells] using hu
  · intro u hu
    simp only [SL.cells, List.mem_cons, List.not_mem_nil, or_false] at hu
    rcases hu with rfl | rfl | rfl | rfl | rfl <;> rfl
  · intro v' w' h1 h2 _
    refine h v' w' ?_ h2
    unfold SlBuf
    rw [slV_snoc, List.length_append]
    exact h1

/-- The number that stands at a place. -/
def num (l : List UInt8) (p m : Nat) : Nat := numOf true ((l.drop p).take m)
theorem num_lt (l : List UInt8) (p m : Nat) : num l p m < 256 ^ m :=
  Nat.lt_of_lt_of_le (numOf_lt _ _) (Nat.pow_le_pow_right (by decide) (List.length_take_le _ _))
theorem num4 (l : List UInt8) (p : Nat) : num l p 4 < 4294967296 := num_lt l p 4
theorem num8 (l : List UInt8) (p m : Nat) (hm : m ≤ 8) : num l p m < 18446744073709551616 := Nat.lt_of_lt_of_le (num_lt l p m) (pow_le8 m hm)
/-- The entry at a place, its numbers so wide. -/
def entry (l : List UInt8) (width p : Nat) : SL := ⟨num l p 4, num l (p + 4) 4, num l (p + 8) width, num l (p + 8 + width) width, (num l (p + 8 + 2 * width) 4 : Nat)⟩
def entries (l : List UInt8) (size width k : Nat) : List SL := (List.range k).map fun i => entry l width (8 + i * size)
theorem entries_len (l : List UInt8) (size width k : Nat) : (entries l size width k).length = k := by simp [entries]
theorem entries_succ (l : List UInt8) (size width k : Nat) : entries l size width (k + 1) = entries l size width k ++ [entry l width (8 + k * size)] := by simp [entries, List.range_succ]
theorem entry_ok (l : List UInt8) (width p : Nat) (hw : width ≤ 8) : (entry l width p).ok := by
  have h1 := num4 l p
  have h2 := num4 l (p + 4)
  have h3 := num8 l (p + 8) width hw
  have h4 := num8 l (p + 8 + width) width hw
  have h5 := num4 l (p + 8 + 2 * width)
  exact ⟨h1, h2, h3, h4, by show _ ≤ ((num l (p + 8 + 2 * width) 4 : Nat) : Int); omega, by show ((num l (p + 8 + 2 * width) 4 : Nat) : Int) < _; omega⟩
theorem entries_ok (l : List UInt8) (size width k : Nat) (hw : width ≤ 8) : ∀ s ∈ entries l size width k, s.ok := by
  intro s hs
  obtain ⟨i, _, rfl⟩ := List.mem_map.1 hs
  exact entry_ok _ _ _ hw
end Go.Proofs.YtchkombikjcokaaDoor
