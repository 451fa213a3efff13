/- append of bytes that are read to a row that is the call's own (or nil). -/
import Derived.Test.YtpodphfdoonidaaDoorLebOrder
import Derived.Maps.AppendAt
namespace Go.Proofs.YtpodphfdoonidaaDoor
open Go.RowKit

theorem Rd_bytes_cells {w : World} {ad : Addr} {n cap : Nat} {l : List UInt8} (h : Rd w (.slice (some ad) n cap) (bytesV l)) :
    n = l.length ∧ ∀ j u, (bytesV l)[j]? = some u → w.cell? (ad.add j) = some u := by
  obtain ⟨a', n', cap', he, hn, _, _, hx⟩ := h
  cases he
  rw [bytesV_length] at hn
  refine ⟨hn, fun j u hu => ?_⟩
  have hne : bytesV l ≠ [] := by intro e; rw [e] at hu; simp at hu
  obtain ⟨b, off, hb, hc⟩ := hx hne
  cases hb
  rw [Addr_add, hc j (by rcases Nat.lt_or_ge j (bytesV l).length with h | h; exact h; rw [List.getElem?_eq_none_iff.2 h] at hu; cases hu)]
  exact hu
theorem app_bytes_at {w : World} {ops : Array Oper} {rest : List Oper} {o : Oper} {a : Act} {Q : Exit → Act → World → Prop} (hgd : o.guard = none) (s x : Operand)
    (ho : o.op = .call { callee := .builtin .append, args := #[s, x], argTypes := #[22, 22] })
    (base : Nat) (v : Value) (n : Nat) (xs : List Value) (hs : a.eval s = v) (hown : w.ownsRow base 5 1 v n xs)
    (xv : Value) (hx : a.eval x = xv) (l : List UInt8) (hrd : Rd w xv (bytesV l)) (hle : n + l.length ≤ 140737488355328) (hbase : base ≤ w.heap.size)
    (h : ∀ v' w', w'.ownsRow base 5 1 v' (n + l.length) (xs ++ bytesV l) → w.grownBy w' v.ownBlock → (v'.ownBlock = v.ownBlock ∨ v'.ownBlock = some w.heap.size) → wpList Tryd.prog ops Q rest (a.put o.dst v') w') :
    wpList Tryd.prog ops Q (o :: rest) a w := by
  obtain ⟨i0, hi, hz0, hz1, hz2⟩ := info_parts Tryd.infoU8
  obtain ⟨ax, m, c, rfl, hm, _, _, hcl⟩ := id hrd
  rw [bytesV_length] at hm
  cases ax with
  | none =>
    have hl : l = [] := by
      cases l with
      | nil => rfl
      | cons b l => obtain ⟨_, _, h, _⟩ := hcl (by simp [bytesV]); cases h
    subst hl
    simp only [List.length_nil] at hm
    subst hm
    refine wpList_plain hgd fun K hK => ?_
    have hrun : (Builtin.append_ #[22, 22] o.type #[v, .slice none 0 c]).run Tryd.prog w = .ok v w := by
      rcases hown.2 with ⟨rfl, rfl⟩ | ⟨g, cap, cur, rfl, _, _, hnc, _⟩
      · simp [Builtin.append_, run_underlying Tryd.underlying22, sizeOf, typeInfo, hi, Builtin.lenOf, Builtin.firstCells]
      · simp [Builtin.append_, run_underlying Tryd.underlying22, sizeOf, typeInfo, hi, Builtin.lenOf, Builtin.firstCells, hnc, storeCells]
    unfold Oper.wp
    simp [execOp, ho, resolve, invoke, builtin, hs, hx, hrun, Result.andThen]
    have := h v w (by simpa [bytesV] using hown) ⟨rfl, rfl, rfl, Nat.le_refl _, fun _ _ _ => rfl⟩ (.inl rfl)
    exact hK _ _ this
  | some ad =>
    obtain ⟨hl, hc⟩ := Rd_bytes_cells hrd
    subst hl
    refine wpList_append_own_at _ hgd s x 22 ho base 5 i0 (.int .u8 0) 1 1 Tryd.underlying22 hi hz0 hz1 hz2 rfl (by decide) v n xs hs hown ad l.length c (bytesV l) hx (by rw [bytesV_length, Nat.mul_one]) hc (bytes_one _) (by unfold maxLen; omega) (by omega) hbase (fun v' w' h1 h2 _ h3 => h v' w' h1 h2 h3)
theorem app_bytes {w : World} {ops : Array Oper} {rest : List Oper} {o : Oper} {a : Act} {Q : Exit → Act → World → Prop} (hgd : o.guard = none) (s x : Operand)
    (ho : o.op = .call { callee := .builtin .append, args := #[s, x], argTypes := #[22, 22] })
    (base : Nat) (v : Value) (n : Nat) (xs : List Value) (hs : a.eval s = v) (hown : w.ownsRow base 5 1 v n xs)
    (xv : Value) (hx : a.eval x = xv) (l : List UInt8) (hrd : Rd w xv (bytesV l)) (hle : n + l.length ≤ 140737488355328) (hbase : base ≤ w.heap.size)
    (h : ∀ v' w', w'.ownsRow base 5 1 v' (n + l.length) (xs ++ bytesV l) → w.grownBy w' v.ownBlock → wpList Tryd.prog ops Q rest (a.put o.dst v') w') :
    wpList Tryd.prog ops Q (o :: rest) a w :=
  app_bytes_at hgd s x ho base v n xs hs hown xv hx l hrd hle hbase (fun v' w' h1 h2 _ => h v' w' h1 h2)
/-- The one byte that 'append(x, b)' lays ahead. -/
theorem Rd_one (w : World) (b : UInt8) (t : TypeId) : Rd (w.alloc (.cells #[.int .u8 b.toNat] t)) (.slice (some ⟨w.heap.size, 0, none⟩) 1 1) (bytesV [b]) := by
  refine ⟨_, _, _, rfl, rfl, Nat.le_refl _, by unfold maxLen; omega, fun _ => ⟨_, _, rfl, fun j hj => ?_⟩⟩
  obtain rfl : j = 0 := by simp [bytesV] at hj; exact hj
  rw [cell_of_heap (heap_alloc_eq w _)]
  rfl
/-- A buffer of the call's own: its bytes. -/
def Buf (w : World) (base : Nat) (v : Value) (l : List UInt8) : Prop := w.ownsRow base 5 1 v l.length (bytesV l)
theorem Buf.mk' {w : World} {base n : Nat} {v : Value} {l : List UInt8} (h : w.ownsRow base 5 1 v n (bytesV l)) : Buf w base v l := by
  have : n = l.length := by have := h.1; rw [bytesV_length] at this; omega
  subst this; exact h
theorem Buf.nil (w : World) (base : Nat) : Buf w base (.slice none 0 0) [] := World.ownsRow_nil w base 5 1
theorem Buf.frame {w w' : World} {base : Nat} {v : Value} {l : List UInt8} (h : Buf w base v l) {S : List Nat} (k : Chg S w w') (hn : ∀ b, v.ownBlock = some b → b ∉ S) : Buf w' base v l := owned_frame h k hn
theorem Buf.pure {w w' : World} {base : Nat} {v : Value} {l : List UInt8} (h : Buf w base v l) (k : Chg [] w w') : Buf w' base v l := h.frame k (fun _ _ hm => by cases hm)
theorem Buf.rd {w : World} {base : Nat} {v : Value} {l : List UInt8} (h : Buf w base v l) : Rd w v (bytesV l) := Rd.owned h
theorem Buf.app {w' : World} {base : Nat} {v : Value} {l m : List UInt8} (h : w'.ownsRow base 5 1 v (l.length + m.length) (bytesV l ++ bytesV m)) : Buf w' base v (l ++ m) := by
  unfold Buf; rw [List.length_append, bytesV_append]; exact h
/-- Two buffers of the call's own, apart. -/
structure Two (w : World) (base : Nat) (v1 : Value) (l1 : List UInt8) (v2 : Value) (l2 : List UInt8) : Prop where
  one : Buf w base v1 l1
  two : Buf w base v2 l2
  ne : ∀ k, v1.ownBlock = some k → v2.ownBlock ≠ some k
section
variable {w w' : World} {base : Nat} {v1 v2 : Value} {l1 l2 : List UInt8}
theorem Two.swap (h : Two w base v1 l1 v2 l2) : Two w base v2 l2 v1 l1 := ⟨h.two, h.one, fun k h1 h2 => h.ne k h2 h1⟩
theorem Two.pure (h : Two w base v1 l1 v2 l2) (k : Chg [] w w') : Two w' base v1 l1 v2 l2 := ⟨h.one.pure k, h.two.pure k, h.ne⟩
theorem Two.app (h : Two w base v1 l1 v2 l2) {v : Value} {l : List UInt8} (hv : w'.ownsRow base 5 1 v (l1.length + l.length) (bytesV l1 ++ bytesV l)) (hg : w.grownBy w' v1.ownBlock)
    (ha : v.ownBlock = v1.ownBlock ∨ v.ownBlock = some w.heap.size) : Two w' base v (l1 ++ l) v2 l2 := by
  have hne : v2.ownBlock = none ∨ v2.ownBlock ≠ v1.ownBlock := by
    cases h2 : v2.ownBlock with
    | none => exact .inl rfl
    | some k => exact .inr (fun e => h.ne k e.symm h2)
  refine ⟨Buf.app hv, World.ownsRow.kept h.two hg hne, fun k hk h2 => ?_⟩
  rcases ha with e | e
  · exact h.ne k (e ▸ hk) h2
  · rw [e] at hk
    have := (World.ownsRow.lt h.two k h2).2
    cases hk
    omega
end
end Go.Proofs.YtpodphfdoonidaaDoor
