/- append of bytes that are read to a row that is the call's own (or nil). -/
import Derived.Test.YtpodphfdoonidaaDoorLebOrder
import Derived.Laws.AppendOwnNone
namespace Go.Proofs.YtpodphfdoonidaaDoor
open Go.RowKit

theorem Rd_bytes_cells {w : World} {ad : Addr} {n cap : Nat} {l : List UInt8} (h : Rd w (.slice (some ad) n cap) (bytesV l)) :
    n = l.length ∧ ∀ j u, (bytesV l)[j]? = some u → w.cell? (ad.add j) = some u := by
  obtain ⟨a', n', cap', he, hn, _, _, hx⟩ := h
  cases he
  rw [bytesV_length] at hn
  refine ⟨hn, fun j u hu => ?_⟩
  have hne : bytesV l ≠ [] := by intro e; rw [e] at hu; simp at hu
  obtain ⟨b, off, hb, hc⟩ := hx hne
  cases hb
  rw [Addr_add, hc j (by rcases Nat.lt_or_ge j (bytesV l).length with h | h; exact h; rw [List.getElem?_eq_none_iff.2 h] at hu; cases hu)]
  exact hu
theorem app_bytes {w : World} {ops : Array Oper} {rest : List Oper} {o : Oper} {a : Act} {Q : Exit → Act → World → Prop} (hgd : o.guard = none) (s x : Operand)
    (ho : o.op = .call { callee := .builtin .append, args := #[s, x], argTypes := #[22, 22] })
    (base : Nat) (v : Value) (n : Nat) (xs : List Value) (hs : a.eval s = v) (hown : w.ownsRow base 5 1 v n xs)
    (xv : Value) (hx : a.eval x = xv) (l : List UInt8) (hrd : Rd w xv (bytesV l)) (hle : n + l.length ≤ 140737488355328) (hbase : base ≤ w.heap.size)
    (h : ∀ v' w', w'.ownsRow base 5 1 v' (n + l.length) (xs ++ bytesV l) → w.grownBy w' v.ownBlock → wpList Tryd.prog ops Q rest (a.put o.dst v') w') :
    wpList Tryd.prog ops Q (o :: rest) a w := by
  obtain ⟨i0, hi, hz0, hz1, hz2⟩ := info_parts Tryd.infoU8
  obtain ⟨ax, m, c, rfl, hm, _, _, hcl⟩ := id hrd
  rw [bytesV_length] at hm
  cases ax with
  | none =>
    have hl : l = [] := by
      cases l with
      | nil => rfl
      | cons b l => obtain ⟨_, _, h, _⟩ := hcl (by simp [bytesV]); cases h
    subst hl
    simp only [List.length_nil] at hm
    subst hm
    refine wpList_plain hgd fun K hK => ?_
    have hrun : (Builtin.append_ #[22, 22] o.type #[v, .slice none 0 c]).run Tryd.prog w = .ok v w := by
      rcases hown.2 with ⟨rfl, rfl⟩ | ⟨g, cap, cur, rfl, _, _, hnc, _⟩
      · simp [Builtin.append_, run_underlying Tryd.underlying22, sizeOf, typeInfo, hi, Builtin.lenOf, Builtin.firstCells]
      · simp [Builtin.append_, run_underlying Tryd.underlying22, sizeOf, typeInfo, hi, Builtin.lenOf, Builtin.firstCells, hnc, storeCells]
    unfold Oper.wp
    simp [execOp, ho, resolve, invoke, builtin, hs, hx, hrun, Result.andThen]
    have := h v w (by simpa [bytesV] using hown) ⟨rfl, rfl, rfl, Nat.le_refl _, fun _ _ _ => rfl⟩
    exact hK _ _ this
  | some ad =>
    obtain ⟨hl, hc⟩ := Rd_bytes_cells hrd
    subst hl
    refine wpList_append_own _ hgd s x 22 ho base 5 i0 (.int .u8 0) 1 1 Tryd.underlying22 hi hz0 hz1 hz2 rfl (by decide) v n xs hs hown ad l.length c (bytesV l) hx (by rw [bytesV_length, Nat.mul_one]) hc (bytes_one _) (by unfold maxLen; omega) (by omega) hbase (fun v' w' h1 h2 _ => h v' w' h1 h2)
end Go.Proofs.YtpodphfdoonidaaDoor
