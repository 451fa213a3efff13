/- Lemmas, laid together: part 11 of 39. Conditions: none but each lemma's own. -/
import Derived.Test.YtppbcgffdpdklaaGreatDoorJ10
/- append of a row of fixups; slices.Clone of it. -/
namespace Go.Proofs.YtppbcgffdpdklaaGreatDoor
open Go.RowKit
set_option maxRecDepth 100000

theorem fx_one (ls : List Fx) : ∀ u ∈ fxV ls, u.oneCell' = true := by
  intro u hu
  obtain ⟨f, _, hf⟩ := List.mem_flatMap.1 hu
  simp only [Fx.cells, List.mem_cons, List.not_mem_nil, or_false] at hf
  rcases hf with rfl | rfl | rfl | rfl | rfl | rfl | rfl <;> rfl
theorem FxRd.cells {w : World} {ad : Addr} {n cap : Nat} {ls : List Fx} (h : FxRd w (.slice (some ad) n cap) ls) : n = ls.length ∧ ∀ j u, (fxV ls)[j]? = some u → w.cell? (ad.add j) = some u := by
  obtain ⟨a', n', c', he, hn, _, _, hx⟩ := h
  cases he
  refine ⟨hn, fun j u hu => ?_⟩
  have hj : j < ls.length * 7 := by rw [← fxV_len]; exact (List.getElem?_eq_some_iff.1 hu).1
  obtain ⟨b, off, he, _, hc⟩ := hx (by rintro rfl; simp at hj)
  cases he
  have h1 := hc (j / 7) (by omega) (j % 7) (Nat.mod_lt _ (by decide))
  have h2 := fxV_get ls (j / 7) (j % 7) (by omega) (Nat.mod_lt _ (by decide))
  rw [show j / 7 * 7 + j % 7 = j by omega, hu] at h2
  rw [← h2, Nat.add_assoc, show j / 7 * 7 + j % 7 = j by omega] at h1
  rw [Addr_add]
  exact h1
theorem app_fxs {w : World} {ops : Array Oper} {rest : List Oper} {o : Oper} {a : Act} {Q : Exit → Act → World → Prop} (hgd : o.guard = none) (s x : Operand)
    (ho : o.op = .call { callee := .builtin .append, args := #[s, x], argTypes := #[36, 36] }) (base : Nat) (v : Value) (ls : List Fx) (hs : a.eval s = v) (hown : FxBuf w base v ls)
    (xv : Value) (hx : a.eval x = xv) (ms : List Fx) (hrd : FxRd w xv ms) (hle : ls.length + ms.length ≤ 1000000) (hbase : base ≤ w.heap.size)
    (h : ∀ v' w', FxBuf w' base v' (ls ++ ms) → w.grownBy w' v.ownBlock → wpList Tryz.prog ops Q rest (a.put o.dst v') w') : wpList Tryz.prog ops Q (o :: rest) a w := by
  obtain ⟨i0, hi, hz0, hz1, hz2⟩ := info_parts Tryz.infoFx
  obtain ⟨ax, m, c, rfl, hm, _, _, hcl⟩ := id hrd
  cases ax with
  | none =>
    have hl : ms = [] := by
      cases ms with
      | nil => rfl
      | cons b l => obtain ⟨_, _, h, _⟩ := hcl (by simp); cases h
    subst hl
    simp only [List.length_nil] at hm
    subst hm
    refine wpList_plain hgd fun K hK => ?_
    have hrun : (Builtin.append_ #[36, 36] o.type #[v, .slice none 0 c]).run Tryz.prog w = .ok v w := by
      rcases hown.2 with ⟨rfl, _⟩ | ⟨g, cap, cur, rfl, _, _, hnc, _⟩
      · simp [Builtin.append_, run_underlying Tryz.uFxsF, sizeOf, typeInfo, hi, Builtin.lenOf, Builtin.firstCells]
      · simp [Builtin.append_, run_underlying Tryz.uFxsF, sizeOf, typeInfo, hi, Builtin.lenOf, Builtin.firstCells, hnc, storeCells]
    unfold Oper.wp
    simp [execOp, ho, resolve, invoke, builtin, hs, hx, hrun, Result.andThen]
    have := h v w (by simpa using hown) ⟨rfl, rfl, rfl, Nat.le_refl _, fun _ _ _ => rfl⟩
    exact hK _ _ this
  | some ad =>
    obtain ⟨hl, hc⟩ := FxRd.cells hrd
    subst hl
    refine wpList_append_own _ hgd s x 36 ho base 43 i0 _ 7 64 Tryz.uFxsF hi hz0 hz1 hz2 rfl (by decide) v ls.length (fxV ls) hs hown ad ms.length c (fxV ms) hx (fxV_len ms) hc (fx_one _) (by unfold maxLen; omega) (by omega) hbase ?_
    intro v' w' h1 h2 _
    refine h v' w' ?_ h2
    unfold FxBuf
    rw [show fxV (ls ++ ms) = fxV ls ++ fxV ms from by simp [fxV], List.length_append]
    exact h1

set_option maxHeartbeats 1000000 in
theorem Clone_any (ls : List Fx) (v : Value) (w : World) (rd : FxRd w v ls) (hlen : ls.length ≤ 100000) :
    Calls Tryz.prog 52 #[v] w fun e w' => ∃ v', e = .returned v' ∧ FxBuf w' w.heap.size v' ls ∧ Chg [] w w' := by
  obtain ⟨a, n, cap, rfl, rfl, hc1, hc2, hx⟩ := id rd
  have HR := Lib.hid rd
  clear rd
  have q1 : ∀ W : World, (binOp .eql 36 (.slice a ls.length cap) (.slice none 0 0)).run Tryz.prog W = .ok (.bool a.isNone) W := fun W => Lib.run_eql_slice_nil W _ _ a ls.length cap 0 0 Tryz.uFxsF
  cases a with
  | none =>
    have hl : ls = [] := by
      cases ls with
      | nil => rfl
      | cons b l => obtain ⟨_, _, h, _⟩ := hx (by simp); cases h
    subst hl
    clear hx
    simp only [Option.isNone_none, List.length_nil] at q1
    go_enter Tryz.func52, Tryz.ntmps52
    go_wp2
    go_ret
    exact ⟨_, rfl, FxBuf.nil _ _, Chg.refl _ _⟩
  | some ad =>
    simp only [Option.isNone_some] at q1
    have Hx := Lib.hid hx
    clear hx
    obtain ⟨w1, hw1⟩ : ∃ x, x = w.alloc (.cells #[] 43) := ⟨_, rfl⟩
    have B1 : Hid (FxBuf w1 w.heap.size (.slice (some ⟨w.heap.size, 0, none⟩) 0 0) []) := by
      refine Lib.hid ?_
      rw [hw1]
      exact ⟨rfl, .inr ⟨w.heap.size, 0, #[], rfl, Nat.le_refl _, heap_alloc_eq _ _, Nat.le_refl _, Nat.zero_le _, rfl, rfl⟩⟩
    have C1 : Hid (Chg [] w w1) := Lib.hid (by rw [hw1]; exact (Chg.refl _ _).alloc _)
    have HW1 := Lib.hid (hw1)
    clear hw1
    go_enter Tryz.func52, Tryz.ntmps52
    go_wp2_with (at_builtin; rw [← HW1.out]; refine app_fxs rfl _ _ rfl w.heap.size (.slice (some ⟨w.heap.size, 0, none⟩) 0 0) [] rfl B1.out _ rfl ls (HR.out.frame C1.out) (by simp; omega) C1.out.size ?_; intro va wa hoa hga; refine Hid.out ?_)
    refine Lib.hid ?_
    have BA : Hid (FxBuf wa w.heap.size va ls) := Lib.hid (hoa)
    have CA : Hid (Chg [] w wa) := Lib.hid (C1.out.trans (Chg.of_grown hga) (fun i hm hw => by simp [Value.ownBlock] at hm; omega))
    clear hoa hga
    go_wp2
    go_ret
    exact ⟨_, rfl, BA.out, CA.out⟩
end Go.Proofs.YtppbcgffdpdklaaGreatDoor
