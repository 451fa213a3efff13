/- append(b, make([]byte, m)...), as the program has it: so many noughts behind a row of bytes of the call's own. No program in sight. -/
import Derived.Test.YtchkombikjcokaaDoorF
import Derived.Maps.AppendAt
namespace Go.Proofs.YtchkombikjcokaaDoor
open Go.RowKit

section
variable {P : Program}
theorem zeroCells_one (z : Value) (m : Nat) : Builtin.zeroCells #[z] m = (List.replicate m z).toArray := by
  unfold Builtin.zeroCells
  apply Array.ext'
  simp only [Array.toList_map, Array.toList_range, List.size_toArray, List.length_cons, List.length_nil, Nat.zero_add, Nat.mul_one, Nat.mod_one]
  apply List.ext_getElem?
  intro j
  by_cases hj : j < m <;> simp [hj]
theorem Addr_add' (b j : Nat) : (⟨b, 0, none⟩ : Addr).add j = ⟨b, j, none⟩ := by unfold Addr.add; split <;> simp_all
theorem run_append_zeros (w : World) (base : Nat) (t tx ty e : TypeId) (i : TypeInfo) (K : IntKind) (ht : P.underlying t = some (.slice e)) (hx : P.underlying tx = some (.int K)) (hi : P.info? e = some i) (hz : i.zero = some (.int .u8 0)) (hs : i.size = 1) (hby : i.bytes = 1)
    (v : Value) (n : Nat) (xs : List Value) (hown : w.ownsRow base e 1 v n xs) (m : Nat) (hle : n + m ≤ 140737488355328) (hbase : base ≤ w.heap.size) :
    ∃ v' w', (Builtin.append_ #[t, tx] ty #[v, .int .i64 m]).run P w = .ok v' w' ∧ w'.ownsRow base e 1 v' (n + m) (xs ++ List.replicate m (.int .u8 0)) ∧ w.grownBy w' v.ownBlock ∧
      (v'.ownBlock = v.ownBlock ∨ v'.ownBlock = some w.heap.size) := by
  have hwr : IntKind.i64.wrap (m : Int) = m := by rw [IntKind.wrap_i64]; omega
  have h0 : ¬ ((m : Int) < 0) := by omega
  have h48 : ¬ (281474976710656 < (m : Int)) := by omega
  have ha : ∀ w : World, (asInt (.int .i64 (m : Int))).run P w = .ok (m : Int) w := fun _ => rfl
  have hone : ∀ u ∈ List.replicate m (Value.int .u8 0), u.oneCell' = true := by
    intro u hu; rw [(List.mem_replicate.1 hu).2]; rfl
  rcases hown.2 with ⟨rfl, rfl⟩ | ⟨g, cap, cur, rfl, hbg, hg, hnc, hcm, hcs, htake⟩
  · have hxs : xs = [] := List.eq_nil_of_length_eq_zero (by simpa using hown.1)
    subst hxs
    rcases Nat.eq_zero_or_pos m with rfl | hm
    · refine ⟨.slice none 0 0, w, ?_, World.ownsRow_nil w base e 1, ⟨rfl, rfl, rfl, Nat.le_refl _, fun _ _ _ => rfl⟩, .inl rfl⟩
      have ha := ha
      have hw0 : IntKind.i64.wrap 0 = 0 := by decide
      simp at ha
      simp [Builtin.append_, run_underlying ht, run_underlying hx, sizeOf, typeInfo, hi, ha, hw0]
    · have hne : ¬ m = 0 := by omega
      have h63 : ¬ (9223372036854775807 < (m : Int)) := by omega
      have hnx : ¬ (281474976710656 < Builtin.nextslicecap m 0) := by rw [nextslicecap_zero hm]; omega
      simp [Builtin.append_, run_underlying ht, run_underlying hx, sizeOf, typeInfo, zeroValue, hi, hz, hs, hby, ha, hwr, h48, hne, h63, hnx, Question.forced, run_firstCells_none, newRow]
      rw [if_neg h0]
      have hge := grownCap_ge w m 0 e
      have hcm : grownCap w m 0 e ≤ maxLen := grownCap_le_maxLen w m 0 e (by unfold maxLen; omega)
      rw [show (Value.int .u8 0).cells = #[Value.int .u8 0] from rfl, zeroCells_one, zeroCells_one]
      refine ⟨_, _, rfl, ⟨by simp, .inr ⟨w.heap.size, _, _, rfl, hbase, heap_alloc_new w.drew _, hge, hcm, ?_, ?_⟩⟩, ⟨rfl, rfl, rfl, by simp, fun k hk _ => heap_alloc_lt (w := w.drew) hk _⟩, .inr rfl⟩
      · unfold grownCap at hge
        simp
        omega
      · simp
  · by_cases hroom : n + m ≤ cap
    · simp [Builtin.append_, run_underlying ht, run_underlying hx, sizeOf, typeInfo, zeroValue, hi, hz, hs, hby, ha, hwr, h48, hroom]
      rw [if_neg h0]
      have hst := run_storeCells_at P g n e (List.replicate m (Value.int .u8 0)) 0 cur w hg (by simp; omega) hone
      simp only [Nat.add_zero] at hst
      have e1 : (⟨g, 0, none⟩ : Addr).add n = ⟨g, n, none⟩ := Addr_add' g n
      have hst2 : (if m = 0 then (storeCells ((⟨g, 0, none⟩ : Addr).add n) []).run P w else (storeCells ((⟨g, 0, none⟩ : Addr).add n) (Builtin.zeroCells (Value.int .u8 0).cells m).toList).run P w) = .ok () (w.setRow g (cur.toList.take n ++ List.replicate m (Value.int .u8 0) ++ cur.toList.drop (n + (List.replicate m (Value.int .u8 0)).length)).toArray) := by
        rw [e1, ← hst]
        split
        · next h => subst h; rfl
        · rw [show (Value.int .u8 0).cells = #[Value.int .u8 0] from rfl, zeroCells_one]
      have hrun : (if m = 0 then ((storeCells ((⟨g, 0, none⟩ : Addr).add n) []).run P w).andThen fun _ w' => Result.ok (Value.slice (some ⟨g, 0, none⟩) (n + m) cap) w' else ((storeCells ((⟨g, 0, none⟩ : Addr).add n) (Builtin.zeroCells (Value.int .u8 0).cells m).toList).run P w).andThen fun _ w' => Result.ok (Value.slice (some ⟨g, 0, none⟩) (n + m) cap) w') =
          .ok (Value.slice (some ⟨g, 0, none⟩) (n + m) cap) (w.setRow g (cur.toList.take n ++ List.replicate m (Value.int .u8 0) ++ cur.toList.drop (n + (List.replicate m (Value.int .u8 0)).length)).toArray) := by
        split at hst2 <;> simp_all
      refine ⟨_, _, hrun, ⟨by simp [hown.1], .inr ⟨g, cap, _, rfl, hbg, setRow_heap w g cur _ e _ hg, hroom, hcm, ?_, ?_⟩⟩, ⟨rfl, rfl, rfl, by simp, fun k _ hk => setRow_other w g k _ (fun e => hk (by simp [Value.ownBlock, e]))⟩, .inl rfl⟩
      · simp; omega
      · rw [Nat.mul_one] at htake ⊢
        rw [htake]
        have hl : xs.length = n := by rw [hown.1, Nat.mul_one]
        simp [List.take_append, hl]
        exact List.take_of_length_le (by omega)
    · have h63 : ¬ (9223372036854775807 < (n : Int) + (m : Int)) := by omega
      have hnx : ¬ (281474976710656 < Builtin.nextslicecap (n + m) cap) := by have := growslice_fits (old := cap) (need := n + m) (bytes := 1) (by omega) (by omega); omega
      simp [Builtin.append_, run_underlying ht, run_underlying hx, sizeOf, typeInfo, zeroValue, hi, hz, hs, hby, ha, hwr, h48, hroom, h63, hnx, Question.forced, newRow]
      rw [if_neg h0]
      have hne : ¬ m = 0 := by omega
      have holds : ∀ j u, xs[j]? = some u → w.cell? ((⟨g, 0, none⟩ : Addr).add j) = some u := hown.cells (g := g) rfl
      have hf := run_firstCells_some (P := P) w.drew 1 n ⟨g, 0, none⟩ n cap xs hown.1 (by simpa using holds)
      have hge := grownCap_ge w (n + m) cap e
      have hcm2 : grownCap w (n + m) cap e ≤ maxLen := grownCap_le_maxLen w (n + m) cap e (by unfold maxLen; omega)
      rw [hf]
      simp only [Result.andThen_ok, if_neg hne]
      rw [show (Value.int .u8 0).cells = #[Value.int .u8 0] from rfl, zeroCells_one, zeroCells_one]
      have hl : xs.length = n := by rw [hown.1, Nat.mul_one]
      refine ⟨_, _, rfl, ⟨by simp [hl], .inr ⟨w.heap.size, _, _, rfl, hbase, heap_alloc_new w.drew _, hge, hcm2, ?_, ?_⟩⟩, ⟨rfl, rfl, rfl, by simp, fun k hk _ => heap_alloc_lt (w := w.drew) hk _⟩, .inr rfl⟩
      · unfold grownCap at hge
        simp [hl]
        omega
      · simp [List.take_append, hl]
        exact List.take_of_length_le (by omega)
end
end Go.Proofs.YtchkombikjcokaaDoor
