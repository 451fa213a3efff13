/- Do fixups meet? (plain) -/
import Derived.Test.YtgmlcmmphhmogaaFxSet
namespace Go.Proofs.Ytgmlcmmphhmogaa
set_option maxRecDepth 100000

/-- Two that stand side by side, less than 8 bytes apart. -/
def adjF : List Fx → Bool
  | [] => false
  | [_] => false
  | x :: y :: r => decide (y.at_ - x.at_ < 8) || adjF (y :: r)
theorem ord_at {a b : Fx} (h : ordF a b < 0) : a.at_ ≤ b.at_ := by
  unfold ordF th at h
  have hc : cmpI a.at_ b.at_ = -1 ∨ cmpI a.at_ b.at_ = 0 ∨ cmpI a.at_ b.at_ = 1 := cmpI_is.one _ _
  by_cases h0 : cmpI a.at_ b.at_ = 0
  · have := cmpI_eq.1 h0; omega
  · rw [if_neg h0] at h
    unfold cmpI at h
    split at h
    · omega
    · split at h <;> omega
theorem adj_iff : ∀ {l : List Fx}, SS l → (adjF l = true ↔ ∃ a ∈ l, ∃ b ∈ l, ordF a b < 0 ∧ b.at_ - a.at_ < 8)
  | [], _ => by simp [adjF]
  | [x], _ => by
    simp only [adjF, Bool.false_eq_true, false_iff, List.mem_singleton]
    rintro ⟨a, rfl, b, rfl, h, _⟩
    rw [ord_self] at h
    omega
  | x :: y :: r, h => by
    have h' := List.pairwise_cons.1 h
    have ih := adj_iff (l := y :: r) h'.2
    unfold adjF
    rw [Bool.or_eq_true, ih, decide_eq_true_eq]
    constructor
    · rintro (h1 | ⟨a, ha, b, hb, h1, h2⟩)
      · exact ⟨x, List.mem_cons_self .., y, List.mem_cons_of_mem _ (List.mem_cons_self ..), h'.1 y (List.mem_cons_self ..), h1⟩
      · exact ⟨a, List.mem_cons_of_mem _ ha, b, List.mem_cons_of_mem _ hb, h1, h2⟩
    · rintro ⟨a, ha, b, hb, h1, h2⟩
      rcases List.mem_cons.1 ha with e | ha2
      · subst e
        rcases List.mem_cons.1 hb with e | hb2
        · subst e; rw [ord_self] at h1; omega
        · refine .inl ?_
          have hyb : y.at_ ≤ b.at_ := by
            rcases List.mem_cons.1 hb2 with e | hb3
            · rw [e]; exact Int.le_refl _
            · exact ord_at ((List.pairwise_cons.1 h'.2).1 b hb3)
          omega
      · rcases List.mem_cons.1 hb with e | hb2
        · subst e
          have := h'.1 a ha2
          have := ord_anti a b
          omega
        · exact .inr ⟨a, ha2, b, hb2, h1, h2⟩
theorem adj_meet (l : List Fx) : adjF (setF l) = meetF l := by
  have h1 := adj_iff (ss_setF l)
  have h2 : meetF l = true ↔ ∃ a ∈ l, ∃ b ∈ l, ordF a b < 0 ∧ b.at_ - a.at_ < 8 := by
    unfold meetF
    rw [List.any_eq_true]
    constructor
    · rintro ⟨a, ha, h⟩
      rw [List.any_eq_true] at h
      obtain ⟨b, hb, h⟩ := h
      rw [Bool.and_eq_true, decide_eq_true_eq] at h
      obtain ⟨hne, h8⟩ := h
      unfold apart8 at h8
      rw [decide_eq_true_eq] at h8
      have ho := ordF_is.one a b
      have hn : ordF a b ≠ 0 := fun e => hne (ordF_eq.1 e)
      have ha2 := ord_anti a b
      by_cases hlt : ordF a b < 0
      · have := ord_at hlt
        refine ⟨a, ha, b, hb, hlt, ?_⟩
        split at h8 <;> omega
      · have hlt2 : ordF b a < 0 := by omega
        have := ord_at hlt2
        refine ⟨b, hb, a, ha, hlt2, ?_⟩
        split at h8 <;> omega
    · rintro ⟨a, ha, b, hb, h1, h2⟩
      refine ⟨a, ha, ?_⟩
      rw [List.any_eq_true]
      refine ⟨b, hb, ?_⟩
      rw [Bool.and_eq_true, decide_eq_true_eq]
      refine ⟨fun e => by rw [e, ord_self] at h1; omega, ?_⟩
      unfold apart8
      rw [decide_eq_true_eq]
      have := ord_at h1
      split <;> omega
  have h3 : adjF (setF l) = true ↔ meetF l = true := by
    rw [h1, h2]
    constructor
    · rintro ⟨a, ha, b, hb, h⟩; exact ⟨a, mem_setF.1 ha, b, mem_setF.1 hb, h⟩
    · rintro ⟨a, ha, b, hb, h⟩; exact ⟨a, mem_setF.2 ha, b, mem_setF.2 hb, h⟩
  cases e1 : adjF (setF l) <;> cases e2 : meetF l <;> simp_all
end Go.Proofs.Ytgmlcmmphhmogaa
