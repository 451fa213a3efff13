/- Plain: so many of one fixup. -/
import Derived.Test.YtgmlcmmphhmogaaDm8
import Derived.Test.YtgmlcmmphhmogaaInt
namespace Go.Proofs.Ytgmlcmmphhmogaa
open Go.RowKit
set_option maxRecDepth 100000

def oneF (n : Nat) (f : Fx) : List Fx := if n = 0 then [] else [f]
theorem setF_rep (n : Nat) (f : Fx) : setF (List.replicate n f) = oneF n f := by
  unfold oneF
  split
  · rename_i h
    subst h
    rfl
  · rename_i h
    have e : setF (List.replicate n f) = setF [f] := setF_perm (fun z => by
      rw [List.mem_replicate, List.mem_singleton]
      exact ⟨fun x => x.2, fun x => ⟨h, x⟩⟩)
    rw [e]
    exact setF_ss (List.pairwise_singleton _ _)
theorem meet_one (n : Nat) (f : Fx) : meetF (oneF n f) = false := by
  unfold oneF
  split
  · rfl
  · simp [meetF]
theorem one_len (n : Nat) (f : Fx) : (oneF n f).length = min n 1 := by
  unfold oneF
  split
  · rename_i h; subst h; rfl
  · simp; omega
theorem get_rep (n j : Nat) (h : j < n) (f d : Fx) : (List.replicate n f).getD j d = f := by
  simp [List.getD_eq_getElem?_getD, h]
theorem any_rep (n : Nat) (f : Fx) : (List.replicate n f).any weakB = true → weakB f = true := by
  intro h
  rw [List.any_eq_true] at h
  obtain ⟨x, hx, h⟩ := h
  rwa [(List.mem_replicate.1 hx).2] at h
theorem kept_rep (n : Nat) (f : Fx) : Kept ((List.replicate n f).any weakB) (List.replicate n f) (List.replicate n f) := by
  refine .inl ⟨rfl, fun j hj => ?_⟩
  rw [List.length_replicate] at hj
  rw [get_rep n j hj]
  cases h : (List.replicate n f).any weakB with
  | false => rfl
  | true => simp [delP, any_rep n f h]
theorem flat_rep (m n : Nat) (f : Fx) : ([List.replicate m f, List.replicate n f] : List (List Fx)).flatten = List.replicate (m + n) f := by
  simp [List.replicate_append_replicate]
/-- Of so many the first are set. -/
def parF (k n : Nat) (f : Fx) : List Fx := List.replicate k f ++ List.replicate (n - k) .zero
theorem parF_len (k n : Nat) (f : Fx) (h : k ≤ n) : (parF k n f).length = n := by simp [parF]; omega
theorem parF_all (n : Nat) (f : Fx) : parF n n f = List.replicate n f := by simp [parF]
theorem parF_none (n : Nat) (f : Fx) : parF 0 n f = List.replicate n .zero := by simp [parF]
theorem parF_set (k n : Nat) (f : Fx) (h : k < n) : (parF k n f).set k f = parF (k + 1) n f := by
  unfold parF
  apply List.ext_getElem?
  intro j
  rw [List.getElem?_set]
  simp only [List.length_append, List.length_replicate]
  by_cases e : k = j
  · subst e
    rw [if_pos rfl, if_pos (by omega), List.getElem?_append_left (by simp), List.getElem?_replicate, if_pos (by omega)]
  · rw [if_neg e]
    by_cases hj : j < k
    · rw [List.getElem?_append_left (by simpa using hj), List.getElem?_append_left (by simp; omega), List.getElem?_replicate, List.getElem?_replicate, if_pos hj, if_pos (by omega)]
    · rw [List.getElem?_append_right (by simp; omega), List.getElem?_append_right (by simp; omega)]
      simp only [List.length_replicate, List.getElem?_replicate]
      by_cases q : j < n
      · rw [if_pos (by omega), if_pos (by omega)]
      · rw [if_neg (by omega), if_neg (by omega)]
theorem merge_rep_big (v1 v2 : SlV) (M R : Nat) (f : Fx) (v : Value) (W : World) (rd : slL.Rd W v [v1, v2]) (hr : ∀ j, j < 2 → fxl.Rd W (([v1, v2] : List SlV).getD j ⟨none, 0, 0⟩).v (([List.replicate M f, List.replicate R f] : List (List Fx)).getD j [])) (h1 : M + R ≤ 100000) (h2 : 20000 < M + R) :
    Calls Try.prog 6 #[v] W fun e w' => e = .returned (.tuple #[.slice none 0 0, .int .i64 11]) ∧ Chg [] W w' :=
  merge_big [v1, v2] [List.replicate M f, List.replicate R f] v W rd rfl (by simp) hr (by rw [flat_rep, List.length_replicate]; exact h1) (by rw [flat_rep, List.length_replicate]; exact h2)
theorem merge_rep (v1 v2 : SlV) (M R : Nat) (f : Fx) (hat : 0 ≤ f.at_ ∧ f.at_ < 18446744073709551616) (v : Value) (W : World) (rd : slL.Rd W v [v1, v2]) (hr : ∀ j, j < 2 → fxl.Rd W (([v1, v2] : List SlV).getD j ⟨none, 0, 0⟩).v (([List.replicate M f, List.replicate R f] : List (List Fx)).getD j [])) (h2 : M + R ≤ 20000) :
    Calls Try.prog 6 #[v] W fun e w' => (∃ a c, e = .returned (.tuple #[.slice a (min (M + R) 1) c, .int .i64 0])) ∧ Chg [] W w' := by
  have h := merge_any [v1, v2] [List.replicate M f, List.replicate R f] v W rd rfl (by simp) hr (by rw [flat_rep, List.length_replicate]; exact h2) f.at_ (fun _ x hx => by rw [flat_rep] at hx; rw [(List.mem_replicate.1 hx).2]) (List.replicate (M + R) f) (by rw [flat_rep]; exact kept_rep _ _) (fun x hx => by rw [(List.mem_replicate.1 hx).2]; exact hat)
  rw [setF_rep, meet_one] at h
  refine h.mono ?_
  rintro e w' ⟨⟨v', rfl, hb⟩, hc⟩
  obtain ⟨a, c, rfl, _, _⟩ := hb.rd.shape
  rw [one_len]
  exact ⟨⟨_, _, rfl⟩, hc⟩
end Go.Proofs.Ytgmlcmmphhmogaa
