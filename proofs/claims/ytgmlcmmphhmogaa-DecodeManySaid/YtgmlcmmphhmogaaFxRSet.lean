/- clevisref12.Set. -/
import Derived.Test.YtgmlcmmphhmogaaFxSame
namespace Go.Proofs.Ytgmlcmmphhmogaa
open Go.RowKit
set_option maxRecDepth 100000

theorem ss_lt {S : List Fx} (h : SS S) {i j : Nat} (hij : i < j) (hj : j < S.length) : ordF (S.getD i .zero) (S.getD j .zero) < 0 := by
  have := List.pairwise_iff_getElem.1 h i j (by omega) hj hij
  simpa [List.getD_eq_getElem?_getD, hj, show i < S.length by omega] using this
theorem ss_low {S : List Fx} (h : SS S) {x : Fx} {m : Nat} (hm : m < S.length) (hx : ordF (S.getD m .zero) x < 0) : ∀ j, j < m + 1 → ordF (S.getD j .zero) x < 0 := by
  intro j hj
  by_cases e : j = m
  · subst e; exact hx
  · exact ord_lt_trans (ss_lt h (by omega) hm) hx
theorem ss_high {S : List Fx} (h : SS S) {x : Fx} {m : Nat} (hx : ¬ ordF (S.getD m .zero) x < 0) : ∀ j, m ≤ j → j < S.length → ¬ ordF (S.getD j .zero) x < 0 := by
  intro j h1 h2 hj
  by_cases e : j = m
  · subst e; exact hx hj
  · exact hx (ord_lt_trans (ss_lt h (by omega) h2) hj)
theorem take_sn (S : List Fx) (z : Fx) (k : Nat) (h : k ≤ S.length) : (S ++ [z]).take k = S.take k := List.take_append_of_le_length h
theorem cur_set (S : List Fx) (z x : Fx) (lo : Nat) (h : lo ≤ S.length) : ((S ++ [z]).take (lo + 1) ++ S.drop lo).set lo x = S.take lo ++ x :: S.drop lo := by
  rw [getD_take (S ++ [z]) .zero lo (by simp; omega), take_sn S z lo h, List.append_assoc, List.set_append_right _ _ (by rw [List.length_take]; omega)]
  have e : lo - (S.take lo).length = 0 := by rw [List.length_take]; omega
  rw [e]
  rfl
theorem shift_set (S : List Fx) (z : Fx) (k : Nat) (h : k < S.length) : ((S ++ [z]).take (k + 2) ++ S.drop (k + 1)).set (k + 1) (S.getD k .zero) = (S ++ [z]).take (k + 1) ++ S.drop k := by
  rw [cur_set S z _ (k + 1) (by omega), take_sn S z (k + 1) (by omega)]
  congr 1
  rw [List.drop_eq_getElem_cons h]
  congr 1
  simp [List.getD_eq_getElem?_getD, h]
theorem cur_len (S : List Fx) (z : Fx) (k : Nat) (h : k ≤ S.length) : ((S ++ [z]).take (k + 1) ++ S.drop k).length = S.length + 1 := by
  rw [List.length_append, List.length_take, List.length_append, List.length_drop, List.length_singleton]; omega
theorem cur_get (S : List Fx) (z : Fx) (k : Nat) (h : k < S.length) : ((S ++ [z]).take (k + 2) ++ S.drop (k + 1)).getD k .zero = S.getD k .zero := by
  rw [List.getD_eq_getElem?_getD, List.getD_eq_getElem?_getD, List.getElem?_append_left (by rw [List.length_take, List.length_append, List.length_singleton]; omega), List.getElem?_take, if_pos (by omega), List.getElem?_append_left h]
end Go.Proofs.Ytgmlcmmphhmogaa
