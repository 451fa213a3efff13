/- Plain: numbers' bytes one behind the other, taken one by one, and so without the last byte. No program in sight. -/
import Derived.Test.YtpodphfdoonidaaDoorPads
namespace Go.Proofs.YtpodphfdoonidaaDoor
open Go.RowKit

theorem szL_short (r : List UInt8) : ∀ i, (∀ x ∈ r, 128 ≤ x.toNat) → szL r i = 0 := by
  induction r with
  | nil => intro i _; rfl
  | cons x r ih =>
    intro i h
    have h1 := h x (List.mem_cons_self ..)
    simp only [szL]
    split
    · rfl
    · rw [if_neg (by omega), ih _ (fun y hy => h y (List.mem_cons_of_mem _ hy))]
theorem uvalV_short (r : List UInt8) (h : ∀ x ∈ r, 128 ≤ x.toNat) : uvalV r = none := by
  unfold uvalV; rw [szL_short r 0 h, if_pos rfl]
theorem svalV_short (r : List UInt8) (h : ∀ x ∈ r, 128 ≤ x.toNat) : svalV r = none := by
  unfold svalV; rw [szL_short r 0 h, if_pos rfl]
theorem wrap64_bd (n : Int) : -9223372036854775808 ≤ wrap64 n ∧ wrap64 n < 9223372036854775808 := by
  unfold wrap64; omega
/-- The i-th number's bytes. -/
def itemL (i n : Nat) : List UInt8 := if i % 2 = 0 then putU n else putS (wrap64 n)
def rowsL : Nat → List Nat → List UInt8
  | _, [] => []
  | i, n :: r => itemL i n ++ rowsL (i + 1) r
theorem itemL_len (i n : Nat) : 0 < (itemL i n).length ∧ (itemL i n).length ≤ 10 := by
  unfold itemL
  split
  · exact ⟨(putUf_length 9 n).2, (putUf_length 9 n).1⟩
  · exact ⟨(putSf_length 9 _).2, (putSf_length 9 _).1⟩
theorem rowsL_append (a b : List Nat) : ∀ i, rowsL i (a ++ b) = rowsL i a ++ rowsL (i + a.length) b := by
  induction a with
  | nil => intro i; rfl
  | cons x a ih =>
    intro i
    simp only [List.cons_append, rowsL, ih, List.length_cons, List.append_assoc]
    rw [show i + 1 + a.length = i + (a.length + 1) by omega]
theorem rowsL_len (l : List Nat) : ∀ i, (rowsL i l).length ≤ 10 * l.length := by
  induction l with
  | nil => intro i; simp [rowsL]
  | cons x l ih => intro i; have := itemL_len i x; have := ih (i + 1); simp [rowsL]; omega
theorem rowsL_ne (l : List Nat) (i : Nat) (h : l ≠ []) : rowsL i l ≠ [] := by
  cases l with
  | nil => exact absurd rfl h
  | cons x l =>
    have := (itemL_len i x).1
    intro e
    rw [rowsL, List.append_eq_nil_iff] at e
    rw [e.1] at this
    simp at this
def atL (l : List Nat) (i : Nat) : Nat := (rowsL 0 (l.take i)).length
theorem take_snocN (l : List Nat) (i : Nat) (h : i < l.length) : l.take (i + 1) = l.take i ++ [l.getD i 0] := by
  rw [List.take_add_one, List.getElem?_eq_getElem h]
  simp [List.getD_eq_getElem?_getD, h]
theorem drop_consN (l : List Nat) (i : Nat) (h : i < l.length) : l.drop i = l.getD i 0 :: l.drop (i + 1) := by
  rw [List.drop_eq_getElem_cons h]; simp [List.getD_eq_getElem?_getD, h]
theorem rows_succ (l : List Nat) (i : Nat) (h : i < l.length) : rowsL 0 (l.take (i + 1)) = rowsL 0 (l.take i) ++ itemL i (l.getD i 0) := by
  rw [take_snocN l i h, rowsL_append, List.length_take, show 0 + min i l.length = i by omega]
  simp [rowsL]
theorem atL_succ (l : List Nat) (i : Nat) (h : i < l.length) : atL l (i + 1) = atL l i + (itemL i (l.getD i 0)).length := by
  unfold atL; rw [rows_succ l i h, List.length_append]
theorem rows_drop (l : List Nat) (i : Nat) (h : i < l.length) : (rowsL 0 l).drop (atL l i) = itemL i (l.getD i 0) ++ rowsL (i + 1) (l.drop (i + 1)) := by
  have e : rowsL 0 l = rowsL 0 (l.take i) ++ rowsL i (l.drop i) := by
    rw [← List.take_append_drop i l, rowsL_append, List.take_append_drop, List.length_take, show 0 + min i l.length = i by omega]
  rw [e]
  unfold atL
  rw [List.drop_left, drop_consN l i h, rowsL]
theorem atL_all (l : List Nat) : atL l l.length = (rowsL 0 l).length := by unfold atL; rw [List.take_length]
theorem getD_mem' (l : List Nat) (i : Nat) (h : i < l.length) : l.getD i 0 ∈ l := by
  rw [List.getD_eq_getElem?_getD, List.getElem?_eq_getElem h]; exact List.getElem_mem h
theorem dropLast_drop (l : List UInt8) (n : Nat) : l.dropLast.drop n = (l.drop n).dropLast := by
  rw [List.dropLast_eq_take, List.dropLast_eq_take, List.drop_take, List.length_drop]
  congr 1; omega
section
variable (l : List Nat) (hl : ∀ n ∈ l, n < 18446744073709551616) (i : Nat) (h : i < l.length)
include hl h
theorem row_u (he : i % 2 = 0) : lebV ulebR ⟨rowsL 0 l, atL l i, false, false⟩ = (l.getD i 0 : Nat) ∧ lebS ulebR ⟨rowsL 0 l, atL l i, false, false⟩ = ⟨rowsL 0 l, atL l (i + 1), false, false⟩ := by
  have e : uvalV ((rowsL 0 l).drop (atL l i)) = some (l.getD i 0, (itemL i (l.getD i 0)).length) := by
    rw [rows_drop l i h]; unfold itemL; rw [if_pos he]; exact uvalV_put _ (hl _ (getD_mem' l i h)) _
  have := U_some false e
  rw [atL_succ l i h]
  exact this
omit hl in
theorem row_s (he : i % 2 ≠ 0) : lebV slebR ⟨rowsL 0 l, atL l i, false, false⟩ = wrap64 (l.getD i 0 : Nat) ∧ lebS slebR ⟨rowsL 0 l, atL l i, false, false⟩ = ⟨rowsL 0 l, atL l (i + 1), false, false⟩ := by
  have e : svalV ((rowsL 0 l).drop (atL l i)) = some (wrap64 (l.getD i 0 : Nat), (itemL i (l.getD i 0)).length) := by
    rw [rows_drop l i h]; unfold itemL; rw [if_neg he]; exact svalV_put _ (wrap64_bd _) _
  have := S_some false e
  rw [atL_succ l i h]
  exact this
end
/-- The cursor over the row less its last byte, behind i takings. -/
def cutS (l : List Nat) (i : Nat) : CS := if i < l.length then ⟨(rowsL 0 l).dropLast, atL l i, false, false⟩ else ⟨(rowsL 0 l).dropLast, atL l (l.length - 1), false, true⟩
theorem cut_drop (l : List Nat) (i : Nat) (h : i + 1 < l.length) : (rowsL 0 l).dropLast.drop (atL l i) = itemL i (l.getD i 0) ++ (rowsL (i + 1) (l.drop (i + 1))).dropLast := by
  rw [dropLast_drop, rows_drop l i (by omega), List.dropLast_append_of_ne_nil (rowsL_ne _ _ (by intro e; rw [List.drop_eq_nil_iff] at e; omega))]
theorem cut_last (l : List Nat) (i : Nat) (h : i + 1 = l.length) : (rowsL 0 l).dropLast.drop (atL l i) = (itemL i (l.getD i 0)).dropLast := by
  rw [dropLast_drop, rows_drop l i (by omega), show l.drop (i + 1) = [] by rw [h]; exact List.drop_length, rowsL, List.append_nil]
theorem item_marks (i n : Nat) (hn : n < 18446744073709551616) : ∀ x ∈ (itemL i n).dropLast, 128 ≤ x.toNat := by
  unfold itemL
  split
  · obtain ⟨r, b, e, hb, hr⟩ := putUf_shape 9 n (lt_pow10 n hn)
    rw [show putU n = r ++ [b] from e, List.dropLast_concat]; exact hr
  · obtain ⟨r, b, e, hb, hr, _⟩ := putSf_shape 9 (wrap64 n) (by have := wrap64_bd n; omega)
    rw [show putS (wrap64 n) = r ++ [b] from e, List.dropLast_concat]; exact hr
section
variable (l : List Nat) (hl : ∀ n ∈ l, n < 18446744073709551616) (i : Nat) (h : i < l.length)
include hl h
theorem cut_u (he : i % 2 = 0) : lebS ulebR (cutS l i) = cutS l (i + 1) := by
  unfold cutS
  rw [if_pos h]
  by_cases h2 : i + 1 < l.length
  · rw [if_pos h2, atL_succ l i h]
    refine (U_some false (v := l.getD i 0) ?_).2
    rw [cut_drop l i h2]; unfold itemL; rw [if_pos he]; exact uvalV_put _ (hl _ (getD_mem' l i h)) _
  · rw [if_neg h2, show l.length - 1 = i by omega]
    refine (U_none false ?_).2
    rw [cut_last l i (by omega)]
    exact uvalV_short _ (item_marks i _ (hl _ (getD_mem' l i h)))
theorem cut_s (he : i % 2 ≠ 0) : lebS slebR (cutS l i) = cutS l (i + 1) := by
  unfold cutS
  rw [if_pos h]
  by_cases h2 : i + 1 < l.length
  · rw [if_pos h2, atL_succ l i h]
    refine (S_some false (v := wrap64 (l.getD i 0 : Nat)) ?_).2
    rw [cut_drop l i h2]; unfold itemL; rw [if_neg he]; exact svalV_put _ (wrap64_bd _) _
  · rw [if_neg h2, show l.length - 1 = i by omega]
    refine (S_none false ?_).2
    rw [cut_last l i (by omega)]
    exact svalV_short _ (item_marks i _ (hl _ (getD_mem' l i h)))
end
theorem cut_zero (l : List Nat) (h : l ≠ []) : cutS l 0 = ⟨(rowsL 0 l).dropLast, 0, false, false⟩ := by
  unfold cutS; rw [if_pos (List.length_pos_iff.2 h)]; rfl
theorem cut_end (l : List Nat) : (cutS l l.length).failed = true := by unfold cutS; rw [if_neg (by omega)]
end Go.Proofs.YtpodphfdoonidaaDoor
