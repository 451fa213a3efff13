/- The cursor as an abstract state (bytes, place, which way round, failed), and what each method does to it. -/
import Derived.Test.YtkclmknepbbhnaaDoorNum
namespace Go.Proofs.YtkclmknepbbhnaaDoor
open Go.RowKit

structure CS where
  l : List UInt8
  at_ : Nat
  big : Bool
  failed : Bool
/-- The cursor at block b is in state s. -/
def CurB (w : World) (b : Nat) (s : CS) : Prop :=
  ∃ a n cap, w.heap[b]? = some (.cells #[.slice a n cap, .int .i64 s.at_, .bool s.big, .bool s.failed] 97 (0, 0)) ∧ n = s.l.length ∧ n ≤ cap ∧ cap ≤ maxLen ∧ n ≤ 140737488355328 ∧ s.at_ ≤ n ∧
    (0 < n → ∃ d off c, a = some ⟨d, off, none⟩ ∧ d < b ∧ w.heap[d]? = some (.cells c 5 (0, 0)) ∧ ∀ j, j < n → w.cell? ⟨d, off + j, none⟩ = some (.int .u8 (s.l.getD j 0).toNat))

theorem CurB.lt {w : World} {b : Nat} {s : CS} (h : CurB w b s) : b < w.heap.size := by
  obtain ⟨a, n, cap, hb, _⟩ := h; exact lt_of_heap hb
theorem CurB.at_le {w : World} {b : Nat} {s : CS} (h : CurB w b s) : s.at_ ≤ s.l.length := by
  obtain ⟨a, n, cap, hb, rfl, _, _, _, h, _⟩ := h; exact h
theorem CurB.len_le {w : World} {b : Nat} {s : CS} (h : CurB w b s) : s.l.length ≤ 140737488355328 := by
  obtain ⟨a, n, cap, hb, rfl, _, _, h, _, _⟩ := h; exact h
theorem CurB.frame {w w' : World} {b : Nat} {s : CS} (h : CurB w b s) (k : Chg [] w w') : CurB w' b s := by
  obtain ⟨a, n, cap, hb, h1, h2, h3, h4, h5, h6⟩ := h
  refine ⟨a, n, cap, k.heap hb (by simp), h1, h2, h3, h4, h5, fun hn => ?_⟩
  obtain ⟨d, off, c, ha, hdb, hd, hc⟩ := h6 hn
  exact ⟨d, off, c, ha, hdb, k.heap hd (by simp), fun j hj => k.cell (hc j hj) (by simp)⟩
theorem CurB.frame2 {w w' : World} {b b2 : Nat} {s s2 : CS} (h : CurB w b s) (h2 : CurB w b2 s2) (hne : b ≠ b2) (k : Chg [b2] w w') : CurB w' b s := by
  obtain ⟨a, n, cap, hb, h1, h2', h3, h4, h5, h6⟩ := h
  obtain ⟨_, _, _, hb2, _⟩ := h2
  refine ⟨a, n, cap, k.heap hb (by simpa using hne), h1, h2', h3, h4, h5, fun hn => ?_⟩
  obtain ⟨d, off, c, ha, hdb, hd, hc⟩ := h6 hn
  have hd2 : d ∉ [b2] := by
    intro hm
    rw [List.mem_singleton] at hm
    subst hm
    rw [hd] at hb2
    simp at hb2
  exact ⟨d, off, c, ha, hdb, k.heap hd hd2, fun j hj => k.cell (hc j hj) hd2⟩
/-- A store into one of the cursor's own cells but the first. -/
theorem CurB.store {w w' : World} {b : Nat} {s s' : CS} (h : CurB w b s) (j : Nat) (v : Value) (hd : Dr (w.setCell ⟨b, j, none⟩ v) w') (hl : s'.l = s.l) (hat : s'.at_ ≤ s.l.length)
    (hs : ∀ x, (#[x, .int .i64 s.at_, .bool s.big, .bool s.failed] : Array Value).setIfInBounds j v = #[x, .int .i64 s'.at_, .bool s'.big, .bool s'.failed]) : CurB w' b s' ∧ Chg [b] w w' := by
  obtain ⟨a, n, cap, hb, h1, h2, h3, h4, h5, h6⟩ := h
  have hc : Chg [b] w w' := ((Chg.refl [b] w).setCell ⟨b, j, none⟩ v (.inl (by simp))).dr hd
  refine ⟨⟨a, n, cap, ?_, by rw [hl]; exact h1, h2, h3, h4, by rw [h1]; exact hat, fun hn => ?_⟩, hc⟩
  · rw [hd.heap, heap_setCell hb, hs]
  · obtain ⟨d, off, c, ha, hdb, hd', hc'⟩ := h6 hn
    exact ⟨d, off, c, ha, hdb, hc.heap hd' (by simp; omega), fun j hj => by rw [hl]; exact hc.cell (hc' j hj) (by simp; omega)⟩

def failS (s : CS) : CS := { s with failed := true }
def seekS (s : CS) (at_ : Int) : CS := if 0 ≤ at_ ∧ at_ ≤ s.l.length then (if s.failed then s else { s with at_ := at_.toNat }) else failS s
def okSize (n : Int) : Bool := n = 1 ∨ n = 2 ∨ n = 4 ∨ n = 8
/-- May so many bytes be taken? -/
def canTake (s : CS) (n : Int) : Bool := !s.failed && decide (0 ≤ n ∧ n ≤ s.l.length - s.at_)
def takeS (s : CS) (n : Int) : CS := if canTake s n then { s with at_ := s.at_ + n.toNat } else failS s
def takeL (s : CS) (n : Int) : List UInt8 := if canTake s n then (s.l.drop s.at_).take n.toNat else []
def numberS (s : CS) (n : Int) : CS := if okSize n then takeS s n else failS s
def numberV (s : CS) (n : Int) : Nat := if okSize n then numOf s.big (takeL s n) else 0

theorem Left_cur (b : Nat) (s : CS) (w : World) (h : CurB w b s) :
    Calls Tryd.prog 57 #[.pointer (some ⟨b, 0, none⟩)] w fun e w' => e = .returned (.int .i64 ((s.l.length : Int) - s.at_)) ∧ Dr w w' := by
  obtain ⟨a, n, cap, hb, rfl, h2, h3, h4, h5, h6⟩ := h
  exact Left_any b _ _ _ _ _ _ w hb (by omega) h4 (by omega)
theorem Fail_cur (b : Nat) (s : CS) (w : World) (h : CurB w b s) :
    Calls Tryd.prog 49 #[.pointer (some ⟨b, 0, none⟩)] w fun e w' => e = .returned (.tuple #[]) ∧ CurB w' b (failS s) ∧ Chg [b] w w' := by
  have h' := h
  obtain ⟨a, n, cap, hb, _⟩ := h
  refine (Fail_any b _ _ _ _ w hb).mono fun e w' ⟨he, hw⟩ => ⟨he, ?_⟩
  subst hw
  exact h'.store 3 _ (Dr.refl _) rfl h'.at_le (fun x => rfl)
theorem well_cur (b : Nat) (s : CS) (is : Bool) (w : World) (h : CurB w b s) :
    Calls Tryd.prog 46 #[.pointer (some ⟨b, 0, none⟩), .bool is] w fun e w' => e = .returned (.bool (is && !s.failed)) ∧ CurB w' b (if is then s else failS s) ∧ Chg [b] w w' := by
  have h' := h
  obtain ⟨a, n, cap, hb, _⟩ := h
  refine (well_any b _ _ _ _ is w hb).mono fun e w' ⟨he, hw⟩ => ⟨he, ?_⟩
  subst hw
  cases is
  · exact h'.store 3 _ (Dr.refl _) rfl h'.at_le (fun x => rfl)
  · exact ⟨h', Chg.refl _ _⟩

theorem Seek_cur (b : Nat) (s : CS) (at_ : Int) (w : World) (h : CurB w b s) :
    Calls Tryd.prog 50 #[.pointer (some ⟨b, 0, none⟩), .int .i64 at_] w fun e w' => e = .returned (.tuple #[]) ∧ CurB w' b (seekS s at_) ∧ Chg [b] w w' := by
  have h' := h
  obtain ⟨a, n, cap, hb, h1, h2, h3, h4, h5, h6⟩ := h
  have hc0 := cell_of_heap hb 0
  have hc1 := cell_of_heap hb 1
  have f1 := frozen_of_heap hb 1
  simp at hc0 hc1
  have H1 := Lib.hid h1
  have hat := Lib.hid h'.at_le
  clear h1 h6
  unfold maxLen at h3
  have HP : Hid ((0 ≤ at_ ∧ at_ ≤ n) = (0 ≤ at_ ∧ at_ ≤ (s.l.length : Int))) := by rw [← H1.out]; exact rfl
  have H' := Lib.hid h'
  clear h'
  by_cases hi : 0 ≤ at_ ∧ at_ ≤ n
  · obtain ⟨hi1, hi2⟩ := hi
    have HC : Hid (0 ≤ at_ ∧ at_ ≤ (s.l.length : Int)) := by show _; rw [← H1.out]; exact ⟨hi1, hi2⟩
    cases hf : s.failed with
    | true =>
      rw [hf] at hb
      have HF := Lib.hid hf
      clear hf
      go_enter Tryd.func50, Tryd.ntmps50
      go_wp2_with fail
      refine (well_any b _ _ _ true true w hb).mono ?_
      rintro e w' ⟨rfl, rfl⟩
      go_wp2
      go_end0
      exact ⟨rfl, by unfold seekS; rw [if_pos HC.out, if_pos HF.out]; exact H'.out, Chg.refl _ _⟩
    | false =>
      rw [hf] at hb
      have HF := Lib.hid hf
      clear hf
      go_enter Tryd.func50, Tryd.ntmps50
      go_wp2_with fail
      refine (well_any b _ _ _ false true w hb).mono ?_
      rintro e w' ⟨rfl, rfl⟩
      go_wp2
      go_end0
      refine ⟨rfl, ?_⟩
      unfold seekS; rw [if_pos HC.out, if_neg (by rw [HF.out]; decide)]
      refine H'.out.store 1 _ (Dr.refl _) rfl (by have := HC.out; show at_.toNat ≤ _; omega) (fun x => ?_)
      simp; omega
  · have HC : Hid (¬ (0 ≤ at_ ∧ at_ ≤ (s.l.length : Int))) := by show ¬ _; rw [← H1.out]; exact hi
    have hn : at_ < 0 ∨ (0 ≤ at_ ∧ n < at_) := by omega
    clear hi
    have hdec : 0 ≤ at_ → decide (at_ ≤ (n : Int)) = false := fun h => by simp; omega
    rcases hn with hn | ⟨hn1, hn2⟩
    rotate_left
    have hdec := hdec hn1
    rotate_left
    all_goals
      go_enter Tryd.func50, Tryd.ntmps50
      go_wp2_with fail
      refine (well_cur b s false w H'.out).mono ?_
      rintro e w' ⟨rfl, hcur, hchg⟩
      simp only [Bool.false_and]
      have HR := Lib.hid hcur
      have HG := Lib.hid hchg
      clear hcur hchg
      go_wp2
      go_end0
      refine ⟨rfl, ?_, HG.out⟩
      have := HR.out
      unfold seekS; rw [if_neg HC.out]; simpa using this
end Go.Proofs.YtkclmknepbbhnaaDoor
