/- Slices of byte slices. -/
import Derived.Test.YtpodphfdoonidaaDoorRefU
import Derived.Test.YtpodphfdoonidaaDoorStr
namespace Go.Proofs.YtpodphfdoonidaaDoor
open Go.RowKit

theorem Tryd.elemB : Tryd.prog.elem 22 = 5 := by kernel_rfl
theorem Tryd.sizeB (w : World) : (sizeOf 5).run Tryd.prog w = .ok 1 w := by kernel_rfl
theorem Tryd.slB : Tryd.prog.underlying 22 = some (.slice (Tryd.prog.elem 22)) := by rw [Tryd.elemB]; exact Tryd.underlying22
/-- x[k:]. -/
theorem slice_from (a : Option Addr) (len cap k : Nat) (hk : k ≤ len) :
    ∃ a2, (∀ W, (Instr.slice 22 (.slice a len cap) (some (.int .i64 k)) none none).run Tryd.prog W = .ok (.slice a2 (len - k) (cap - k)) W) ∧
      (∀ W xs, Rd W (.slice a len cap) xs → Rd W (.slice a2 (len - k) (cap - k)) (xs.drop k)) ∧ (a2 = none → a = none) ∧ (∀ x, a2 = some x → ∃ y, a = some y ∧ y.block = x.block) := by
  refine ⟨if cap = k then a else a.map (·.add (k * 1)), fun W => ?_, fun W xs h => ?_, ?_, ?_⟩
  · rw [run_slice_l (P := Tryd.prog) (w := W) (t := 22) (a := a) (len := len) (cap := cap) (ht := Tryd.slB) .i64 (k : Int) (by omega) (by omega), Tryd.elemB, Tryd.sizeB]
    simp [Result.andThen, sliced]
  · obtain ⟨a', n', cap', he, hn, hnc, hcm, hx⟩ := h
    cases he
    refine ⟨_, _, _, rfl, by simp; omega, by omega, by omega, fun hne => ?_⟩
    have hpos : k < xs.length := by
      rcases Nat.lt_or_ge k xs.length with h | h
      · exact h
      · exact absurd (List.drop_eq_nil_of_le h) hne
    obtain ⟨b, off, rfl, hc⟩ := hx (by intro e; rw [e] at hpos; simp at hpos)
    refine ⟨b, off + k, by rw [if_neg (by omega)]; simp [Addr_add], fun j hj => ?_⟩
    simp only [List.length_drop] at hj
    rw [Nat.add_assoc, hc (k + j) (by omega), List.getElem?_drop]
  · split
    · exact id
    · cases a <;> simp
  · intro x
    split
    · intro h; exact ⟨x, h, rfl⟩
    · cases a with
      | none => simp
      | some y =>
        intro h
        simp at h
        exact ⟨y, rfl, by rw [← h]; unfold Addr.add; split <;> rfl⟩
theorem bytesV_drop (l : List UInt8) (k : Nat) : (bytesV l).drop k = bytesV (l.drop k) := by simp [bytesV]

theorem uvalV_pos (l : List UInt8) (v n : Nat) (h : uvalV l = some (v, n)) : 0 < n := by
  unfold uvalV at h
  split at h
  · cases h
  · split at h
    · cases h
    · cases h; omega
theorem svalV_pos (l : List UInt8) (v : Int) (n : Nat) (h : svalV l = some (v, n)) : 0 < n := by
  unfold svalV at h
  split at h
  · cases h
  · split at h
    · cases h
    · cases h; omega
theorem lebV_u (l : List UInt8) (k : Nat) (big : Bool) : lebV ulebR ⟨l, k, big, false⟩ = (((uvalV (l.drop k)).getD (0, 0)).1 : Int) := by
  simp only [lebV, Bool.false_eq_true, if_false, ulebR_eq]
  cases uvalV (l.drop k) <;> rfl
theorem lebV_s (l : List UInt8) (k : Nat) (big : Bool) : lebV slebR ⟨l, k, big, false⟩ = ((svalV (l.drop k)).getD (0, 0)).1 := by
  simp only [lebV, Bool.false_eq_true, if_false, slebR_eq]
  cases svalV (l.drop k) <;> rfl
theorem lebS_u (l : List UInt8) (k : Nat) (big : Bool) : lebS ulebR ⟨l, k, big, false⟩ = ⟨l, k + ((uvalV (l.drop k)).getD (0, 0)).2, big, ((uvalV (l.drop k)).getD (0, 0)).2 == 0⟩ := by
  simp only [lebS, Bool.false_eq_true, if_false, ulebR_eq]
  cases h : uvalV (l.drop k) with
  | none => simp [failS]
  | some p =>
    have := uvalV_pos _ p.1 p.2 h
    simp; omega
theorem lebS_s (l : List UInt8) (k : Nat) (big : Bool) : lebS slebR ⟨l, k, big, false⟩ = ⟨l, k + ((svalV (l.drop k)).getD (0, 0)).2, big, ((svalV (l.drop k)).getD (0, 0)).2 == 0⟩ := by
  simp only [lebS, Bool.false_eq_true, if_false, slebR_eq]
  cases h : svalV (l.drop k) with
  | none => simp [failS]
  | some p =>
    have := svalV_pos _ p.1 p.2 h
    simp; omega
theorem lebV_failed (r : List UInt8 → Option (Int × Nat)) (s : CS) (h : s.failed = true) : lebV r s = 0 := by unfold lebV; rw [if_pos h]
theorem lebS_failed (r : List UInt8 → Option (Int × Nat)) (s : CS) (h : s.failed = true) : lebS r s = s := by unfold lebS; rw [if_pos h]
end Go.Proofs.YtpodphfdoonidaaDoor
