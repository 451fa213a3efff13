/- What is read as commands may be (plain). -/
import Derived.Test.YtchkombikjcokaaDoorReadT
import Derived.Test.YtchkombikjcokaaDoorMay
namespace Go.Proofs.YtchkombikjcokaaDoor
open Go.RowKit
set_option maxRecDepth 100000

theorem cmdC_may (l : List UInt8) (z0 k : Nat) (hz : 32 + z0 ≤ l.length) (h : allC l z0 (k + 1) = true) : mayB (cmdC l z0 k).1 (cmdC l z0 k).2 = true := by
  have hlen := cmdC_len l z0 k hz h
  rw [allC_succ, Bool.and_eq_true] at h
  obtain ⟨h1, h2, h3, h4⟩ := (okC_eq l z0 k).1 h.2
  have e1 : leNum ((cmdC l z0 k).2.take 4) = (cmdC l z0 k).1 := by
    show leNum (((l.drop _).take (szC l z0 k)).take 4) = leNum ((l.drop _).take 4)
    rw [List.take_take, Nat.min_eq_left (by omega)]
  have e2 : leNum (((cmdC l z0 k).2.drop 4).take 4) = szC l z0 k := by
    show leNum ((((l.drop _).take (szC l z0 k)).drop 4).take 4) = leNum ((l.drop _).take 4)
    rw [List.drop_take, List.take_take, Nat.min_eq_left (by omega), List.drop_drop]
  unfold mayB
  rw [e1, e2, hlen]
  simp
  omega
theorem headE_zero {l : List UInt8} (h : headE l = 0) : 32 ≤ l.length ∧ nL l 16 ≤ 256 ∧ 32 + nL l 20 ≤ l.length := by
  unfold headE at h
  (repeat' split at h) <;> first | (exact absurd h (by decide)) | omega
theorem readE_zero {l : List UInt8} (h : readE l = 0) : headE l = 0 ∧ allC l (nL l 20) (nL l 16) = true := by
  unfold readE at h
  (repeat' split at h) <;> first | (exact absurd h (by decide)) | exact ⟨by assumption, by assumption⟩ | exact absurd h (by assumption)
theorem readCs_may (l : List UInt8) : ∀ c ∈ readCs l, mayB c.1 c.2 = true ∧ c.2.length ≤ l.length := by
  unfold readCs
  by_cases h : readE l = 0
  · rw [if_pos h]
    obtain ⟨h1, h2⟩ := readE_zero h
    obtain ⟨_, _, h3⟩ := headE_zero h1
    intro c hc
    obtain ⟨k, hk, rfl⟩ := List.mem_map.1 hc
    have hk := List.mem_range.1 hk
    have ha := allC_mono h2 (show k + 1 ≤ nL l 16 by omega)
    refine ⟨cmdC_may l _ k h3 ha, ?_⟩
    show ((l.drop _).take _).length ≤ _
    rw [List.length_take, List.length_drop]
    omega
  · rw [if_neg h]
    intro c hc
    cases hc
theorem readCs_len (l : List UInt8) : (readCs l).length ≤ 256 := by
  unfold readCs
  split
  · rename_i h
    rw [cmdsC_len]
    exact (headE_zero (readE_zero h).1).2.1
  · exact Nat.zero_le _
end Go.Proofs.YtchkombikjcokaaDoor
