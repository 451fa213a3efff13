/- clevislaw03.same of two lists that read alike. -/
import Derived.Test.YtchkombikjcokaaDoorEntS
namespace Go.Proofs.YtchkombikjcokaaDoor
open Go.RowKit
set_option maxRecDepth 100000

set_option maxHeartbeats 1000000 in
theorem same_refl (ls : List SL) (v v' : Value) (w : World) (rd : SlRd w v ls) (rd' : SlRd w v' ls) (hlen : ls.length ≤ 70368744177664) :
    Calls Tryd.prog 21 #[v, v'] w fun e w' => e = .returned (.bool true) ∧ Chg [] w w' := by
  obtain ⟨a, n, cap, rfl, rfl, hc1, hc2, hx⟩ := rd
  obtain ⟨a', n', cap', rfl, rfl, hc1', hc2', hx'⟩ := rd'
  unfold maxLen at hc2 hc2'
  have Hx := Lib.hid hx
  have HY := Lib.hid hx'
  clear hx hx'
  go_enter Tryd.func21, Tryd.ntmps21
  go_wp2_with fail
  go_loopw [5] (fun s5 wr => ∃ k : Nat, k ≤ ls.length ∧ s5 = .int .i64 (k : Int) ∧ Chg [] w wr) (fun s5 _ => ls.length - (intOf s5).toNat)
  case atStart => exact ⟨0, Nat.zero_le _, rfl, Chg.refl _ _⟩
  case round =>
    obtain ⟨k, hk, rfl, hch⟩ := hrel
    have Hch := Lib.hid hch
    clear hch
    by_cases hlt : k < ls.length
    · obtain ⟨b, off, rfl, _, hcell⟩ := Hx.out (by rintro rfl; simp at hlt)
      obtain ⟨b', off', rfl, _, hcell'⟩ := HY.out (by rintro rfl; simp at hlt)
      obtain ⟨h1, h2, h3, h4, h5⟩ := hcell k hlt
      obtain ⟨j1, j2, j3, j4, j5⟩ := hcell' k hlt
      obtain ⟨s, hs⟩ : ∃ s, s = ls.getD k .zero := ⟨_, rfl⟩
      rw [← hs] at h1 h2 h3 h4 h5 j1 j2 j3 j4 j5
      obtain ⟨c, u, o, z, g⟩ := s
      simp only at h1 h2 h3 h4 h5 j1 j2 j3 j4 j5
      replace h1 := Hch.out.cell h1 (by simp)
      replace h2 := Hch.out.cell h2 (by simp)
      replace h3 := Hch.out.cell h3 (by simp)
      replace h4 := Hch.out.cell h4 (by simp)
      replace h5 := Hch.out.cell h5 (by simp)
      replace j1 := Hch.out.cell j1 (by simp)
      replace j2 := Hch.out.cell j2 (by simp)
      replace j3 := Hch.out.cell j3 (by simp)
      replace j4 := Hch.out.cell j4 (by simp)
      replace j5 := Hch.out.cell j5 (by simp)
      clear hcell hcell' hs
      go_wp2_with fail
      go_quiet (fail)
      go_wp2
      go_roundw
      case rel => exact ⟨k + 1, hlt, by go_num, Hch.out.drewN _⟩
      case measure => simp [intOf]; omega
    · obtain rfl : k = ls.length := by omega
      go_wp2
      go_ret
      exact ⟨rfl, Hch.out⟩
end Go.Proofs.YtchkombikjcokaaDoor
