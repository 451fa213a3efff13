/- clevislaw03.few; the document's Make at either width. -/
import Derived.Test.YtchkombikjcokaaDoorRMkN
import Derived.Test.YtchkombikjcokaaDoorRMkW
namespace Go.Proofs.YtchkombikjcokaaDoor
open Go.RowKit
set_option maxRecDepth 100000

theorem RMake_any (wide : Bool) (ms : List Mem) (hok : ∀ m ∈ ms, m.ok) (hn : ms.length ≤ 1000) (hb : ∀ m ∈ ms, m.bytes.length ≤ 2097152) (a : Option Addr) (cap : Nat) (w : World) (rd : MemRd w (.slice a ms.length cap) ms) :
    Calls Tryd.prog 26 #[.bool wide, .slice a ms.length cap] w fun e w' => ∃ v, e = .returned (.tuple #[v, .int .i64 (fatE wide ms)]) ∧ (fatE wide ms = 0 → Rd w' v (bytesV (fatL wide ms))) ∧ (fatE wide ms ≠ 0 → v = .slice none 0 0) ∧ Chg [] w w' := by
  cases wide
  · exact RMake_false ms hok hn hb a cap w rd
  · exact RMake_true ms hok hn hb a cap w rd

/-- Are there few parts, of few bytes? -/
def fewB (ms : List Mem) (most : Nat) : Bool := (ms.all fun m => decide (m.bytes.length ≤ 3000)) && decide (ms.length ≤ most)
theorem fewB_len {ms : List Mem} {most : Nat} (h : fewB ms most = true) : ms.length ≤ most ∧ ∀ m ∈ ms, m.bytes.length ≤ 3000 := by
  unfold fewB at h
  rw [Bool.and_eq_true, decide_eq_true_iff, List.all_eq_true] at h
  exact ⟨h.2, fun m hm => by simpa using h.1 m hm⟩
theorem few_any (ms : List Mem) (most : Nat) (a : Option Addr) (cap : Nat) (w : World) (rd : MemRd w (.slice a ms.length cap) ms) :
    Calls Tryd.prog 25 #[.slice a ms.length cap, .int .i64 most] w fun e w' => e = .returned (.bool (fewB ms most)) ∧ w' = w := by
  obtain ⟨_, _, _, he, _, hc1, hc2, hx⟩ := rd
  cases he
  unfold maxLen at hc2
  have Hx := Lib.hid hx
  clear hx
  go_enter Tryd.func25, Tryd.ntmps25
  go_wp2_with fail
  go_loop [5] (fun s5 => ∃ k : Nat, k ≤ ms.length ∧ s5 = .int .i64 (k : Int) ∧ (∀ m ∈ ms.take k, m.bytes.length ≤ 3000)) (fun s5 => ms.length - (intOf s5).toNat)
  case atStart => exact ⟨0, Nat.zero_le _, rfl, by simp⟩
  case round =>
    obtain ⟨k, hk, rfl, hal⟩ := hrel
    have Hal := Lib.hid hal
    clear hal
    by_cases hlt : k < ms.length
    · obtain ⟨b, off, rfl, hb0, hcell⟩ := Hx.out (by rintro rfl; simp at hlt)
      obtain ⟨_, _, _, a', cap', k4, _⟩ := hcell k hlt
      obtain ⟨p, hp⟩ : ∃ p, p = ms.getD k .zero := ⟨_, rfl⟩
      rw [← hp] at k4
      have HMEM : Hid (p ∈ ms) := Lib.hid (by rw [hp]; exact mem_getD hlt)
      have HP := Lib.hid (hp)
      clear hcell hb0 hp
      by_cases hl : p.bytes.length ≤ 3000
      · have HA1 : Hid (∀ m ∈ ms.take (k + 1), m.bytes.length ≤ 3000) := by
          refine Lib.hid ?_
          rw [getD_take ms .zero k hlt, ← HP.out]
          intro m hm
          rw [List.mem_append, List.mem_singleton] at hm
          rcases hm with hm | rfl
          · exact Hal.out m hm
          · exact hl
        have d1 : decide ((3000 : Int) < (p.bytes.length : Int)) = false := by simp; omega
        go_wp2
        go_round
        case rel => exact ⟨k + 1, hlt, by go_num, HA1.out⟩
        case measure => simp [intOf]; omega
      · have d1 : decide ((3000 : Int) < (p.bytes.length : Int)) = true := by simp; omega
        have HF : Hid (fewB ms most = false) := by
          refine Lib.hid ?_
          unfold fewB
          rw [Bool.and_eq_false_iff]
          left
          rw [List.all_eq_false]
          exact ⟨p, HMEM.out, by simpa using hl⟩
        clear hl
        go_wp2
        go_ret
        rw [HF.out]
        exact ⟨rfl, rfl⟩
    · obtain rfl : k = ms.length := by omega
      rw [List.take_length] at Hal
      have HF : Hid (fewB ms most = decide (ms.length ≤ most)) := by
        refine Lib.hid ?_
        unfold fewB
        rw [List.all_eq_true.2 (fun m hm => by simpa using Hal.out m hm), Bool.true_and]
      go_wp2
      go_ret
      rw [HF.out]
      exact ⟨rfl, rfl⟩
end Go.Proofs.YtchkombikjcokaaDoor
