/- The cursor's Number, walked. -/
import Derived.Test.YtkclmknepbbhnaaDoorCur
import Derived.Test.YtkclmknepbbhnaaDoorNumP
namespace Go.Proofs.YtkclmknepbbhnaaDoor
open Go.RowKit

theorem number_some (b d off n cap at_ : Nat) (m : Nat) (big : Bool) (l : List UInt8) (w : World)
   (h : w.heap[b]? = some (.cells #[.slice (some ⟨d, off, none⟩) n cap, .int .i64 at_, .bool big, .bool false] 97 (0, 0)))
   (hn : n ≤ 140737488355328) (hc : n ≤ cap) (hc2 : cap ≤ 9223372036854775807) (hm : m = 1 ∨ m = 2 ∨ m = 4 ∨ m = 8) (hm2 : at_ + m ≤ n) (hbd : d ≠ b) (hll : l.length = m)
   (hl : ∀ j, j < m → w.cell? ⟨d, off + at_ + j, none⟩ = some (.int .u8 (l.getD j 0).toNat)) :
    Calls Tryd.prog 25 #[.pointer (some ⟨b, 0, none⟩), .int .i64 m] w fun e w' =>
      e = .returned (.int .u64 (numOf big l)) ∧ Dr (w.setCell ⟨b, 1, none⟩ (.int .i64 ((at_ : Int) + m))) w' := by
  rcases hm with rfl | rfl | rfl | rfl
  all_goals
    go_enter Tryd.func25, Tryd.ntmps25
    go_wp2_with fail
    refine (well_any b _ _ _ false true w h).mono ?_
    rintro e w' ⟨rfl, rfl⟩
    go_wp2_with fail
    refine (take_some b (some ⟨d, off, none⟩) n cap at_ _ _ w h (by omega) hn (by omega) (by omega) (by omega) hc hc2 (fun _ => ⟨_, _, rfl⟩)).mono ?_
    rintro e w1 ⟨rfl, hd⟩
    have hb2 := (hd.cell ⟨b, 2, none⟩).trans ((World.cell?_setCell_other w ⟨b, 1, none⟩ ⟨b, 2, none⟩ _ (by simp)).trans (cell_of_heap h 2))
    have hl2 := fun j hj => (hd.cell ⟨d, off + at_ + j, none⟩).trans ((World.cell?_setCell_other w ⟨b, 1, none⟩ ⟨d, off + at_ + j, none⟩ _ (by simp)).trans (hl j hj))
    clear hl h
    simp at hb2
    have HL := Lib.hid hll
    have HD := Lib.hid hd
    clear hll hd
    go_wp2_with fail
    go_loop [4, 5, 6, 28] (fun acc i x k28 => ∃ (k : Nat), k ≤ l.length ∧ k28 = .int .i64 k ∧ acc = .int .u64 (numOf big (l.take k))) (fun _ _ _ k28 => l.length - (intOf k28).toNat)
    case atStart => exact ⟨0, by omega, rfl, by cases big <;> rfl⟩
    case round =>
      obtain ⟨k, hk, rfl, rfl⟩ := hrel
      rw [HL.out] at hk
      by_cases hlt : k < l.length
      · have hlt' := hlt
        rw [HL.out] at hlt'
        have hlk := hl2 k hlt'
        have HS := Lib.hid (le_step l k hlt (by rw [HL.out]; omega))
        have HB := Lib.hid (be_step l k hlt (by rw [HL.out]; omega))
        have HX := Lib.hid hlt
        clear hlt hl2
        cases big
        all_goals
          simp only [numOf, if_true, if_false, Bool.false_eq_true]
          go_wp2
          go_round
          case rel => exact ⟨k + 1, HX.out, by go_num, by first | rw [HS.out] | rw [HB.out]⟩
          case measure => have := HX.out; simp [intOf]; omega
      · have hge := Nat.le_of_not_lt hlt
        have E2 := Lib.hid (List.take_of_length_le hge)
        rw [HL.out] at hge
        clear hlt hl2
        go_wp2
        go_ret
        exact ⟨by rw [E2.out]; rfl, HD.out⟩
end Go.Proofs.YtkclmknepbbhnaaDoor
