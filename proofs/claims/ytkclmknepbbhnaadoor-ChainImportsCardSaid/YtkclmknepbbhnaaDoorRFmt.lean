/- clevisref15.Format. -/
import Derived.Test.YtkclmknepbbhnaaDoorFmt
namespace Go.Proofs.YtkclmknepbbhnaaDoor
open Go.RowKit
set_option maxRecDepth 100000

theorem fmtN_snoc (l : List Imp) (x : Imp) : fmtN (l ++ [x]) = if bigA x then 3 else if x.add ≠ 0 then (if fmtN l = 3 then 3 else 2) else fmtN l := by
  unfold fmtN
  have e1 : [x].any bigA = bigA x := by simp
  have e2 : [x].any (fun x => decide (x.add ≠ 0)) = decide (x.add ≠ 0) := by simp
  rw [List.any_append, List.any_append, e1, e2]
  generalize l.any bigA = A
  generalize l.any (fun x => decide (x.add ≠ 0)) = C
  generalize bigA x = B
  by_cases h : x.add = 0 <;> cases A <;> cases B <;> cases C <;> simp [h]
theorem fmtN_cases (l : List Imp) : fmtN l = 1 ∨ fmtN l = 2 ∨ fmtN l = 3 := by
  unfold fmtN
  split
  · exact .inr (.inr rfl)
  · split
    · exact .inr (.inl rfl)
    · exact .inl rfl
set_option maxHeartbeats 4000000 in
theorem rformat_any (l : List Imp) (v : Value) (w : World) (rd : impL.Rd w v l) :
    Calls Tryd.prog 20 #[v] w fun e w' => e = .returned (.int .i64 (fmtN l)) ∧ Chg [] w w' := by
  obtain ⟨a, cap, rfl, hc1, hc2⟩ := rd.shape
  have Rd := Lib.hid rd
  clear rd
  go_enter Tryd.func20, Tryd.ntmps20
  go_wp2_with fail
  go_loopw [3, 4] (fun s3 s4 wr => ∃ k : Nat, k ≤ l.length ∧ s4 = .int .i64 (k : Int) ∧ s3 = .int .i64 (fmtN (l.take k)) ∧ Chg [] w wr) (fun _ s4 _ => l.length - (intOf s4).toNat)
  case atStart => exact ⟨0, Nat.zero_le _, rfl, rfl, Chg.refl _ _⟩
  case round =>
    obtain ⟨k, hk, rfl, rfl, hch⟩ := hrel
    obtain ⟨F, hF⟩ : ∃ F : Int, F = fmtN (l.take k) := ⟨_, rfl⟩
    rw [← hF]
    by_cases hlt : k < l.length
    · obtain ⟨b, off, rfl, hb, hcell⟩ := Rd.out.at (by omega)
      have hI : impL.In w b (off + k * 4) (l.getD k .zero) := hcell k hlt
      obtain ⟨x, hx⟩ : ∃ x, x = l.getD k .zero := ⟨_, rfl⟩
      rw [← hx] at hI
      obtain ⟨_, _, _, x3⟩ := Imp.at (hI.frame hch)
      have ht : l.take (k + 1) = l.take k ++ [x] := by
        rw [List.take_add_one, hx]
        simp [List.getD_eq_getElem?_getD, hlt]
      have hcs := fmtN_cases (l.take k)
      rw [← hF] at hcs
      clear hI hcell hb
      by_cases b1 : 2147483647 < x.add
      · have dz : (x.add != 0) = true := by rw [bne_iff_ne]; omega
        have d1 : decide (2147483647 < x.add) = true := by simpa using b1
        have hbig : bigA x = true := by unfold bigA; rw [d1]; rfl
        rcases hcs with rfl | rfl | rfl
        · have HN : Hid (fmtN (l.take (k + 1)) = 3) := Lib.hid (by rw [ht, fmtN_snoc, ← hF]; rw [if_pos hbig])
          have Hx := Lib.hid hx
          have Hch := Lib.hid hch
          have HF := Lib.hid hF
          have Ht := Lib.hid ht
          clear hx hch hF ht
          go_wp2
          go_roundw
          case rel => exact ⟨k + 1, hlt, by go_num, by rw [HN.out], Hch.out⟩
          case measure => simp [intOf]; omega
        · have HN : Hid (fmtN (l.take (k + 1)) = 3) := Lib.hid (by rw [ht, fmtN_snoc, ← hF]; rw [if_pos hbig])
          have Hx := Lib.hid hx
          have Hch := Lib.hid hch
          have HF := Lib.hid hF
          have Ht := Lib.hid ht
          clear hx hch hF ht
          go_wp2
          go_roundw
          case rel => exact ⟨k + 1, hlt, by go_num, by rw [HN.out], Hch.out⟩
          case measure => simp [intOf]; omega
        · have HN : Hid (fmtN (l.take (k + 1)) = 3) := Lib.hid (by rw [ht, fmtN_snoc, ← hF]; rw [if_pos hbig])
          have Hx := Lib.hid hx
          have Hch := Lib.hid hch
          have HF := Lib.hid hF
          have Ht := Lib.hid ht
          clear hx hch hF ht
          go_wp2
          go_roundw
          case rel => exact ⟨k + 1, hlt, by go_num, by rw [HN.out], Hch.out⟩
          case measure => simp [intOf]; omega
      · have d1 : decide (2147483647 < x.add) = false := by simpa using b1
        by_cases b2 : x.add < -2147483648
        · have dz : (x.add != 0) = true := by rw [bne_iff_ne]; omega
          have d2 : decide (x.add < -2147483648) = true := by simpa using b2
          have hbig : bigA x = true := by unfold bigA; rw [d2]; simp
          rcases hcs with rfl | rfl | rfl
          · have HN : Hid (fmtN (l.take (k + 1)) = 3) := Lib.hid (by rw [ht, fmtN_snoc, ← hF]; rw [if_pos hbig])
            have Hx := Lib.hid hx
            have Hch := Lib.hid hch
            have HF := Lib.hid hF
            have Ht := Lib.hid ht
            clear hx hch hF ht
            go_wp2
            go_roundw
            case rel => exact ⟨k + 1, hlt, by go_num, by rw [HN.out], Hch.out⟩
            case measure => simp [intOf]; omega
          · have HN : Hid (fmtN (l.take (k + 1)) = 3) := Lib.hid (by rw [ht, fmtN_snoc, ← hF]; rw [if_pos hbig])
            have Hx := Lib.hid hx
            have Hch := Lib.hid hch
            have HF := Lib.hid hF
            have Ht := Lib.hid ht
            clear hx hch hF ht
            go_wp2
            go_roundw
            case rel => exact ⟨k + 1, hlt, by go_num, by rw [HN.out], Hch.out⟩
            case measure => simp [intOf]; omega
          · have HN : Hid (fmtN (l.take (k + 1)) = 3) := Lib.hid (by rw [ht, fmtN_snoc, ← hF]; rw [if_pos hbig])
            have Hx := Lib.hid hx
            have Hch := Lib.hid hch
            have HF := Lib.hid hF
            have Ht := Lib.hid ht
            clear hx hch hF ht
            go_wp2
            go_roundw
            case rel => exact ⟨k + 1, hlt, by go_num, by rw [HN.out], Hch.out⟩
            case measure => simp [intOf]; omega
        · have d2 : decide (x.add < -2147483648) = false := by simpa using b2
          have hbig : bigA x = false := by unfold bigA; rw [d1, d2]; rfl
          by_cases hz : x.add = 0
          · have dz : (x.add != 0) = false := by simpa using hz
            have hzz : ¬ (x.add ≠ 0) := by simpa using hz
            clear b1 b2 hz
            rcases hcs with rfl | rfl | rfl
            · have HN : Hid (fmtN (l.take (k + 1)) = 1) := Lib.hid (by rw [ht, fmtN_snoc, ← hF]; rw [if_neg (by rw [hbig]; simp), if_neg hzz])
              have Hx := Lib.hid hx
              have Hch := Lib.hid hch
              have HF := Lib.hid hF
              have Ht := Lib.hid ht
              clear hx hch hF ht
              go_wp2
              go_roundw
              case rel => exact ⟨k + 1, hlt, by go_num, by rw [HN.out], Hch.out⟩
              case measure => simp [intOf]; omega
            · have HN : Hid (fmtN (l.take (k + 1)) = 2) := Lib.hid (by rw [ht, fmtN_snoc, ← hF]; rw [if_neg (by rw [hbig]; simp), if_neg hzz])
              have Hx := Lib.hid hx
              have Hch := Lib.hid hch
              have HF := Lib.hid hF
              have Ht := Lib.hid ht
              clear hx hch hF ht
              go_wp2
              go_roundw
              case rel => exact ⟨k + 1, hlt, by go_num, by rw [HN.out], Hch.out⟩
              case measure => simp [intOf]; omega
            · have HN : Hid (fmtN (l.take (k + 1)) = 3) := Lib.hid (by rw [ht, fmtN_snoc, ← hF]; rw [if_neg (by rw [hbig]; simp), if_neg hzz])
              have Hx := Lib.hid hx
              have Hch := Lib.hid hch
              have HF := Lib.hid hF
              have Ht := Lib.hid ht
              clear hx hch hF ht
              go_wp2
              go_roundw
              case rel => exact ⟨k + 1, hlt, by go_num, by rw [HN.out], Hch.out⟩
              case measure => simp [intOf]; omega
          · have dz : (x.add != 0) = true := by simpa using hz
            clear b1 b2
            rcases hcs with rfl | rfl | rfl
            · have HN : Hid (fmtN (l.take (k + 1)) = 2) := Lib.hid (by rw [ht, fmtN_snoc, ← hF]; rw [if_neg (by rw [hbig]; simp), if_pos hz]; rfl)
              have Hx := Lib.hid hx
              have Hch := Lib.hid hch
              have HF := Lib.hid hF
              have Ht := Lib.hid ht
              clear hx hch hF ht
              go_wp2
              go_roundw
              case rel => exact ⟨k + 1, hlt, by go_num, by rw [HN.out], Hch.out⟩
              case measure => simp [intOf]; omega
            · have HN : Hid (fmtN (l.take (k + 1)) = 2) := Lib.hid (by rw [ht, fmtN_snoc, ← hF]; rw [if_neg (by rw [hbig]; simp), if_pos hz]; rfl)
              have Hx := Lib.hid hx
              have Hch := Lib.hid hch
              have HF := Lib.hid hF
              have Ht := Lib.hid ht
              clear hx hch hF ht
              go_wp2
              go_roundw
              case rel => exact ⟨k + 1, hlt, by go_num, by rw [HN.out], Hch.out⟩
              case measure => simp [intOf]; omega
            · have HN : Hid (fmtN (l.take (k + 1)) = 3) := Lib.hid (by rw [ht, fmtN_snoc, ← hF]; rw [if_neg (by rw [hbig]; simp), if_pos hz]; rfl)
              have Hx := Lib.hid hx
              have Hch := Lib.hid hch
              have HF := Lib.hid hF
              have Ht := Lib.hid ht
              clear hx hch hF ht
              go_wp2
              go_roundw
              case rel => exact ⟨k + 1, hlt, by go_num, by rw [HN.out], Hch.out⟩
              case measure => simp [intOf]; omega
    · obtain rfl : k = l.length := by omega
      have Hch := Lib.hid hch
      have HF := Lib.hid hF
      clear hch hF
      go_wp2
      go_ret
      exact ⟨by rw [List.take_length] at HF; rw [← HF.out]; rfl, Hch.out⟩
end Go.Proofs.YtkclmknepbbhnaaDoor
