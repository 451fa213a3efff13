/- CursorNil, walked. -/
import Derived.Test.YtpodphfdoonidaaDoorKnown1
namespace Go.Proofs.YtpodphfdoonidaaDoor
open Go.RowKit
set_option maxRecDepth 100000

theorem take_nil (w : World) : Calls Tryd.prog 57 #[.pointer none, .int .i64 0] w fun e w' => e = .returned (.slice none 0 0) ∧ w = w' := by
  go_enter Tryd.func57, Tryd.ntmps57
  go_wp2_with fail
  refine (Left_nil w).mono ?_
  rintro e w' ⟨rfl, rfl⟩
  go_wp2_with fail
  refine (well_nil true w).mono ?_
  rintro e w' ⟨rfl, rfl⟩
  go_wp2
  go_ret
  exact ⟨rfl, rfl⟩
theorem Number_nil (w : World) : Calls Tryd.prog 30 #[.pointer none, .int .i64 1] w fun e w' => e = .returned (.int .u64 0) ∧ w = w' := by
  go_enter Tryd.func30, Tryd.ntmps30
  go_wp2_with fail
  refine (well_nil true w).mono ?_
  rintro e w' ⟨rfl, rfl⟩
  go_wp2
  go_ret
  exact ⟨rfl, rfl⟩
theorem Bytes_nil (w : World) : Calls Tryd.prog 32 #[.pointer none, .int .i64 0] w fun e w' => e = .returned (.slice none 0 0) ∧ w = w' := by
  go_enter Tryd.func32, Tryd.ntmps32
  go_wp2_with fail
  refine (take_nil w).mono ?_
  rintro e w' ⟨rfl, rfl⟩
  go_wp2_with fail
  refine (Clone_nil 0 0 w).mono ?_
  rintro e w' ⟨rfl, rfl⟩
  go_wp2
  go_ret
  exact ⟨rfl, rfl⟩
theorem Text_nil (w : World) : Calls Tryd.prog 47 #[.pointer none, .int .i64 5] w fun e w' => e = .returned (.string ⟨#[]⟩) ∧ w = w' := by
  go_enter Tryd.func47, Tryd.ntmps47
  go_wp2_with fail
  refine (well_nil true w).mono ?_
  rintro e w' ⟨rfl, rfl⟩
  go_wp2
  go_ret
  exact ⟨rfl, rfl⟩
theorem Cut_nil (b : Nat) (w : World) (hb : w.cell? ⟨b, 0, none⟩ = some (.int .u8 0)) :
    Calls Tryd.prog 64 #[.slice none 0 0, .slice (some ⟨b, 0, none⟩) 1 1] w fun e w' => e = .returned (.tuple #[.slice none 0 0, .slice none 0 0, .bool false]) ∧ w = w' := by
  have Hb := Lib.hid hb
  clear hb
  go_enter Tryd.func64, Tryd.ntmps64
  go_wp2_with fail
  refine (Tryd.bytes_Index_one_nil b 0 1 0 w Hb.out).mono ?_
  rintro e w' ⟨rfl, rfl⟩
  go_wp2
  go_ret3
  exact ⟨rfl, rfl⟩
theorem Field_nil (w : World) : Calls Tryd.prog 46 #[.pointer none, .int .i64 0] w fun e w' => e = .returned (.string ⟨#[]⟩) ∧ Chg [] w w' := by
  have hs : ∀ W, (convert 22 9 (.slice none 0 0)).run Tryd.prog W = .ok (.string ⟨#[]⟩) W := fun W => run_str (l := []) (Rd.nil W)
  go_enter Tryd.func46, Tryd.ntmps46
  go_wp2_with fail
  refine (take_nil w).mono ?_
  rintro e w' ⟨rfl, rfl⟩
  go_wp2_with fail
  refine (Cut_nil w.heap.size _ (by simp)).mono ?_
  rintro e w' ⟨rfl, rfl⟩
  go_wp2
  go_ret
  exact ⟨rfl, (Chg.refl _ _).alloc _⟩

set_option maxHeartbeats 1000000 in
theorem CursorNil_walk (w : World) (hg : Env w) : Calls Tryd.prog 13 #[] w fun e w' => e = .returned (.bool true) ∧ Chg [] w w' := by
  have hme := Tryd.methodErrorW
  have HG := Lib.hid (Curs.start hg)
  clear hg
  go_enter Tryd.func13, Tryd.ntmps13
  go_wp2_with fail
  refine (Seek_nil 0 w).mono ?_
  rintro e w1 ⟨rfl, rfl⟩
  go_wp2_with fail
  refine (Fail_nil w).mono ?_
  rintro e w1 ⟨rfl, rfl⟩
  go_wp2_with fail
  refine (Number_nil w).mono ?_
  rintro e w1 ⟨rfl, rfl⟩
  go_wp2_with fail
  refine (Bytes_nil w).mono ?_
  rintro e w1 ⟨rfl, rfl⟩
  go_wp2_with fail
  refine (Field_nil w).mono ?_
  rintro e w1 ⟨rfl, hch⟩
  have H1 := Lib.hid (HG.out.pure hch)
  clear hch
  go_wp2_with fail
  refine (Text_nil w1).mono ?_
  rintro e w' ⟨rfl, rfl⟩
  go_wp2_with fail
  refine (At_nil w1).mono ?_
  rintro e w' ⟨rfl, rfl⟩
  go_wp2_with fail
  refine (Left_nil w1).mono ?_
  rintro e w' ⟨rfl, rfl⟩
  go_wp2_with fail
  refine (Err_nil w1 H1.out.env).mono ?_
  rintro e w2 ⟨rfl, hch⟩
  have H2 := Lib.hid (H1.out.pure hch)
  clear hch
  go_wp2_with fail
  refine (Wrong_nil w2).mono ?_
  rintro e w' ⟨rfl, rfl⟩
  have H3 := Lib.hid (H2.out.alloc (.cells #[.int .i64 0, .int .i64 1] 57))
  obtain ⟨w3, hw3⟩ : ∃ w3, w3 = w2.alloc (.cells #[.int .i64 0, .int .i64 1] 57) := ⟨_, rfl⟩
  rw [← hw3] at H3 ⊢
  clear hw3
  go_wp2_with fail
  refine (Wrong_nil w3).mono ?_
  rintro e w' ⟨rfl, rfl⟩
  have H4 := Lib.hid (H3.out.alloc (.cells #[.int .i64 0, .int .i64 1] 57))
  go_wp2_with fail
  refine (WErr_any _ 0 1 ⟨(Lib.decDigits 0).toArray⟩ _ (heap_alloc_eq w3 _) (by decide +kernel) (fun w2 _ => Itoa_small 0 (by decide) w2)).mono ?_
  rintro e w5 ⟨rfl, hch⟩
  have H5 := Lib.hid (H4.out.pure hch)
  clear hch
  rw [show ((⟨#[97, 116, 32]⟩ ++ ⟨(Lib.decDigits 0).toArray⟩ ++ ⟨#[58, 32]⟩ ++ wordB 1 : ByteArray)) = ⟨#[97, 116, 32, 48, 58, 32, 110, 105, 108]⟩ from by decide +kernel]
  go_wp2_with fail
  have hz : CurB (w5.alloc (.cells #[.slice none 0 0, .int .i64 0, .bool false, .bool false] 74)) w5.heap.size ⟨[], 0, false, false⟩ :=
    ⟨none, 0, 0, heap_alloc_eq w5 _, rfl, Nat.le_refl _, Nat.zero_le _, by omega, Nat.le_refl _, fun h => absurd h (by omega)⟩
  have H6 := Lib.hid (H5.out.new ((Chg.refl [] w5).alloc _) hz (Nat.le_refl _))
  clear hz
  obtain ⟨w6, hw6⟩ : ∃ w6, w6 = w5.alloc (.cells #[.slice none 0 0, .int .i64 0, .bool false, .bool false] 74) := ⟨_, rfl⟩
  rw [← hw6] at H6 ⊢
  clear hw6
  generalize w5.heap.size = x at *
  refine (Err_cur x _ _ H6.out.env H6.out.cur).mono ?_
  rintro e w7 ⟨rfl, hch⟩
  have H7 := Lib.hid (H6.out.pure hch)
  clear hch
  go_wp2_with fail
  refine (Left_cur x _ _ H7.out.cur).mono ?_
  rintro e w8 ⟨rfl, hdr⟩
  have H8 := Lib.hid (H7.out.dr hdr)
  clear hdr
  obtain ⟨a, n, cap, hb, _⟩ := H8.out.cur
  have Hb := Lib.hid hb
  clear hb
  go_wp2_with fail
  refine (Wrong_ok x _ _ _ _ Hb.out).mono ?_
  rintro e w9 ⟨rfl, rfl⟩
  go_wp2_with fail
  refine (Number_cur x _ 1 _ H8.out.cur).mono ?_
  rintro e w9 ⟨rfl, hcx, hch⟩
  rw [show numberV ⟨[], 0, false, false⟩ 1 = 0 from by decide +kernel]
  have H9 := Lib.hid (H8.out.call hcx hch)
  clear hcx hch
  go_wp2_with fail
  refine (Err_cur x _ _ H9.out.env H9.out.cur).mono ?_
  rintro e w10 ⟨rfl, hch⟩
  rw [show (numberS ⟨[], 0, false, false⟩ 1).failed = true from by decide +kernel]
  have H10 := Lib.hid (H9.out.pure hch)
  clear hch
  go_wp2_with fail
  refine (known_cur _ H10.out.env).mono ?_
  rintro e w11 ⟨rfl, hch⟩
  have H11 := Lib.hid (H10.out.pure hch)
  clear hch
  go_wp2
  go_ret
  exact ⟨rfl, H11.out.chg⟩
end Go.Proofs.YtpodphfdoonidaaDoor
