/- clevislaw01.known. -/
import Derived.Test.YtpodphfdoonidaaDoorCrow
import Derived.Test.YtpodphfdoonidaaDoorText
import Derived.Test.YtpodphfdoonidaaDoorWErr
import Derived.Test.YtpodphfdoonidaaDoorReg
namespace Go.Proofs.YtpodphfdoonidaaDoor
open Go.RowKit
set_option maxRecDepth 100000

theorem Tryd.methodErrorW (p : Addr) (w : World) : (Go.method 280 55 (.pointer (some p)) "Error").run Tryd.prog w = .ok (41, .pointer (some p)) w := by kernel_rfl
theorem Itoa_small (i : Nat) (hi : i < 100) (w : World) : Calls Tryd.prog 63 #[.int .i64 i] w fun e w' => e = .returned (.string ⟨(Lib.decDigits i).toArray⟩) ∧ Chg [] w w' :=
  (Tryd.strconv_Itoa_small i hi w).mono fun e w' ⟨he, hw⟩ => ⟨he, by rw [hw]; exact Chg.refl _ _⟩
set_option maxHeartbeats 1000000 in
theorem known_cur (w : World) (hg : Env w) : Calls Tryd.prog 31 #[] w fun e w' => e = .returned (.bool true) ∧ Chg [] w w' := by
  have hme := Tryd.methodErrorW
  have HG := Lib.hid (Curs.start hg)
  clear hg
  go_enter Tryd.func31, Tryd.ntmps31
  go_wp2_with fail
  refine (New_cur _ [1, 2, 3, 0, 5] false _ (Rd_new w (bytesV [1, 2, 3, 0, 5]) _ 5 rfl (by decide)) (by decide)).mono ?_
  rintro e w1 ⟨x, rfl, hx, hcx, hch⟩
  have H1 := Lib.hid ((HG.out.alloc _).new hch hcx hx)
  clear hcx hch hx
  go_wp2_with fail
  refine (Number_cur x _ 2 w1 H1.out.cur).mono ?_
  rintro e w2 ⟨rfl, hcx, hch⟩
  have H2 := Lib.hid (H1.out.call hcx hch)
  clear hcx hch
  rw [show numberV ⟨[1, 2, 3, 0, 5], 0, false, false⟩ 2 = 513 from by decide +kernel]
  go_wp2_with fail
  refine (Text_cur x _ 9 w2 H2.out.cur).mono ?_
  rintro e w3 ⟨rfl, hcx, hch⟩
  have H3 := Lib.hid (H2.out.call hcx hch)
  clear hcx hch
  rw [show textL (numberS ⟨[1, 2, 3, 0, 5], 0, false, false⟩ 2) 9 = [3] from by decide +kernel]
  go_wp2_with fail
  refine (Number_cur x _ 4 w3 H3.out.cur).mono ?_
  rintro e w4 ⟨rfl, hcx, hch⟩
  have H4 := Lib.hid (H3.out.call hcx hch)
  clear hcx hch
  rw [show numberV (textS (numberS ⟨[1, 2, 3, 0, 5], 0, false, false⟩ 2) 9) 4 = 0 from by decide +kernel]
  go_wp2_with fail
  refine (Err_cur x _ w4 H4.out.env H4.out.cur).mono ?_
  rintro e w5 ⟨rfl, hch⟩
  have H5 := Lib.hid (H4.out.pure hch)
  clear hch
  rw [show (numberS (textS (numberS ⟨[1, 2, 3, 0, 5], 0, false, false⟩ 2) 9) 4).failed = true from by decide +kernel]
  go_wp2_with fail
  refine (At_cur x _ w5 H5.out.cur).mono ?_
  rintro e w6 ⟨rfl, rfl⟩
  rw [show (numberS (textS (numberS ⟨[1, 2, 3, 0, 5], 0, false, false⟩ 2) 9) 4).at_ = 4 from by decide +kernel]
  obtain ⟨a, n, cap, hb, _⟩ := H5.out.cur
  rw [show (numberS (textS (numberS ⟨[1, 2, 3, 0, 5], 0, false, false⟩ 2) 9) 4).at_ = 4 from by decide +kernel, show (numberS (textS (numberS ⟨[1, 2, 3, 0, 5], 0, false, false⟩ 2) 9) 4).failed = true from by decide +kernel] at hb
  have HB := Lib.hid (hb)
  clear hb
  go_wp2_with fail
  refine (Wrong_bad x _ 4 _ w5 HB.out).mono ?_
  rintro e w7 ⟨rfl, rfl⟩
  have H7 := Lib.hid (H5.out.alloc (.cells #[.int .i64 4, .int .i64 3] 57))
  go_wp2_with fail
  refine (WErr_any _ 4 3 ⟨(Lib.decDigits 4).toArray⟩ _ (heap_alloc_eq w5 _) (by decide +kernel) (fun w2 _ => Itoa_small 4 (by decide) w2)).mono ?_
  rintro e w8 ⟨rfl, hch⟩
  have H8 := Lib.hid (H7.out.pure hch)
  clear hch
  rw [show ((⟨#[97, 116, 32]⟩ ++ ⟨(Lib.decDigits 4).toArray⟩ ++ ⟨#[58, 32]⟩ ++ wordB 3 : ByteArray)) = ⟨#[97, 116, 32, 52, 58, 32, 115, 104, 111, 114, 116]⟩ from by decide +kernel]
  go_wp2
  go_ret
  exact ⟨rfl, H8.out.chg⟩
end Go.Proofs.YtpodphfdoonidaaDoor
