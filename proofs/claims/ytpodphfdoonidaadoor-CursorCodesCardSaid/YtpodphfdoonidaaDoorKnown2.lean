/- clevislaw02.known and LebNil. -/
import Derived.Test.YtpodphfdoonidaaDoorCrow
namespace Go.Proofs.YtpodphfdoonidaaDoor
open Go.RowKit

theorem known_leb (w0 w : World) (hw : Curs w0 w []) : Calls Tryd.prog 15 #[] w fun e w' => e = .returned (.bool true) ∧ Chg [] w w' := by
  have HG : Hid (Curs w w []) := Curs.start hw.env
  clear hw
  go_enter Tryd.func15, Tryd.ntmps15
  go_wp2_with fail
  refine (New_cur _ [229, 142, 38, 1] false _ (Rd_new w (bytesV [229, 142, 38, 1]) _ 4 rfl (by decide)) (by decide)).mono ?_
  rintro e w1 ⟨x, rfl, hx, hcx, hch⟩
  have H1 := Lib.hid ((HG.out.alloc _).new hch hcx hx)
  clear hcx hch hx
  go_wp2_with fail
  refine (New_cur _ [127] false _ (Rd_new w1 (bytesV [127]) _ 1 rfl (by decide)) (by decide)).mono ?_
  rintro e w2 ⟨y, rfl, hx, hcx, hch⟩
  have H2 := Lib.hid ((H1.out.alloc _).new hch hcx hx)
  clear hcx hch hx
  go_wp2_with fail
  refine (New_cur _ [255, 255, 255, 255, 255, 255, 255, 255, 255, 2] true _ (Rd_new w2 (bytesV [255, 255, 255, 255, 255, 255, 255, 255, 255, 2]) _ 10 rfl (by decide)) (by decide)).mono ?_
  rintro e w3 ⟨z, rfl, hx, hcx, hch⟩
  have H3 := Lib.hid ((H2.out.alloc _).new hch hcx hx)
  clear hcx hch hx
  go_wp2_with fail
  refine (Uleb_cur x _ w3 H3.out.env H3.out.third.cur).mono ?_
  rintro e w4 ⟨rfl, hcx, hch⟩
  have H4 := Lib.hid (H3.out.third.call hcx hch)
  clear hcx hch
  rw [show lebV ulebR ⟨[229, 142, 38, 1], 0, false, false⟩ = 624485 from by decide +kernel]
  go_wp2_with fail
  refine (At_cur x _ w4 H4.out.cur).mono ?_
  rintro e w' ⟨rfl, rfl⟩
  rw [show lebS ulebR ⟨[229, 142, 38, 1], 0, false, false⟩ = ⟨[229, 142, 38, 1], 3, false, false⟩ from by rfl]
  go_wp2_with fail
  have H5 := Lib.hid H4.out.third
  refine (Sleb_cur y _ w4 H5.out.env H5.out.cur).mono ?_
  rintro e w6 ⟨rfl, hcx, hch⟩
  have H6 := Lib.hid (H5.out.call hcx hch)
  clear hcx hch
  rw [show lebV slebR ⟨[127], 0, false, false⟩ = -1 from by decide +kernel]
  go_wp2_with fail
  have H7 := Lib.hid H6.out.third
  refine (Uleb_cur z _ w6 H7.out.env H7.out.cur).mono ?_
  rintro e w8 ⟨rfl, hcx, hch⟩
  have H8 := Lib.hid (H7.out.call hcx hch)
  clear hcx hch
  rw [show lebV ulebR ⟨[255, 255, 255, 255, 255, 255, 255, 255, 255, 2], 0, true, false⟩ = 0 from by decide +kernel]
  go_wp2_with fail
  refine (Err_cur z _ w8 H8.out.env H8.out.cur).mono ?_
  rintro e w9 ⟨rfl, hch⟩
  have H9 := Lib.hid (H8.out.pure hch)
  clear hch
  rw [show (lebS ulebR ⟨[255, 255, 255, 255, 255, 255, 255, 255, 255, 2], 0, true, false⟩).failed = true from by decide +kernel]
  go_wp2_with fail
  refine (At_cur z _ w9 H9.out.cur).mono ?_
  rintro e w10 ⟨rfl, rfl⟩
  rw [show (lebS ulebR ⟨[255, 255, 255, 255, 255, 255, 255, 255, 255, 2], 0, true, false⟩).at_ = 0 from by decide +kernel]
  go_wp2
  go_ret
  exact ⟨rfl, H9.out.chg⟩

theorem LebNil_any (w : World) (hg : Env w) : Calls Tryd.prog 4 #[] w fun e w' => e = .returned (.bool true) ∧ Chg [] w w' := by
  have HG : Hid (Curs w w []) := Curs.start hg
  clear hg
  go_enter Tryd.func4, Tryd.ntmps4
  go_wp2_with fail
  refine (New_cur _ [] false w (Rd.nil w) (by decide)).mono ?_
  rintro e w1 ⟨x, rfl, hx, hcx, hch⟩
  have H1 := Lib.hid (HG.out.new hch hcx hx)
  clear hcx hch hx
  go_wp2_with fail
  refine (Uleb_nil w1).mono ?_
  rintro e w2 ⟨rfl, hch⟩
  have H2 := Lib.hid (H1.out.pure hch)
  clear hch
  go_wp2_with fail
  refine (Sleb_nil w2).mono ?_
  rintro e w3 ⟨rfl, hch⟩
  have H3 := Lib.hid (H2.out.pure hch)
  clear hch
  go_wp2_with fail
  refine (Uleb_cur x _ w3 H3.out.env H3.out.cur).mono ?_
  rintro e w4 ⟨rfl, hcx, hch⟩
  have H4 := Lib.hid (H3.out.call hcx hch)
  clear hcx hch
  rw [show lebV ulebR ⟨[], 0, false, false⟩ = 0 from by decide +kernel]
  go_wp2_with fail
  refine (Err_cur x _ w4 H4.out.env H4.out.cur).mono ?_
  rintro e w5 ⟨rfl, hch⟩
  have H5 := Lib.hid (H4.out.pure hch)
  clear hch
  rw [show (lebS ulebR ⟨[], 0, false, false⟩).failed = true from by decide +kernel]
  go_wp2_with fail
  refine (Sleb_cur x _ w5 H5.out.env H5.out.cur).mono ?_
  rintro e w6 ⟨rfl, hcx, hch⟩
  have H6 := Lib.hid (H5.out.call hcx hch)
  clear hcx hch
  rw [show lebV slebR (lebS ulebR ⟨[], 0, false, false⟩) = 0 from by decide +kernel]
  go_wp2_with fail
  refine (known_leb w6 w6 (Curs.start H6.out.env)).mono ?_
  rintro e w7 ⟨rfl, hch⟩
  have H7 := Lib.hid (H6.out.pure hch)
  clear hch
  go_wp2
  go_ret
  exact ⟨rfl, H7.out.chg⟩
end Go.Proofs.YtpodphfdoonidaaDoor
