/- fat.entries without entries, read, Slices, walked for known. -/
import Derived.Test.YtchkombikjcokaaDoorWhole
namespace Go.Proofs.YtchkombikjcokaaDoor
open Go.RowKit
set_option maxRecDepth 100000

theorem take4b (l : List UInt8) (p : Nat) (big : Bool) (h : p + 4 ≤ l.length) : numberV ⟨l, p, big, false⟩ 4 = numOf big ((l.drop p).take 4) ∧ numberS ⟨l, p, big, false⟩ 4 = ⟨l, p + 4, big, false⟩ := by
  have hc : canTake ⟨l, p, big, false⟩ 4 = true := canTake_of rfl (by omega) (by show (4 : Int) ≤ (l.length : Int) - p; omega)
  constructor
  · unfold numberV takeL; rw [hc]; rfl
  · unfold numberS takeS; rw [hc]; rfl

theorem apart_nil (w : World) : Calls Tryd.prog 59 #[.slice none 0 0] w fun e w' => e = .returned .nilIface ∧ Chg [] w w' := by
  go_enter Tryd.func59, Tryd.ntmps59
  go_wp2_with fail
  refine wp_loop_rounds 1 ?_
  rw [rounds_succ]
  go_wp2
  go_ret
  exact ⟨rfl, Chg.refl _ _⟩

theorem entries_zero (l : List UInt8) (a : Option Addr) (cap : Nat) (w : World) (hg : Env w) (rd : Rd w (.slice a l.length cap) (bytesV l)) (h8 : 8 ≤ l.length) (hl : l.length ≤ 1048576) (h0 : numOf true ((l.drop 4).take 4) = 0) :
    Calls Tryd.prog 64 #[.slice a l.length cap, .int .i64 20, .int .i64 4] w fun e w' => e = .returned (.tuple #[.slice none 0 0, .nilIface]) ∧ Chg [] w w' := by
  obtain ⟨hv1, hs1⟩ := take4b l 4 true (by omega)
  rw [h0] at hv1
  have HS : Hid (seekS ⟨l, 0, true, false⟩ 4 = ⟨l, 4, true, false⟩) := Lib.hid (seek_to l 0 4 true (by omega))
  have HV1 := Lib.hid hv1
  have HS1 := Lib.hid hs1
  have HR := Lib.hid rd
  have HG := Lib.hid hg
  clear hv1 hs1 rd hg
  clear h0
  go_enter Tryd.func64, Tryd.ntmps64
  go_wp2_with fail
  refine (New_cur _ l true w HR.out (by omega)).mono ?_
  rintro e w1 ⟨c, rfl, hx, hcur, hch⟩
  have Hx := Lib.hid hx
  have Hcur := Lib.hid hcur
  have Hch := Lib.hid hch
  clear hx hcur hch
  go_wp2_with fail
  refine (Seek_cur c _ 4 w1 Hcur.out).mono ?_
  rintro e w2 ⟨rfl, hcur2, hch2⟩
  rw [HS.out] at hcur2
  have Hcur2 := Lib.hid hcur2
  have Hch2 := Lib.hid hch2
  clear hcur2 hch2
  go_wp2_with fail
  refine (Number_cur c _ 4 w2 Hcur2.out).mono ?_
  rintro e w3 ⟨rfl, hcur3, hch3⟩
  rw [HV1.out]
  rw [HS1.out] at hcur3
  have HC3 := Lib.hid (Hch.out.new (Hch2.out.same hch3) Hx.out)
  have Hcur3 := Lib.hid hcur3
  have Hch3 := Lib.hid hch3
  clear hcur3 hch3
  go_wp2_with fail
  refine (Err_cur c _ w3 (HG.out.frame HC3.out (by simp)) Hcur3.out).mono ?_
  rintro e w4 ⟨rfl, hch4⟩
  simp only [Bool.false_eq_true, if_false]
  have Hcur4 := Lib.hid (Hcur3.out.frame hch4)
  have HC4 := Lib.hid (HC3.out.then hch4)
  clear hch4
  go_wp2_with fail
  refine (Left_cur c _ w4 Hcur4.out).mono ?_
  rintro e w5 ⟨rfl, hd5⟩
  simp only
  have HC5 := Lib.hid (HC4.out.dr hd5)
  clear hd5
  go_wp2_with fail
  refine wp_loop_rounds 1 ?_
  rw [rounds_succ]
  go_wp2_with fail
  refine (apart_nil _).mono ?_
  rintro e w6 ⟨rfl, hch6⟩
  have Hch6 := Lib.hid hch6
  clear hch6
  go_wp2
  go_ret2
  exact ⟨rfl, HC5.out.then Hch6.out⟩

set_option maxHeartbeats 1000000 in
theorem read_thin (l : List UInt8) (a : Option Addr) (cap : Nat) (w : World) (hg : Env w) (rd : Rd w (.slice a l.length cap) (bytesV l)) (h12 : 12 ≤ l.length) (hl : l.length ≤ 1048576) (h0 : numOf true (l.take 4) = 3489328638) :
    Calls Tryd.prog 42 #[.slice a l.length cap] w fun e w' => ∃ v, e = .returned (.tuple #[v, .nilIface]) ∧ SlRd w' v [⟨leNum ((l.drop 4).take 4), leNum ((l.drop 8).take 4), 0, l.length, 0⟩] ∧ Chg [] w w' := by
  obtain ⟨hv1, hs1⟩ := take4b l 0 true (by omega)
  rw [List.drop_zero, h0] at hv1
  have d1 : decide ((1048576 : Int) < (l.length : Int)) = false := by simp; omega
  have hl2 : l.length ≤ 70368744177664 := by omega
  have HV1 := Lib.hid hv1
  have HS1 := Lib.hid hs1
  have HR := Lib.hid rd
  have HG := Lib.hid hg
  have HL := Lib.hid hl
  clear hv1 hs1 rd hg hl
  clear h0
  go_enter Tryd.func42, Tryd.ntmps42
  go_wp2_with fail
  refine (New_cur _ l true w HR.out (by omega)).mono ?_
  rintro e w1 ⟨c, rfl, hx, hcur, hch⟩
  have Hx := Lib.hid hx
  have Hcur := Lib.hid hcur
  have Hch := Lib.hid hch
  clear hx hcur hch
  go_wp2_with fail
  refine (Number_cur c _ 4 w1 Hcur.out).mono ?_
  rintro e w3 ⟨rfl, hcur3, hch3⟩
  rw [HV1.out]
  rw [HS1.out] at hcur3
  have HC3 := Lib.hid (Hch.out.new hch3 Hx.out)
  have Hcur3 := Lib.hid hcur3
  have Hch3 := Lib.hid hch3
  clear hcur3 hch3
  go_wp2_with fail
  refine (Err_cur c _ w3 (HG.out.frame HC3.out (by simp)) Hcur3.out).mono ?_
  rintro e w4 ⟨rfl, hch4⟩
  simp only [Bool.false_eq_true, if_false]
  have HC4 := Lib.hid (HC3.out.then hch4)
  clear hch4
  go_wp2_with fail
  refine (whole_ok l a cap w4 (HR.out.frame HC4.out (fun _ _ hm => by cases hm)) h12 HL.out).mono ?_
  rintro e w5 ⟨v, rfl, hsl, hch5⟩
  have HC5 := Lib.hid (HC4.out.then hch5)
  have Hsl := Lib.hid hsl
  clear hsl
  clear hch5
  go_wp2
  go_ret2
  exact ⟨_, rfl, Hsl.out, HC5.out⟩
set_option maxHeartbeats 1000000 in
theorem read_zero (l : List UInt8) (a : Option Addr) (cap : Nat) (w : World) (hg : Env w) (rd : Rd w (.slice a l.length cap) (bytesV l)) (h8 : 8 ≤ l.length) (hl : l.length ≤ 1048576) (h0 : numOf true (l.take 4) = 3405691582) (h1 : numOf true ((l.drop 4).take 4) = 0) :
    Calls Tryd.prog 42 #[.slice a l.length cap] w fun e w' => e = .returned (.tuple #[.slice none 0 0, .nilIface]) ∧ Chg [] w w' := by
  obtain ⟨hv1, hs1⟩ := take4b l 0 true (by omega)
  rw [List.drop_zero, h0] at hv1
  have d1 : decide ((1048576 : Int) < (l.length : Int)) = false := by simp; omega
  have hl2 : l.length ≤ 70368744177664 := by omega
  have HV1 := Lib.hid hv1
  have HS1 := Lib.hid hs1
  have HR := Lib.hid rd
  have HG := Lib.hid hg
  have HL := Lib.hid hl
  have H1 := Lib.hid h1
  clear hv1 hs1 rd hg hl h1
  clear h0
  go_enter Tryd.func42, Tryd.ntmps42
  go_wp2_with fail
  refine (New_cur _ l true w HR.out (by omega)).mono ?_
  rintro e w1 ⟨c, rfl, hx, hcur, hch⟩
  have Hx := Lib.hid hx
  have Hcur := Lib.hid hcur
  have Hch := Lib.hid hch
  clear hx hcur hch
  go_wp2_with fail
  refine (Number_cur c _ 4 w1 Hcur.out).mono ?_
  rintro e w3 ⟨rfl, hcur3, hch3⟩
  rw [HV1.out]
  rw [HS1.out] at hcur3
  have HC3 := Lib.hid (Hch.out.new hch3 Hx.out)
  have Hcur3 := Lib.hid hcur3
  have Hch3 := Lib.hid hch3
  clear hcur3 hch3
  go_wp2_with fail
  refine (Err_cur c _ w3 (HG.out.frame HC3.out (by simp)) Hcur3.out).mono ?_
  rintro e w4 ⟨rfl, hch4⟩
  simp only [Bool.false_eq_true, if_false]
  have HC4 := Lib.hid (HC3.out.then hch4)
  clear hch4
  go_wp2_with fail
  refine (entries_zero l a cap w4 (HG.out.frame HC4.out (by simp)) (HR.out.frame HC4.out (fun _ _ hm => by cases hm)) h8 HL.out H1.out).mono ?_
  rintro e w5 ⟨rfl, hch5⟩
  have HC5 := Lib.hid (HC4.out.then hch5)
  clear hch5
  go_wp2
  go_ret2
  exact ⟨rfl, HC5.out⟩

theorem Slices_thin (l : List UInt8) (a : Option Addr) (cap : Nat) (w : World) (hg : Env w) (rd : Rd w (.slice a l.length cap) (bytesV l)) (h12 : 12 ≤ l.length) (hl : l.length ≤ 1048576) (h0 : numOf true (l.take 4) = 3489328638) :
    Calls Tryd.prog 17 #[.slice a l.length cap] w fun e w' => ∃ v, e = .returned (.tuple #[v, .int .i64 0]) ∧ SlRd w' v [⟨leNum ((l.drop 4).take 4), leNum ((l.drop 8).take 4), 0, l.length, 0⟩] ∧ Chg [] w w' := by
  have HR := Lib.hid rd
  have HG := Lib.hid hg
  have H0 := Lib.hid h0
  clear rd hg h0
  go_enter Tryd.func17, Tryd.ntmps17
  go_wp2_with fail
  refine (read_thin l a cap w HG.out HR.out h12 hl H0.out).mono ?_
  rintro e w1 ⟨v, rfl, hsl, hch⟩
  have Hsl := Lib.hid hsl
  have Hch := Lib.hid hch
  clear hsl hch
  go_wp2
  go_ret2
  exact ⟨_, rfl, Hsl.out, Hch.out⟩
theorem Slices_zero (l : List UInt8) (a : Option Addr) (cap : Nat) (w : World) (hg : Env w) (rd : Rd w (.slice a l.length cap) (bytesV l)) (h8 : 8 ≤ l.length) (hl : l.length ≤ 1048576) (h0 : numOf true (l.take 4) = 3405691582) (h1 : numOf true ((l.drop 4).take 4) = 0) :
    Calls Tryd.prog 17 #[.slice a l.length cap] w fun e w' => e = .returned (.tuple #[.slice none 0 0, .int .i64 0]) ∧ Chg [] w w' := by
  have HR := Lib.hid rd
  have HG := Lib.hid hg
  have H0 := Lib.hid h0
  have H1 := Lib.hid h1
  clear rd hg h0 h1
  go_enter Tryd.func17, Tryd.ntmps17
  go_wp2_with fail
  refine (read_zero l a cap w HG.out HR.out h8 hl H0.out H1.out).mono ?_
  rintro e w1 ⟨rfl, hch⟩
  have Hch := Lib.hid hch
  clear hch
  go_wp2
  go_ret2
  exact ⟨rfl, Hch.out⟩
end Go.Proofs.YtchkombikjcokaaDoor
