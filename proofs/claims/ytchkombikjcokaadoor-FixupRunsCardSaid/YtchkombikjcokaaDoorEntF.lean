/- fat.entries where it tells an error of its head; whole of a short file. -/
import Derived.Test.YtchkombikjcokaaDoorEntW
namespace Go.Proofs.YtchkombikjcokaaDoor
open Go.RowKit
set_option maxRecDepth 100000

theorem take4n (l : List UInt8) (p : Nat) (b : Bool) (h : l.length < p + 4) : numberV ⟨l, p, b, false⟩ 4 = 0 ∧ numberS ⟨l, p, b, false⟩ 4 = ⟨l, p, b, true⟩ := by
  have hc : canTake ⟨l, p, b, false⟩ 4 = false := by
    simp [canTake]; omega
  constructor
  · unfold numberV takeL; rw [hc]; cases b <;> rfl
  · unfold numberS takeS; rw [hc]; rfl
theorem Wrong_cur (b : Nat) (s : CS) (w : World) (h : CurB w b s) : Calls Tryd.prog 62 #[.pointer (some ⟨b, 0, none⟩)] w fun e w' => ∃ v, e = .returned v ∧ WErr w' v (if s.failed then 3 else 0) ∧ Chg [] w w' := by
  obtain ⟨a, n, cap, hb, _⟩ := h
  cases hf : s.failed with
  | true =>
    rw [hf] at hb
    exact (Wrong_bad b _ _ _ w hb).mono fun e w' ⟨he, hw⟩ => ⟨_, he, by rw [← hw]; exact .inr ⟨by decide, _, _, rfl, heap_alloc_eq _ _⟩, by rw [← hw]; exact (Chg.refl _ _).alloc _⟩
  | false =>
    rw [hf] at hb
    exact (Wrong_ok b _ _ _ w hb).mono fun e w' ⟨he, hw⟩ => ⟨_, he, by rw [← hw]; exact .inl ⟨rfl, rfl⟩, by rw [← hw]; exact Chg.refl _ _⟩

set_option maxHeartbeats 1000000 in
theorem entF1 (sz wd : Int) (l : List UInt8) (a : Option Addr) (cap : Nat) (w : World) (hg : Env w) (rd : Rd w (.slice a l.length cap) (bytesV l)) (h4 : 4 ≤ l.length) (h8 : l.length < 8) :
    Calls Tryd.prog 64 #[.slice a l.length cap, .int .i64 sz, .int .i64 wd] w fun e w' => ∃ v', e = .returned (.tuple #[.slice none 0 0, v']) ∧ WErr w' v' 3 ∧ Chg [] w w' := by
  obtain ⟨hv1, hs1⟩ := take4n l 4 true (by omega)
  have HS : Hid (seekS ⟨l, 0, true, false⟩ 4 = ⟨l, 4, true, false⟩) := Lib.hid (seek_to l 0 4 true (by omega))
  have hl2 : l.length ≤ 70368744177664 := by omega
  have HV1 := Lib.hid hv1
  have HS1 := Lib.hid hs1
  have HR := Lib.hid rd
  have HG := Lib.hid hg
  clear hv1 hs1 rd hg
  go_enter Tryd.func64, Tryd.ntmps64
  go_wp2_with fail
  refine (New_cur _ l true w HR.out (by omega)).mono ?_
  rintro e w1 ⟨c, rfl, hx, hcur, hch⟩
  have Hx := Lib.hid hx
  have Hcur := Lib.hid hcur
  have Hch := Lib.hid hch
  clear hx hcur hch
  go_wp2_with fail
  refine (Seek_cur c _ 4 w1 Hcur.out).mono ?_
  rintro e w2 ⟨rfl, hcur2, hch2⟩
  rw [HS.out] at hcur2
  have Hcur2 := Lib.hid hcur2
  have Hch2 := Lib.hid hch2
  clear hcur2 hch2
  go_wp2_with fail
  refine (Number_cur c _ 4 w2 Hcur2.out).mono ?_
  rintro e w3 ⟨rfl, hcur3, hch3⟩
  rw [HV1.out]
  rw [HS1.out] at hcur3
  have HC3 := Lib.hid (Hch.out.new (Hch2.out.same hch3) Hx.out)
  have Hcur3 := Lib.hid hcur3
  have Hch3 := Lib.hid hch3
  clear hcur3 hch3
  go_wp2_with fail
  refine (Err_cur c _ w3 (HG.out.frame HC3.out (by simp)) Hcur3.out).mono ?_
  rintro e w4 ⟨rfl, hch4⟩
  have Hcur4 := Lib.hid (Hcur3.out.frame hch4)
  have HC4 := Lib.hid (HC3.out.then hch4)
  clear hch4
  simp only [if_true]
  go_wp2_with fail
  refine (Wrong_cur c _ w4 Hcur4.out).mono ?_
  rintro e w5 ⟨v, rfl, he, hch⟩
  simp only [if_true] at he
  have HC5 := Lib.hid (HC4.out.then hch)
  have He := Lib.hid he
  clear he
  clear hch
  go_wp2
  go_ret2
  exact ⟨_, rfl, He.out, HC5.out⟩
set_option maxHeartbeats 1000000 in
theorem entF2 (sz wd : Int) (l : List UInt8) (a : Option Addr) (cap : Nat) (w : World) (hg : Env w) (rd : Rd w (.slice a l.length cap) (bytesV l)) (h8 : 8 ≤ l.length) (hl : l.length ≤ 1048576) (hm : 32 < num l 4 4) :
    Calls Tryd.prog 64 #[.slice a l.length cap, .int .i64 sz, .int .i64 wd] w fun e w' => ∃ v', e = .returned (.tuple #[.slice none 0 0, v']) ∧ WErr w' v' 11 ∧ Chg [] w w' := by
  obtain ⟨hv1, hs1⟩ := takeN4 l 4 (by omega)
  generalize num l 4 4 = many at hv1 hm
  have HS : Hid (seekS ⟨l, 0, true, false⟩ 4 = ⟨l, 4, true, false⟩) := Lib.hid (seek_to l 0 4 true (by omega))
  have hl2 : l.length ≤ 70368744177664 := by omega
  have dm : decide ((32 : Int) < (many : Int)) = true := by simp; omega
  have HV1 := Lib.hid hv1
  have HS1 := Lib.hid hs1
  have HR := Lib.hid rd
  have HG := Lib.hid hg
  have HL := Lib.hid hl
  clear hv1 hs1 rd hg hl
  go_enter Tryd.func64, Tryd.ntmps64
  go_wp2_with fail
  refine (New_cur _ l true w HR.out (by omega)).mono ?_
  rintro e w1 ⟨c, rfl, hx, hcur, hch⟩
  have Hx := Lib.hid hx
  have Hcur := Lib.hid hcur
  have Hch := Lib.hid hch
  clear hx hcur hch
  go_wp2_with fail
  refine (Seek_cur c _ 4 w1 Hcur.out).mono ?_
  rintro e w2 ⟨rfl, hcur2, hch2⟩
  rw [HS.out] at hcur2
  have Hcur2 := Lib.hid hcur2
  have Hch2 := Lib.hid hch2
  clear hcur2 hch2
  go_wp2_with fail
  refine (Number_cur c _ 4 w2 Hcur2.out).mono ?_
  rintro e w3 ⟨rfl, hcur3, hch3⟩
  rw [HV1.out]
  rw [HS1.out] at hcur3
  have HC3 := Lib.hid (Hch.out.new (Hch2.out.same hch3) Hx.out)
  have Hcur3 := Lib.hid hcur3
  have Hch3 := Lib.hid hch3
  clear hcur3 hch3
  go_wp2_with fail
  refine (Err_cur c _ w3 (HG.out.frame HC3.out (by simp)) Hcur3.out).mono ?_
  rintro e w4 ⟨rfl, hch4⟩
  have Hcur4 := Lib.hid (Hcur3.out.frame hch4)
  have HC4 := Lib.hid (HC3.out.then hch4)
  clear hch4
  simp only [Bool.false_eq_true, if_false]
  go_wp2_with fail
  refine (wrong_any 4 11 (by decide) w4).mono ?_
  rintro e w5 ⟨v, rfl, he, _, hch⟩
  have HC5 := Lib.hid (HC4.out.then hch)
  have He := Lib.hid he
  clear he
  clear hch
  go_wp2
  go_ret2
  exact ⟨_, rfl, He.out, HC5.out⟩
set_option maxHeartbeats 1000000 in
theorem entF3_20 (wd : Int) (l : List UInt8) (a : Option Addr) (cap : Nat) (w : World) (hg : Env w) (rd : Rd w (.slice a l.length cap) (bytesV l)) (h8 : 8 ≤ l.length) (hl : l.length ≤ 1048576) (hm : num l 4 4 ≤ 32) (hs : l.length < 8 + num l 4 4 * 20) :
    Calls Tryd.prog 64 #[.slice a l.length cap, .int .i64 20, .int .i64 wd] w fun e w' => ∃ v', e = .returned (.tuple #[.slice none 0 0, v']) ∧ WErr w' v' 3 ∧ Chg [] w w' := by
  obtain ⟨hv1, hs1⟩ := takeN4 l 4 (by omega)
  generalize num l 4 4 = many at hv1 hm hs
  have HS : Hid (seekS ⟨l, 0, true, false⟩ 4 = ⟨l, 4, true, false⟩) := Lib.hid (seek_to l 0 4 true (by omega))
  have hl2 : l.length ≤ 70368744177664 := by omega
  have dm : decide ((32 : Int) < (many : Int)) = false := by simp; omega
  have dl : decide ((l.length : Int) - 8 < (many : Int) * 20) = true := by simp; omega
  have HV1 := Lib.hid hv1
  have HS1 := Lib.hid hs1
  have HR := Lib.hid rd
  have HG := Lib.hid hg
  have HL := Lib.hid hl
  clear hv1 hs1 rd hg hl
  go_enter Tryd.func64, Tryd.ntmps64
  go_wp2_with fail
  refine (New_cur _ l true w HR.out (by omega)).mono ?_
  rintro e w1 ⟨c, rfl, hx, hcur, hch⟩
  have Hx := Lib.hid hx
  have Hcur := Lib.hid hcur
  have Hch := Lib.hid hch
  clear hx hcur hch
  go_wp2_with fail
  refine (Seek_cur c _ 4 w1 Hcur.out).mono ?_
  rintro e w2 ⟨rfl, hcur2, hch2⟩
  rw [HS.out] at hcur2
  have Hcur2 := Lib.hid hcur2
  have Hch2 := Lib.hid hch2
  clear hcur2 hch2
  go_wp2_with fail
  refine (Number_cur c _ 4 w2 Hcur2.out).mono ?_
  rintro e w3 ⟨rfl, hcur3, hch3⟩
  rw [HV1.out]
  rw [HS1.out] at hcur3
  have HC3 := Lib.hid (Hch.out.new (Hch2.out.same hch3) Hx.out)
  have Hcur3 := Lib.hid hcur3
  have Hch3 := Lib.hid hch3
  clear hcur3 hch3
  go_wp2_with fail
  refine (Err_cur c _ w3 (HG.out.frame HC3.out (by simp)) Hcur3.out).mono ?_
  rintro e w4 ⟨rfl, hch4⟩
  have Hcur4 := Lib.hid (Hcur3.out.frame hch4)
  have HC4 := Lib.hid (HC3.out.then hch4)
  clear hch4
  simp only [Bool.false_eq_true, if_false]
  go_wp2_with fail
  refine (Left_cur c _ w4 Hcur4.out).mono ?_
  rintro e w5 ⟨rfl, hd5⟩
  simp only
  rw [show ((4 + 4 : Nat) : Int) = 8 from rfl]
  have HC5 := Lib.hid (HC4.out.dr hd5)
  have Hcur5 := Lib.hid (Hcur4.out.frame ((Chg.refl [] w4).dr hd5))
  clear hd5
  go_wp2_with fail
  refine (At_cur c _ w5 Hcur5.out).mono ?_
  rintro e w6 ⟨rfl, rfl⟩
  go_wp2_with fail
  refine (wrong_any _ 3 (by decide) w5).mono ?_
  rintro e w7 ⟨v, rfl, he, _, hch⟩
  have HC7 := Lib.hid (HC5.out.then hch)
  have He := Lib.hid he
  clear he
  clear hch
  go_wp2
  go_ret2
  exact ⟨_, rfl, He.out, HC7.out⟩
set_option maxHeartbeats 1000000 in
theorem entF3_32 (wd : Int) (l : List UInt8) (a : Option Addr) (cap : Nat) (w : World) (hg : Env w) (rd : Rd w (.slice a l.length cap) (bytesV l)) (h8 : 8 ≤ l.length) (hl : l.length ≤ 1048576) (hm : num l 4 4 ≤ 32) (hs : l.length < 8 + num l 4 4 * 32) :
    Calls Tryd.prog 64 #[.slice a l.length cap, .int .i64 32, .int .i64 wd] w fun e w' => ∃ v', e = .returned (.tuple #[.slice none 0 0, v']) ∧ WErr w' v' 3 ∧ Chg [] w w' := by
  obtain ⟨hv1, hs1⟩ := takeN4 l 4 (by omega)
  generalize num l 4 4 = many at hv1 hm hs
  have HS : Hid (seekS ⟨l, 0, true, false⟩ 4 = ⟨l, 4, true, false⟩) := Lib.hid (seek_to l 0 4 true (by omega))
  have hl2 : l.length ≤ 70368744177664 := by omega
  have dm : decide ((32 : Int) < (many : Int)) = false := by simp; omega
  have dl : decide ((l.length : Int) - 8 < (many : Int) * 32) = true := by simp; omega
  have HV1 := Lib.hid hv1
  have HS1 := Lib.hid hs1
  have HR := Lib.hid rd
  have HG := Lib.hid hg
  have HL := Lib.hid hl
  clear hv1 hs1 rd hg hl
  go_enter Tryd.func64, Tryd.ntmps64
  go_wp2_with fail
  refine (New_cur _ l true w HR.out (by omega)).mono ?_
  rintro e w1 ⟨c, rfl, hx, hcur, hch⟩
  have Hx := Lib.hid hx
  have Hcur := Lib.hid hcur
  have Hch := Lib.hid hch
  clear hx hcur hch
  go_wp2_with fail
  refine (Seek_cur c _ 4 w1 Hcur.out).mono ?_
  rintro e w2 ⟨rfl, hcur2, hch2⟩
  rw [HS.out] at hcur2
  have Hcur2 := Lib.hid hcur2
  have Hch2 := Lib.hid hch2
  clear hcur2 hch2
  go_wp2_with fail
  refine (Number_cur c _ 4 w2 Hcur2.out).mono ?_
  rintro e w3 ⟨rfl, hcur3, hch3⟩
  rw [HV1.out]
  rw [HS1.out] at hcur3
  have HC3 := Lib.hid (Hch.out.new (Hch2.out.same hch3) Hx.out)
  have Hcur3 := Lib.hid hcur3
  have Hch3 := Lib.hid hch3
  clear hcur3 hch3
  go_wp2_with fail
  refine (Err_cur c _ w3 (HG.out.frame HC3.out (by simp)) Hcur3.out).mono ?_
  rintro e w4 ⟨rfl, hch4⟩
  have Hcur4 := Lib.hid (Hcur3.out.frame hch4)
  have HC4 := Lib.hid (HC3.out.then hch4)
  clear hch4
  simp only [Bool.false_eq_true, if_false]
  go_wp2_with fail
  refine (Left_cur c _ w4 Hcur4.out).mono ?_
  rintro e w5 ⟨rfl, hd5⟩
  simp only
  rw [show ((4 + 4 : Nat) : Int) = 8 from rfl]
  have HC5 := Lib.hid (HC4.out.dr hd5)
  have Hcur5 := Lib.hid (Hcur4.out.frame ((Chg.refl [] w4).dr hd5))
  clear hd5
  go_wp2_with fail
  refine (At_cur c _ w5 Hcur5.out).mono ?_
  rintro e w6 ⟨rfl, rfl⟩
  go_wp2_with fail
  refine (wrong_any _ 3 (by decide) w5).mono ?_
  rintro e w7 ⟨v, rfl, he, _, hch⟩
  have HC7 := Lib.hid (HC5.out.then hch)
  have He := Lib.hid he
  clear he
  clear hch
  go_wp2
  go_ret2
  exact ⟨_, rfl, He.out, HC7.out⟩
end Go.Proofs.YtchkombikjcokaaDoor
