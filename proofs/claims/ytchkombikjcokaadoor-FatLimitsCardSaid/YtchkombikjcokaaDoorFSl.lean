/- fat.read, Slices: whatever the bytes. -/
import Derived.Test.YtchkombikjcokaaDoorFRead
namespace Go.Proofs.YtchkombikjcokaaDoor
open Go.RowKit
set_option maxRecDepth 100000

def thinSL (l : List UInt8) : SL := ⟨leNum ((l.drop 4).take 4), leNum ((l.drop 8).take 4), 0, l.length, 0⟩
def magic (l : List UInt8) : Nat := numOf true (l.take 4)
def sliceL (l : List UInt8) : List SL :=
  if magic l = 3489328638 then [thinSL l] else if magic l = 3405691582 then entries l 20 4 (num l 4 4) else entries l 32 8 (num l 4 4)
def sliceE (l : List UInt8) : Int :=
  if 1048576 < l.length then 11 else if l.length < 4 then 3 else if magic l = 3489328638 then (if l.length < 12 then 3 else 0)
  else if magic l = 3405691582 then entE l 20 4 apE else if magic l = 3405691583 then entE l 32 8 apE else 5

theorem entries_any20 (l : List UInt8) (a : Option Addr) (cap : Nat) (w : World) (hg : Env w) (rd : Rd w (.slice a l.length cap) (bytesV l)) (h4 : 4 ≤ l.length) (hl : l.length ≤ 1048576) :
    Calls Tryd.prog 64 #[.slice a l.length cap, .int .i64 20, .int .i64 4] w fun e w' => ∃ v v', e = .returned (.tuple #[v, v']) ∧ WErr w' v' (entE l 20 4 apE) ∧ (entE l 20 4 apE = 0 → SlRd w' v (entries l 20 4 (num l 4 4))) ∧ Chg [] w w' := by
  by_cases h8 : l.length < 8
  · have e1 : entE l 20 4 apE = 3 := by unfold entE; rw [if_pos h8]
    rw [e1]
    exact (entF1 20 4 l a cap w hg rd h4 h8).mono fun e w' ⟨v', he, h1, h2⟩ => ⟨_, v', he, h1, fun h => absurd h (by decide), h2⟩
  · by_cases hm : 32 < num l 4 4
    · have e1 : entE l 20 4 apE = 11 := by unfold entE; rw [if_neg h8, if_pos hm]
      rw [e1]
      exact (entF2 20 4 l a cap w hg rd (by omega) hl hm).mono fun e w' ⟨v', he, h1, h2⟩ => ⟨_, v', he, h1, fun h => absurd h (by decide), h2⟩
    · by_cases hs : l.length < 8 + num l 4 4 * 20
      · have e1 : entE l 20 4 apE = 3 := by unfold entE; rw [if_neg h8, if_neg hm, if_pos hs]
        rw [e1]
        exact (entF3_20 4 l a cap w hg rd (by omega) hl (by omega) hs).mono fun e w' ⟨v', he, h1, h2⟩ => ⟨_, v', he, h1, fun h => absurd h (by decide), h2⟩
      · exact (ent20 apE l a cap w hg rd (by omega) hl (fun ls hlen hok v W hrd => apart_any ls (by omega) hok v W hrd) (by omega) (by omega)).mono fun e w' ⟨v, v', he, h1, h2, h3⟩ => ⟨v, v', he, h1, fun _ => h2, h3⟩
theorem entries_any32 (l : List UInt8) (a : Option Addr) (cap : Nat) (w : World) (hg : Env w) (rd : Rd w (.slice a l.length cap) (bytesV l)) (h4 : 4 ≤ l.length) (hl : l.length ≤ 1048576) :
    Calls Tryd.prog 64 #[.slice a l.length cap, .int .i64 32, .int .i64 8] w fun e w' => ∃ v v', e = .returned (.tuple #[v, v']) ∧ WErr w' v' (entE l 32 8 apE) ∧ (entE l 32 8 apE = 0 → SlRd w' v (entries l 32 8 (num l 4 4))) ∧ Chg [] w w' := by
  by_cases h8 : l.length < 8
  · have e1 : entE l 32 8 apE = 3 := by unfold entE; rw [if_pos h8]
    rw [e1]
    exact (entF1 32 8 l a cap w hg rd h4 h8).mono fun e w' ⟨v', he, h1, h2⟩ => ⟨_, v', he, h1, fun h => absurd h (by decide), h2⟩
  · by_cases hm : 32 < num l 4 4
    · have e1 : entE l 32 8 apE = 11 := by unfold entE; rw [if_neg h8, if_pos hm]
      rw [e1]
      exact (entF2 32 8 l a cap w hg rd (by omega) hl hm).mono fun e w' ⟨v', he, h1, h2⟩ => ⟨_, v', he, h1, fun h => absurd h (by decide), h2⟩
    · by_cases hs : l.length < 8 + num l 4 4 * 32
      · have e1 : entE l 32 8 apE = 3 := by unfold entE; rw [if_neg h8, if_neg hm, if_pos hs]
        rw [e1]
        exact (entF3_32 8 l a cap w hg rd (by omega) hl (by omega) hs).mono fun e w' ⟨v', he, h1, h2⟩ => ⟨_, v', he, h1, fun h => absurd h (by decide), h2⟩
      · exact (ent32 apE l a cap w hg rd (by omega) hl (fun ls hlen hok v W hrd => apart_any ls (by omega) hok v W hrd) (by omega) (by omega)).mono fun e w' ⟨v, v', he, h1, h2, h3⟩ => ⟨v, v', he, h1, fun _ => h2, h3⟩

def ReadsAs (w : World) (f : Value) (l : List UInt8) : Prop :=
  Calls Tryd.prog 42 #[f] w fun e w' => ∃ v v', e = .returned (.tuple #[v, v']) ∧ WErr w' v' (sliceE l) ∧ (sliceE l = 0 → SlRd w' v (sliceL l)) ∧ Chg [] w w'
set_option maxHeartbeats 2000000 in
theorem read_any (l : List UInt8) (a : Option Addr) (cap : Nat) (w : World) (hg : Env w) (rd : Rd w (.slice a l.length cap) (bytesV l)) (hl140 : l.length ≤ 70368744177664) : ReadsAs w (.slice a l.length cap) l := by
  unfold ReadsAs
  have HL140 : Hid (l.length ≤ 140737488355328) := Lib.hid (by omega)
  by_cases hbig : 1048576 < l.length
  · have d1 : decide ((1048576 : Int) < (l.length : Int)) = true := by simp; omega
    have HE : Hid (sliceE l = 11) := Lib.hid (by unfold sliceE; rw [if_pos hbig])
    rw [HE.out]
    have Rd := Lib.hid rd
    have Hg := Lib.hid hg
    clear rd hg
    clear hbig
    go_enter Tryd.func42, Tryd.ntmps42
    go_wp2_with fail
    refine (wrong_any _ 11 (by decide) w).mono ?_
    rintro e w1 ⟨v, rfl, he, _, hch⟩
    have He := Lib.hid he
    have Hch := Lib.hid hch
    clear he hch
    go_wp2
    go_ret2
    exact ⟨_, _, rfl, He.out, fun h => absurd h (by decide), Hch.out⟩
  · have d1 : decide ((1048576 : Int) < (l.length : Int)) = false := by simp; omega
    have HL : Hid (l.length ≤ 1048576) := Lib.hid (by omega)
    by_cases h4 : l.length < 4
    · obtain ⟨hv1, hs1⟩ := take4n l 0 true (by omega)
      have HE : Hid (sliceE l = 3) := Lib.hid (by unfold sliceE; rw [if_neg hbig, if_pos h4])
      rw [HE.out]
      have HV1 := Lib.hid hv1
      have HS1 := Lib.hid hs1
      have HR := Lib.hid rd
      have HG := Lib.hid hg
      clear hv1 hs1 rd hg
      clear hbig
      go_enter Tryd.func42, Tryd.ntmps42
      go_wp2_with fail
      refine (New_cur _ l true w HR.out HL140.out).mono ?_
      rintro e w1 ⟨c, rfl, hx, hcur, hch⟩
      have Hx := Lib.hid hx
      have Hcur := Lib.hid hcur
      have Hch := Lib.hid hch
      clear hx hcur hch
      go_wp2_with fail
      refine (Number_cur c _ 4 w1 Hcur.out).mono ?_
      rintro e w3 ⟨rfl, hcur3, hch3⟩
      rw [HV1.out]
      rw [HS1.out] at hcur3
      have HC3 := Lib.hid (Hch.out.new hch3 Hx.out)
      have Hcur3 := Lib.hid hcur3
      have Hch3 := Lib.hid hch3
      clear hcur3 hch3
      go_wp2_with fail
      refine (Err_cur c _ w3 (HG.out.frame HC3.out (by simp)) Hcur3.out).mono ?_
      rintro e w4 ⟨rfl, hch4⟩
      have Hcur4 := Lib.hid (Hcur3.out.frame hch4)
      have HC4 := Lib.hid (HC3.out.then hch4)
      clear hch4
      simp only [if_true]
      go_wp2_with fail
      refine (Wrong_cur c _ w4 Hcur4.out).mono ?_
      rintro e w5 ⟨v, rfl, he, hch⟩
      simp only [if_true] at he
      have HC5 := Lib.hid (HC4.out.then hch)
      have He := Lib.hid he
      clear he
      clear hch
      go_wp2
      go_ret2
      exact ⟨_, _, rfl, He.out, fun h => absurd h (by decide), HC5.out⟩
    · obtain ⟨hv1, hs1⟩ := take4b l 0 true (by omega)
      rw [List.drop_zero] at hv1
      have hv2 : numberV ⟨l, 0, true, false⟩ 4 = magic l := hv1
      clear hv1
      have H4 : Hid (4 ≤ l.length) := Lib.hid (by omega)
      have HV1 := Lib.hid hv2
      have HS1 := Lib.hid hs1
      have HR := Lib.hid rd
      have HG := Lib.hid hg
      clear hv2 hs1 rd hg
      by_cases m1 : magic l = 3489328638
      · rw [m1] at HV1
        by_cases h12 : l.length < 12
        · have HE : Hid (sliceE l = 3) := Lib.hid (by unfold sliceE; rw [if_neg hbig, if_neg h4, if_pos m1, if_pos h12])
          clear m1 hbig
          go_enter Tryd.func42, Tryd.ntmps42
          go_wp2_with fail
          refine (New_cur _ l true w HR.out HL140.out).mono ?_
          rintro e w1 ⟨c, rfl, hx, hcur, hch⟩
          have Hx := Lib.hid hx
          have Hcur := Lib.hid hcur
          have Hch := Lib.hid hch
          clear hx hcur hch
          go_wp2_with fail
          refine (Number_cur c _ 4 w1 Hcur.out).mono ?_
          rintro e w3 ⟨rfl, hcur3, hch3⟩
          rw [HV1.out]
          rw [HS1.out] at hcur3
          have HC3 := Lib.hid (Hch.out.new hch3 Hx.out)
          have Hcur3 := Lib.hid hcur3
          have Hch3 := Lib.hid hch3
          clear hcur3 hch3
          go_wp2_with fail
          refine (Err_cur c _ w3 (HG.out.frame HC3.out (by simp)) Hcur3.out).mono ?_
          rintro e w4 ⟨rfl, hch4⟩
          have Hcur4 := Lib.hid (Hcur3.out.frame hch4)
          have HC4 := Lib.hid (HC3.out.then hch4)
          clear hch4
          simp only [Bool.false_eq_true, if_false]
          go_wp2_with fail
          refine (whole_no l a cap w4 (HR.out.frame HC4.out (fun _ _ hm => by cases hm)) H4.out h12).mono ?_
          rintro e w5 ⟨v, v', rfl, he, hch5⟩
          have HE5 := Lib.hid (he)
          have HC5 := Lib.hid (HC4.out.then hch5)
          clear he hch5
          go_wp2
          go_ret2
          rw [HE.out]
          exact ⟨_, _, rfl, HE5.out, fun h => absurd h (by decide), HC5.out⟩
        · have HE : Hid (sliceE l = 0) := Lib.hid (by unfold sliceE; rw [if_neg hbig, if_neg h4, if_pos m1, if_neg h12])
          have HLL : Hid (sliceL l = [thinSL l]) := Lib.hid (by unfold sliceL; rw [if_pos m1])
          clear m1 hbig
          go_enter Tryd.func42, Tryd.ntmps42
          go_wp2_with fail
          refine (New_cur _ l true w HR.out HL140.out).mono ?_
          rintro e w1 ⟨c, rfl, hx, hcur, hch⟩
          have Hx := Lib.hid hx
          have Hcur := Lib.hid hcur
          have Hch := Lib.hid hch
          clear hx hcur hch
          go_wp2_with fail
          refine (Number_cur c _ 4 w1 Hcur.out).mono ?_
          rintro e w3 ⟨rfl, hcur3, hch3⟩
          rw [HV1.out]
          rw [HS1.out] at hcur3
          have HC3 := Lib.hid (Hch.out.new hch3 Hx.out)
          have Hcur3 := Lib.hid hcur3
          have Hch3 := Lib.hid hch3
          clear hcur3 hch3
          go_wp2_with fail
          refine (Err_cur c _ w3 (HG.out.frame HC3.out (by simp)) Hcur3.out).mono ?_
          rintro e w4 ⟨rfl, hch4⟩
          have Hcur4 := Lib.hid (Hcur3.out.frame hch4)
          have HC4 := Lib.hid (HC3.out.then hch4)
          clear hch4
          simp only [Bool.false_eq_true, if_false]
          go_wp2_with fail
          refine (whole_ok l a cap w4 (HR.out.frame HC4.out (fun _ _ hm => by cases hm)) (Nat.le_of_not_lt h12) HL.out).mono ?_
          rintro e w5 ⟨v, rfl, hsl, hch5⟩
          have HSL5 := Lib.hid (hsl)
          have HC5 := Lib.hid (HC4.out.then hch5)
          clear hsl hch5
          go_wp2
          go_ret2
          rw [HE.out, HLL.out]
          exact ⟨_, _, rfl, .inl ⟨rfl, rfl⟩, fun _ => HSL5.out, HC5.out⟩
      · by_cases m2 : magic l = 3405691582
        · rw [m2] at HV1
          have HE : Hid (sliceE l = entE l 20 4 apE) := Lib.hid (by unfold sliceE; rw [if_neg hbig, if_neg h4, if_neg m1, if_pos m2])
          have HLL : Hid (sliceL l = entries l 20 4 (num l 4 4)) := Lib.hid (by unfold sliceL; rw [if_neg m1, if_pos m2])
          clear m1 m2 hbig
          go_enter Tryd.func42, Tryd.ntmps42
          go_wp2_with fail
          refine (New_cur _ l true w HR.out HL140.out).mono ?_
          rintro e w1 ⟨c, rfl, hx, hcur, hch⟩
          have Hx := Lib.hid hx
          have Hcur := Lib.hid hcur
          have Hch := Lib.hid hch
          clear hx hcur hch
          go_wp2_with fail
          refine (Number_cur c _ 4 w1 Hcur.out).mono ?_
          rintro e w3 ⟨rfl, hcur3, hch3⟩
          rw [HV1.out]
          rw [HS1.out] at hcur3
          have HC3 := Lib.hid (Hch.out.new hch3 Hx.out)
          have Hcur3 := Lib.hid hcur3
          have Hch3 := Lib.hid hch3
          clear hcur3 hch3
          go_wp2_with fail
          refine (Err_cur c _ w3 (HG.out.frame HC3.out (by simp)) Hcur3.out).mono ?_
          rintro e w4 ⟨rfl, hch4⟩
          have Hcur4 := Lib.hid (Hcur3.out.frame hch4)
          have HC4 := Lib.hid (HC3.out.then hch4)
          clear hch4
          simp only [Bool.false_eq_true, if_false]
          go_wp2_with fail
          refine (entries_any20 l a cap w4 (HG.out.frame HC4.out (by simp)) (HR.out.frame HC4.out (fun _ _ hm => by cases hm)) H4.out HL.out).mono ?_
          rintro e w5 ⟨v, v', rfl, he, hsl, hch5⟩
          have HE5 := Lib.hid (he)
          have HSL5 := Lib.hid (hsl)
          have HC5 := Lib.hid (HC4.out.then hch5)
          clear he hsl hch5
          go_wp2
          go_ret2
          rw [HE.out, HLL.out]
          exact ⟨_, _, rfl, HE5.out, HSL5.out, HC5.out⟩
        · by_cases m3 : magic l = 3405691583
          · rw [m3] at HV1
            have HE : Hid (sliceE l = entE l 32 8 apE) := Lib.hid (by unfold sliceE; rw [if_neg hbig, if_neg h4, if_neg m1, if_neg m2, if_pos m3])
            have HLL : Hid (sliceL l = entries l 32 8 (num l 4 4)) := Lib.hid (by unfold sliceL; rw [if_neg m1, if_neg m2])
            clear m1 m2 m3 hbig
            go_enter Tryd.func42, Tryd.ntmps42
            go_wp2_with fail
            refine (New_cur _ l true w HR.out HL140.out).mono ?_
            rintro e w1 ⟨c, rfl, hx, hcur, hch⟩
            have Hx := Lib.hid hx
            have Hcur := Lib.hid hcur
            have Hch := Lib.hid hch
            clear hx hcur hch
            go_wp2_with fail
            refine (Number_cur c _ 4 w1 Hcur.out).mono ?_
            rintro e w3 ⟨rfl, hcur3, hch3⟩
            rw [HV1.out]
            rw [HS1.out] at hcur3
            have HC3 := Lib.hid (Hch.out.new hch3 Hx.out)
            have Hcur3 := Lib.hid hcur3
            have Hch3 := Lib.hid hch3
            clear hcur3 hch3
            go_wp2_with fail
            refine (Err_cur c _ w3 (HG.out.frame HC3.out (by simp)) Hcur3.out).mono ?_
            rintro e w4 ⟨rfl, hch4⟩
            have Hcur4 := Lib.hid (Hcur3.out.frame hch4)
            have HC4 := Lib.hid (HC3.out.then hch4)
            clear hch4
            simp only [Bool.false_eq_true, if_false]
            go_wp2_with fail
            refine (entries_any32 l a cap w4 (HG.out.frame HC4.out (by simp)) (HR.out.frame HC4.out (fun _ _ hm => by cases hm)) H4.out HL.out).mono ?_
            rintro e w5 ⟨v, v', rfl, he, hsl, hch5⟩
            have HE5 := Lib.hid (he)
            have HSL5 := Lib.hid (hsl)
            have HC5 := Lib.hid (HC4.out.then hch5)
            clear he hsl hch5
            go_wp2
            go_ret2
            rw [HE.out, HLL.out]
            exact ⟨_, _, rfl, HE5.out, HSL5.out, HC5.out⟩
          · have HE : Hid (sliceE l = 5) := Lib.hid (by unfold sliceE; rw [if_neg hbig, if_neg h4, if_neg m1, if_neg m2, if_neg m3])
            generalize magic l = m at HV1 m1 m2 m3
            have t1 : ((m : Int) == 3489328638) = false := by rw [beq_eq_false_iff_ne]; omega
            have t2 : ((m : Int) == 3405691582) = false := by rw [beq_eq_false_iff_ne]; omega
            have t3 : ((m : Int) == 3405691583) = false := by rw [beq_eq_false_iff_ne]; omega
            rw [HE.out]
            clear m1 m2 m3 hbig
            go_enter Tryd.func42, Tryd.ntmps42
            go_wp2_with fail
            refine (New_cur _ l true w HR.out HL140.out).mono ?_
            rintro e w1 ⟨c, rfl, hx, hcur, hch⟩
            have Hx := Lib.hid hx
            have Hcur := Lib.hid hcur
            have Hch := Lib.hid hch
            clear hx hcur hch
            go_wp2_with fail
            refine (Number_cur c _ 4 w1 Hcur.out).mono ?_
            rintro e w3 ⟨rfl, hcur3, hch3⟩
            rw [HV1.out]
            rw [HS1.out] at hcur3
            have HC3 := Lib.hid (Hch.out.new hch3 Hx.out)
            have Hcur3 := Lib.hid hcur3
            have Hch3 := Lib.hid hch3
            clear hcur3 hch3
            go_wp2_with fail
            refine (Err_cur c _ w3 (HG.out.frame HC3.out (by simp)) Hcur3.out).mono ?_
            rintro e w4 ⟨rfl, hch4⟩
            have Hcur4 := Lib.hid (Hcur3.out.frame hch4)
            have HC4 := Lib.hid (HC3.out.then hch4)
            clear hch4
            simp only [Bool.false_eq_true, if_false]
            go_wp2_with fail
            refine (wrong_any 0 5 (by decide) w4).mono ?_
            rintro e w5 ⟨v, rfl, he, _, hch⟩
            have HC5 := Lib.hid (HC4.out.then hch)
            have He := Lib.hid he
            clear he
            clear hch
            go_wp2
            go_ret2
            exact ⟨_, _, rfl, He.out, fun h => absurd h (by decide), HC5.out⟩

theorem Slices_any (l : List UInt8) (a : Option Addr) (cap : Nat) (w : World) (hg : Env w) (rd : Rd w (.slice a l.length cap) (bytesV l)) (hl140 : l.length ≤ 70368744177664) :
    Calls Tryd.prog 17 #[.slice a l.length cap] w fun e w' => ∃ v, e = .returned (.tuple #[v, .int .i64 (sliceE l)]) ∧ (sliceE l = 0 → SlRd w' v (sliceL l)) ∧ (sliceE l ≠ 0 → v = .slice none 0 0) ∧ Chg [] w w' := by
  have HR := Lib.hid (read_any l a cap w hg rd hl140)
  unfold ReadsAs at HR
  have HG := Lib.hid hg
  clear hg
  clear rd
  generalize sliceE l = E at *
  go_enter Tryd.func17, Tryd.ntmps17
  go_wp2_with fail
  refine (HR.out).mono ?_
  rintro e w1 ⟨v, v', rfl, he, hsl, hch⟩
  have HSL := Lib.hid (hsl)
  have HC := Lib.hid (hch)
  rcases he with ⟨rfl, rfl⟩ | ⟨h0, b, at_, rfl, hb⟩
  · clear hsl hch
    go_wp2
    go_ret2
    exact ⟨_, rfl, HSL.out trivial, HC.out⟩
  · have HB := Lib.hid (hb)
    clear hsl hch hb
    go_wp2_with fail
    refine (Code_wrong b _ E w1 (HG.out.frame HC.out (by simp)) HB.out).mono ?_
    rintro e w2 ⟨rfl, hch⟩
    have HC2 := Lib.hid (HC.out.then hch)
    clear hch
    go_wp2
    go_ret2
    exact ⟨_, rfl, fun h => absurd h h0, fun _ => rfl, HC2.out⟩
end Go.Proofs.YtchkombikjcokaaDoor
