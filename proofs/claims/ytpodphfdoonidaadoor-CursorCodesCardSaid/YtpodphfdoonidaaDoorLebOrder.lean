/- LebOrder, walked. -/
import Derived.Test.YtpodphfdoonidaaDoorStr
import Derived.Test.YtpodphfdoonidaaDoorKnown2
import Derived.Test.YtpodphfdoonidaaDoorLebM
import Derived.StillTailTactics
namespace Go.Proofs.YtpodphfdoonidaaDoor
open Go.RowKit

theorem known_ok (w : World) (hg : Env w) : Calls Tryd.prog 15 #[] w fun e w' => e = .returned (.bool true) ∧ Chg [] w w' := known_leb w w (Curs.start hg)
set_option maxRecDepth 100000 in
theorem LebOrder_eq (n : Nat) (w : World) (hg : Env w) (hn : n < 18446744073709551616) :
    Calls Tryd.prog 5 #[.int .u64 n, .int .u64 n] w fun e w' => e = .returned (.bool true) ∧ Chg [] w w' := by
  have HG := Lib.hid hg
  have HN := Lib.hid hn
  clear hg hn
  go_enter Tryd.func5, Tryd.ntmps5
  go_wp2_with fail
  refine (Put_any n w HN.out).mono ?_
  rintro e w1 ⟨v1, rfl, ho1, hc1⟩
  have HO1 := Lib.hid ho1
  have HC1 := Lib.hid hc1
  clear ho1 hc1
  go_wp2_with fail
  refine (Put_any n w1 HN.out).mono ?_
  rintro e w2 ⟨v2, rfl, ho2, hc2⟩
  obtain ⟨a1, n1, c1, rfl⟩ : ∃ a n c, v1 = Value.slice a n c := by
    rcases HO1.out.2 with ⟨rfl, _⟩ | ⟨g, cap', cur, rfl, _⟩
    · exact ⟨_, _, _, rfl⟩
    · exact ⟨_, _, _, rfl⟩
  obtain ⟨a2, n2, c2, rfl⟩ : ∃ a n c, v2 = Value.slice a n c := by
    rcases ho2.2 with ⟨rfl, _⟩ | ⟨g, cap', cur, rfl, _⟩
    · exact ⟨_, _, _, rfl⟩
    · exact ⟨_, _, _, rfl⟩
  have hs1 := run_str (Rd.owned (owned_frame HO1.out hc2 (fun _ _ hm => by cases hm)))
  have hs2 := run_str (Rd.owned ho2)
  have HC2 := Lib.hid (HC1.out.then hc2)
  have HG2 := Lib.hid (HG.out.frame HC2.out (by simp))
  clear ho2 hc2
  go_wp2_with fail
  refine (known_leb w2 w2 (Curs.start HG2.out)).mono ?_
  rintro e w3 ⟨rfl, hch⟩
  have H3 := Lib.hid (HC2.out.then hch)
  clear hch
  go_wp2
  go_ret
  exact ⟨rfl, H3.out⟩

theorem Rd_take {w : World} {g n cap k : Nat} {l : List UInt8} (h : Rd w (.slice (some ⟨g, 0, none⟩) n cap) (bytesV l)) (hk : k ≤ l.length) : Rd w (.slice (some ⟨g, 0, none⟩) k cap) (bytesV (l.take k)) := by
  obtain ⟨a', n', cap', he, hn, hnc, hcm, hx⟩ := h
  cases he
  rw [bytesV_length] at hn hx
  refine ⟨_, _, _, rfl, by simp [bytesV]; omega, by omega, hcm, fun hne => ?_⟩
  have hlen : (bytesV (l.take k)).length = k := by simp [bytesV]; omega
  have hk0 : 0 < k := by
    rcases Nat.eq_zero_or_pos k with h0 | h0
    · subst h0; simp [bytesV] at hne
    · exact h0
  obtain ⟨b, off, h, hcell⟩ := hx (by intro e; have : (bytesV l).length = 0 := by rw [e]; rfl
                                      rw [bytesV_length] at this; omega)
  cases h
  refine ⟨_, _, rfl, fun j hj => ?_⟩
  rw [hlen] at hj
  rw [hcell j (by omega)]
  rw [bytesV_get l j (by omega), bytesV_get _ j (by simp; omega)]
  simp [hj]

set_option maxHeartbeats 400000 in
set_option maxRecDepth 100000 in
theorem LebOrder_lt (n m : Nat) (w : World) (hg : Env w) (hlt : n < m) (hm : m < 18446744073709551616) (b : Bool) :
    Calls Tryd.prog 5 #[.int .u64 (if b then n else m : Nat), .int .u64 (if b then m else n : Nat)] w fun e w' => e = .returned (.bool true) ∧ Chg [] w w' := by
  have HG := Lib.hid hg
  have HN := Lib.hid (show n < 18446744073709551616 by omega)
  have HM := Lib.hid hm
  have hlen1 : 0 < (putU n).length := (putUf_length 9 n).2
  have hlen2 := putU_mono n m (Nat.le_of_lt hlt)
  have hlen3 : (putU m).length ≤ 10 := (putUf_length 9 m).1
  have hpre := putU_prefix n m HN.out HM.out (by omega)
  have hne1 : ((n : Int) == m) = false := by simp; omega
  have hne2 : ((m : Int) == n) = false := by simp; omega
  clear hg hm
  cases b
  · simp only [Bool.false_eq_true, if_false]
    go_enter Tryd.func5, Tryd.ntmps5
    go_wp2_with fail
    refine (Put_any m w HM.out).mono ?_
    rintro e w1 ⟨v1, rfl, ho1, hc1⟩
    have HO1 := Lib.hid ho1
    have HC1 := Lib.hid hc1
    clear ho1 hc1
    go_wp2_with fail
    refine (Put_any n w1 HN.out).mono ?_
    rintro e w2 ⟨v2, rfl, ho2, hc2⟩
    obtain ⟨g1, c1, rfl, hnc1, hcm1, _, _, _⟩ := owned_at HO1.out (by omega)
    obtain ⟨g2, c2, rfl, hnc2, hcm2, _, _, _⟩ := owned_at ho2 (by omega)
    have HC2 := Lib.hid (HC1.out.then hc2)
    have HG2 : Hid (Env w2.drew) := HG.out.frame HC2.out.drew (by simp)
    have hr1 : Rd w2.drew _ _ := Rd.owned (owned_frame HO1.out hc2.drew (fun _ _ hm => by cases hm))
    have hr2 : Rd w2.drew _ _ := Rd.owned ho2
    have hs1 := run_str (Rd_take hr1 hlen2)
    have hs2 := run_str hr2
    clear ho2 hc2 hr1 hr2 HO1
    generalize hA : putU n = A at *
    generalize hB : putU m = B at *
    have d1 : (0 : Int) < (A.length : Int) := by omega
    have d2 : (A.length : Int) ≤ (B.length : Int) := by omega
    have d3 : A.length ≤ c1 := by omega
    have b1 : decide ((0 : Int) < (A.length : Int)) = true := by simpa using d1
    have b2 : decide ((A.length : Int) ≤ (B.length : Int)) = true := by simpa using d2
    have hne : (List.take A.length B == A) = false := by simpa using hpre
    clear hA hB hpre
    go_wp2_with fail
    refine wp_region_still_tail 21 (by kernel_rfl) (by kernel_rfl) ?_
    simp only [List.take_succ_cons, List.take_zero, List.drop_succ_cons, List.drop_zero]
    change wpStill _ _ w2.drew _ _ _
    repeat still_step
    refine wpStill_nil ?_
    change wpList _ _ _ _ _ w2.drew
    go_wp2_with fail
    refine (known_ok _ HG2.out).mono ?_
    rintro e w4 ⟨rfl, hc4⟩
    have HC4 := Lib.hid (HC2.out.drew.then hc4)
    clear hc4
    go_wp2
    go_ret
    exact ⟨rfl, HC4.out⟩
  · simp only [if_true]
    go_enter Tryd.func5, Tryd.ntmps5
    go_wp2_with fail
    refine (Put_any n w HN.out).mono ?_
    rintro e w1 ⟨v1, rfl, ho1, hc1⟩
    have HO1 := Lib.hid ho1
    have HC1 := Lib.hid hc1
    clear ho1 hc1
    go_wp2_with fail
    refine (Put_any m w1 HM.out).mono ?_
    rintro e w2 ⟨v2, rfl, ho2, hc2⟩
    obtain ⟨g1, c1, rfl, hnc1, hcm1, _, _, _⟩ := owned_at HO1.out (by omega)
    obtain ⟨g2, c2, rfl, hnc2, hcm2, _, _, _⟩ := owned_at ho2 (by omega)
    have HC2 := Lib.hid (HC1.out.then hc2)
    have HG2 : Hid (Env w2.drew) := HG.out.frame HC2.out.drew (by simp)
    have hr1 : Rd w2.drew _ _ := Rd.owned (owned_frame HO1.out hc2.drew (fun _ _ hm => by cases hm))
    have hr2 : Rd w2.drew _ _ := Rd.owned ho2
    have hs1 := run_str hr1
    have hs2 := run_str (Rd_take hr2 hlen2)
    clear ho2 hc2 hr1 hr2 HO1
    generalize hA : putU n = A at *
    generalize hB : putU m = B at *
    have d1 : (0 : Int) < (A.length : Int) := by omega
    have d2 : (A.length : Int) ≤ (B.length : Int) := by omega
    have d3 : A.length ≤ c2 := by omega
    have b1 : decide ((0 : Int) < (A.length : Int)) = true := by simpa using d1
    have b2 : decide ((A.length : Int) ≤ (B.length : Int)) = true := by simpa using d2
    have hne : (List.take A.length B == A) = false := by simpa using hpre
    clear hA hB hpre
    go_wp2_with fail
    refine wp_region_still_tail 21 (by kernel_rfl) (by kernel_rfl) ?_
    simp only [List.take_succ_cons, List.take_zero, List.drop_succ_cons, List.drop_zero]
    change wpStill _ _ w2.drew _ _ _
    repeat still_step
    refine wpStill_nil ?_
    change wpList _ _ _ _ _ w2.drew
    go_wp2_with fail
    refine (known_ok _ HG2.out).mono ?_
    rintro e w4 ⟨rfl, hc4⟩
    have HC4 := Lib.hid (HC2.out.drew.then hc4)
    clear hc4
    go_wp2
    go_ret
    exact ⟨rfl, HC4.out⟩
theorem u64_nat (a : Int) (h : (Lit.int .u64 a).wf = true) : ∃ n : Nat, a = n ∧ n < 18446744073709551616 := by
  simp [Lit.wf, IntKind.min, IntKind.max, IntKind.signed, IntKind.bits] at h
  exact ⟨a.toNat, by omega, by omega⟩
theorem i64_bd (a : Int) (h : (Lit.int .i64 a).wf = true) : -9223372036854775808 ≤ a ∧ a < 9223372036854775808 := by
  simp [Lit.wf, IntKind.min, IntKind.max, IntKind.signed, IntKind.bits] at h
  omega
theorem LebOrder_walk (w : World) (hg : Env w) (a : Int) (ha : (Lit.int .u64 a).wf = true) (b : Int) (hb : (Lit.int .u64 b).wf = true) :
    Calls Tryd.prog 5 #[.int .u64 a, .int .u64 b] w fun e w' => e = .returned (.bool true) ∧ Chg [] w w' := by
  obtain ⟨n, rfl, hn⟩ := u64_nat a ha
  obtain ⟨m, rfl, hm⟩ := u64_nat b hb
  rcases Nat.lt_trichotomy n m with h | rfl | h
  · exact LebOrder_lt n m w hg h hm true
  · exact LebOrder_eq n w hg hn
  · exact LebOrder_lt m n w hg h hn false
end Go.Proofs.YtpodphfdoonidaaDoor
