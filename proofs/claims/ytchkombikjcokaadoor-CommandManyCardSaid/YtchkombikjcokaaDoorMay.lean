/- command.May, walked. -/
import Derived.Test.YtchkombikjcokaaDoorOne
namespace Go.Proofs.YtchkombikjcokaaDoor
open Go.RowKit
set_option maxRecDepth 100000

theorem takeL4 (l : List UInt8) (p : Nat) (h : p + 4 ≤ l.length) : numberV ⟨l, p, false, false⟩ 4 = leNum ((l.drop p).take 4) ∧ numberS ⟨l, p, false, false⟩ 4 = ⟨l, p + 4, false, false⟩ := by
  have hc : canTake ⟨l, p, false, false⟩ 4 = true := canTake_of rfl (by omega) (by show (4 : Int) ≤ (l.length : Int) - p; omega)
  constructor
  · unfold numberV takeL; rw [hc]; rfl
  · unfold numberS takeS; rw [hc]; rfl
theorem take4_no (l : List UInt8) (p : Nat) (h : l.length < p + 4) : numberV ⟨l, p, false, false⟩ 4 = 0 ∧ numberS ⟨l, p, false, false⟩ 4 = ⟨l, p, false, true⟩ := by
  have hc : canTake ⟨l, p, false, false⟩ 4 = false := by
    simp [canTake]; omega
  constructor
  · unfold numberV takeL; rw [hc]; rfl
  · unfold numberS takeS; rw [hc]; rfl
theorem take4_failed (l : List UInt8) (p : Nat) : numberV ⟨l, p, false, true⟩ 4 = 0 ∧ numberS ⟨l, p, false, true⟩ 4 = ⟨l, p, false, true⟩ := by
  have hc : canTake ⟨l, p, false, true⟩ 4 = false := rfl
  constructor
  · unfold numberV takeL; rw [hc]; rfl
  · unfold numberS takeS; rw [hc]; rfl
theorem leNum4_lt (l : List UInt8) (p : Nat) : leNum ((l.drop p).take 4) < 4294967296 := by
  have h := leNum_lt ((l.drop p).take 4)
  have h2 : ((l.drop p).take 4).length ≤ 4 := List.length_take_le _ _
  exact Nat.lt_of_lt_of_le h (Nat.pow_le_pow_right (by decide) h2)

def mayB (cmd : Nat) (l : List UInt8) : Bool := decide (8 ≤ l.length) && decide (leNum (l.take 4) = cmd) && decide (leNum ((l.drop 4).take 4) = l.length) && decide (l.length % 8 = 0)
theorem mayB_eq (cmd : Nat) (l : List UInt8) : mayB cmd l = true ↔ 8 ≤ l.length ∧ leNum (l.take 4) = cmd ∧ leNum ((l.drop 4).take 4) = l.length ∧ l.length % 8 = 0 := by
  simp [mayB, and_assoc]
theorem mayB_no {cmd : Nat} {l : List UInt8} (h : ¬ (8 ≤ l.length ∧ leNum (l.take 4) = cmd ∧ leNum ((l.drop 4).take 4) = l.length ∧ l.length % 8 = 0)) : mayB cmd l = false := by
  cases hb : mayB cmd l with
  | false => rfl
  | true => exact absurd ((mayB_eq cmd l).1 hb) h

set_option maxHeartbeats 1000000 in
theorem May_any (cmd : Nat) (l : List UInt8) (a : Option Addr) (cap : Nat) (w : World) (rd : Rd w (.slice a l.length cap) (bytesV l)) (hl : l.length ≤ 70368744177664) (hg : Env w) :
    Calls Tryd.prog 33 #[.agg #[.int .u32 cmd, .slice a l.length cap]] w fun e w' => e = .returned (.bool (mayB cmd l)) ∧ Chg [] w w' := by
  have hw : ∀ W, Chg [] (w.alloc (.cells #[.int .u32 cmd, .slice a l.length cap] 26)) W → W.cell? ⟨w.heap.size, 0, none⟩ = some (.int .u32 cmd) ∧ W.cell? ⟨w.heap.size, 1, none⟩ = some (.slice a l.length cap) := fun W hW => by
    have := hW.heap (heap_alloc_eq w _) (by simp)
    exact ⟨by rw [cell_of_heap this]; rfl, by rw [cell_of_heap this]; rfl⟩
  have HW := Lib.hid (hw)
  have HR := Lib.hid (rd.alloc (.cells #[.int .u32 cmd, .slice a l.length cap] 26))
  have H0 := Lib.hid ((Curs.start hg).alloc (.cells #[.int .u32 cmd, .slice a l.length cap] 26))
  clear hw rd hg
  by_cases h8 : l.length < 8
  · have HB : Hid (mayB cmd l = false) := Lib.hid (mayB_no (fun h => by omega))
    have HS : Hid ((numberS (numberS ⟨l, 0, false, false⟩ 4) 4).failed = true) := by
      refine Lib.hid ?_
      by_cases h4 : l.length < 4
      · rw [(take4_no l 0 (by omega)).2, (take4_failed l 0).2]
      · rw [(takeL4 l 0 (by omega)).2, (take4_no l 4 (by omega)).2]
    rw [HB.out]
    go_enter Tryd.func33, Tryd.ntmps33
    go_wp2_with fail
    obtain ⟨w1, hw1⟩ : ∃ w1, w1 = w.alloc (.cells #[.int .u32 cmd, .slice a l.length cap] 26) := ⟨_, rfl⟩
    have HA : Hid (Chg [] w w1) := Lib.hid (by rw [hw1]; exact (Chg.refl _ _).alloc _)
    rw [← hw1] at HW HR H0 ⊢
    clear hw1
    refine (New_cur _ l false w1 HR.out (by omega)).mono ?_
    rintro e w2 ⟨x, rfl, hx, hcx, hch⟩
    have H2 := Lib.hid (H0.out.new hch hcx hx)
    have HC2 := Lib.hid (hch)
    clear hx hcx hch
    go_wp2_with fail
    refine (Number_cur x _ 4 w2 H2.out.cur).mono ?_
    rintro e w3 ⟨rfl, hcx, hch⟩
    have H3 := Lib.hid (H2.out.call hcx hch)
    clear hcx hch
    go_wp2_with fail
    refine (Number_cur x _ 4 w3 H3.out.cur).mono ?_
    rintro e w4 ⟨rfl, hcx, hch⟩
    have H4 := Lib.hid (H3.out.call hcx hch)
    clear hcx hch
    go_wp2_with fail
    refine (Err_cur x _ w4 H4.out.env H4.out.cur).mono ?_
    rintro e w5 ⟨rfl, hch⟩
    rw [HS.out]
    have H5 := Lib.hid (H4.out.pure hch)
    clear hch
    go_wp2
    go_ret
    exact ⟨rfl, H5.out.chg⟩
  · obtain ⟨n1, hn1⟩ : ∃ n1, n1 = leNum (l.take 4) := ⟨_, rfl⟩
    obtain ⟨n2, hn2⟩ : ∃ n2, n2 = leNum ((l.drop 4).take 4) := ⟨_, rfl⟩
    have l1 : n1 < 4294967296 := by rw [hn1]; exact leNum4_lt l 0
    have l2 : n2 < 4294967296 := by rw [hn2]; exact leNum4_lt l 4
    obtain ⟨hv1, hs1⟩ := takeL4 l 0 (by omega)
    obtain ⟨hv2, hs2⟩ := takeL4 l 4 (by omega)
    rw [List.drop_zero, ← hn1] at hv1
    rw [← hn2] at hv2
    have HB : Hid (mayB cmd l = (decide (n1 = cmd) && decide (n2 = l.length) && decide (n2 % 8 = 0))) := by
      refine Lib.hid ?_
      unfold mayB
      rw [← hn1, ← hn2, decide_eq_true (by omega : 8 ≤ l.length), Bool.true_and]
      by_cases he : n2 = l.length
      · rw [he]
      · rw [decide_eq_false he]; simp
    rw [HB.out]
    have Hv1 := Lib.hid hv1
    have Hs1 := Lib.hid hs1
    have Hv2 := Lib.hid hv2
    have Hs2 := Lib.hid hs2
    clear hv1 hs1 hv2 hs2
    clear hn1 hn2
    have key : ∀ b : Bool, (decide (n1 = cmd) && decide (n2 = l.length) && decide (n2 % 8 = 0)) = b → Calls Tryd.prog 33 #[.agg #[.int .u32 cmd, .slice a l.length cap]] w fun e w' => e = .returned (.bool b) ∧ Chg [] w w' := by
      intro b hb
      by_cases k1 : n1 = cmd
      · by_cases k2 : n2 = l.length
        · by_cases k3 : n2 % 8 = 0
          · rw [decide_eq_true k1, decide_eq_true k2, decide_eq_true k3] at hb
            subst hb
            have e1 : ((n1 : Int) == (cmd : Int)) = true := by rw [beq_iff_eq]; omega
            have e2 : ((n2 : Int) == (l.length : Int)) = true := by rw [beq_iff_eq]; omega
            have e3 : ((n2 : Int) % 8 == 0) = true := by rw [beq_iff_eq]; omega
            clear k1 k2 k3
            go_enter Tryd.func33, Tryd.ntmps33
            go_wp2_with fail
            obtain ⟨w1, hw1⟩ : ∃ w1, w1 = w.alloc (.cells #[.int .u32 cmd, .slice a l.length cap] 26) := ⟨_, rfl⟩
            have HA : Hid (Chg [] w w1) := Lib.hid (by rw [hw1]; exact (Chg.refl _ _).alloc _)
            rw [← hw1] at HW HR H0 ⊢
            clear hw1
            refine (New_cur _ l false w1 HR.out (by omega)).mono ?_
            rintro e w2 ⟨x, rfl, hx, hcx, hch⟩
            have H2 := Lib.hid (H0.out.new hch hcx hx)
            have HC2 := Lib.hid (hch)
            have HX := Lib.hid (hx)
            clear hx hcx hch
            go_wp2_with fail
            refine (Number_cur x _ 4 w2 H2.out.cur).mono ?_
            rintro e w3 ⟨rfl, hcx, hch⟩
            rw [Hs1.out] at hcx
            rw [Hv1.out]
            have H3 := Lib.hid (H2.out.call hcx hch)
            have HC3 := Lib.hid (hch)
            clear hcx hch
            go_wp2_with fail
            refine (Number_cur x _ 4 w3 H3.out.cur).mono ?_
            rintro e w4 ⟨rfl, hcx, hch⟩
            rw [Hs2.out] at hcx
            rw [Hv2.out]
            have H4 := Lib.hid (H3.out.call hcx hch)
            have HC4 := Lib.hid (hch)
            clear hcx hch
            go_wp2_with fail
            refine (Err_cur x _ w4 H4.out.env H4.out.cur).mono ?_
            rintro e w5 ⟨rfl, hch⟩
            have H5 := Lib.hid (H4.out.pure hch)
            have hk : Chg [] w1 w5 := (HC2.out.new (HC3.out.same HC4.out) HX.out).then hch
            obtain ⟨k0, k1⟩ := HW.out w5 hk
            clear hch hk
            go_wp2
            go_ret
            exact ⟨rfl, H5.out.chg⟩
          · rw [decide_eq_false k3, Bool.and_false] at hb
            subst hb
            have e1 : ((n1 : Int) == (cmd : Int)) = true := by rw [beq_iff_eq]; omega
            have e2 : ((n2 : Int) == (l.length : Int)) = true := by rw [beq_iff_eq]; omega
            have e3 : ((n2 : Int) % 8 == 0) = false := by rw [beq_eq_false_iff_ne]; omega
            clear k1 k2 k3
            go_enter Tryd.func33, Tryd.ntmps33
            go_wp2_with fail
            obtain ⟨w1, hw1⟩ : ∃ w1, w1 = w.alloc (.cells #[.int .u32 cmd, .slice a l.length cap] 26) := ⟨_, rfl⟩
            have HA : Hid (Chg [] w w1) := Lib.hid (by rw [hw1]; exact (Chg.refl _ _).alloc _)
            rw [← hw1] at HW HR H0 ⊢
            clear hw1
            refine (New_cur _ l false w1 HR.out (by omega)).mono ?_
            rintro e w2 ⟨x, rfl, hx, hcx, hch⟩
            have H2 := Lib.hid (H0.out.new hch hcx hx)
            have HC2 := Lib.hid (hch)
            have HX := Lib.hid (hx)
            clear hx hcx hch
            go_wp2_with fail
            refine (Number_cur x _ 4 w2 H2.out.cur).mono ?_
            rintro e w3 ⟨rfl, hcx, hch⟩
            rw [Hs1.out] at hcx
            rw [Hv1.out]
            have H3 := Lib.hid (H2.out.call hcx hch)
            have HC3 := Lib.hid (hch)
            clear hcx hch
            go_wp2_with fail
            refine (Number_cur x _ 4 w3 H3.out.cur).mono ?_
            rintro e w4 ⟨rfl, hcx, hch⟩
            rw [Hs2.out] at hcx
            rw [Hv2.out]
            have H4 := Lib.hid (H3.out.call hcx hch)
            have HC4 := Lib.hid (hch)
            clear hcx hch
            go_wp2_with fail
            refine (Err_cur x _ w4 H4.out.env H4.out.cur).mono ?_
            rintro e w5 ⟨rfl, hch⟩
            have H5 := Lib.hid (H4.out.pure hch)
            have hk : Chg [] w1 w5 := (HC2.out.new (HC3.out.same HC4.out) HX.out).then hch
            obtain ⟨k0, k1⟩ := HW.out w5 hk
            clear hch hk
            go_wp2
            go_ret
            exact ⟨rfl, H5.out.chg⟩
        · rw [decide_eq_false k2, Bool.and_false, Bool.false_and] at hb
          subst hb
          have e1 : ((n1 : Int) == (cmd : Int)) = true := by rw [beq_iff_eq]; omega
          have e2 : ((n2 : Int) == (l.length : Int)) = false := by rw [beq_eq_false_iff_ne]; omega
          clear k1 k2
          go_enter Tryd.func33, Tryd.ntmps33
          go_wp2_with fail
          obtain ⟨w1, hw1⟩ : ∃ w1, w1 = w.alloc (.cells #[.int .u32 cmd, .slice a l.length cap] 26) := ⟨_, rfl⟩
          have HA : Hid (Chg [] w w1) := Lib.hid (by rw [hw1]; exact (Chg.refl _ _).alloc _)
          rw [← hw1] at HW HR H0 ⊢
          clear hw1
          refine (New_cur _ l false w1 HR.out (by omega)).mono ?_
          rintro e w2 ⟨x, rfl, hx, hcx, hch⟩
          have H2 := Lib.hid (H0.out.new hch hcx hx)
          have HC2 := Lib.hid (hch)
          have HX := Lib.hid (hx)
          clear hx hcx hch
          go_wp2_with fail
          refine (Number_cur x _ 4 w2 H2.out.cur).mono ?_
          rintro e w3 ⟨rfl, hcx, hch⟩
          rw [Hs1.out] at hcx
          rw [Hv1.out]
          have H3 := Lib.hid (H2.out.call hcx hch)
          have HC3 := Lib.hid (hch)
          clear hcx hch
          go_wp2_with fail
          refine (Number_cur x _ 4 w3 H3.out.cur).mono ?_
          rintro e w4 ⟨rfl, hcx, hch⟩
          rw [Hs2.out] at hcx
          rw [Hv2.out]
          have H4 := Lib.hid (H3.out.call hcx hch)
          have HC4 := Lib.hid (hch)
          clear hcx hch
          go_wp2_with fail
          refine (Err_cur x _ w4 H4.out.env H4.out.cur).mono ?_
          rintro e w5 ⟨rfl, hch⟩
          have H5 := Lib.hid (H4.out.pure hch)
          have hk : Chg [] w1 w5 := (HC2.out.new (HC3.out.same HC4.out) HX.out).then hch
          obtain ⟨k0, k1⟩ := HW.out w5 hk
          clear hch hk
          go_wp2
          go_ret
          exact ⟨rfl, H5.out.chg⟩
      · rw [decide_eq_false k1, Bool.false_and, Bool.false_and] at hb
        subst hb
        have e1 : ((n1 : Int) == (cmd : Int)) = false := by rw [beq_eq_false_iff_ne]; omega
        clear k1
        go_enter Tryd.func33, Tryd.ntmps33
        go_wp2_with fail
        obtain ⟨w1, hw1⟩ : ∃ w1, w1 = w.alloc (.cells #[.int .u32 cmd, .slice a l.length cap] 26) := ⟨_, rfl⟩
        have HA : Hid (Chg [] w w1) := Lib.hid (by rw [hw1]; exact (Chg.refl _ _).alloc _)
        rw [← hw1] at HW HR H0 ⊢
        clear hw1
        refine (New_cur _ l false w1 HR.out (by omega)).mono ?_
        rintro e w2 ⟨x, rfl, hx, hcx, hch⟩
        have H2 := Lib.hid (H0.out.new hch hcx hx)
        have HC2 := Lib.hid (hch)
        have HX := Lib.hid (hx)
        clear hx hcx hch
        go_wp2_with fail
        refine (Number_cur x _ 4 w2 H2.out.cur).mono ?_
        rintro e w3 ⟨rfl, hcx, hch⟩
        rw [Hs1.out] at hcx
        rw [Hv1.out]
        have H3 := Lib.hid (H2.out.call hcx hch)
        have HC3 := Lib.hid (hch)
        clear hcx hch
        go_wp2_with fail
        refine (Number_cur x _ 4 w3 H3.out.cur).mono ?_
        rintro e w4 ⟨rfl, hcx, hch⟩
        rw [Hs2.out] at hcx
        rw [Hv2.out]
        have H4 := Lib.hid (H3.out.call hcx hch)
        have HC4 := Lib.hid (hch)
        clear hcx hch
        go_wp2_with fail
        refine (Err_cur x _ w4 H4.out.env H4.out.cur).mono ?_
        rintro e w5 ⟨rfl, hch⟩
        have H5 := Lib.hid (H4.out.pure hch)
        have hk : Chg [] w1 w5 := (HC2.out.new (HC3.out.same HC4.out) HX.out).then hch
        obtain ⟨k0, k1⟩ := HW.out w5 hk
        clear hch hk
        go_wp2
        go_ret
        exact ⟨rfl, H5.out.chg⟩
    exact key _ rfl
end Go.Proofs.YtchkombikjcokaaDoor
