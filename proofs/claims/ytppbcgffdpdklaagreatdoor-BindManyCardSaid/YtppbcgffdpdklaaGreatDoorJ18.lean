/- Lemmas, laid together: part 18 of 39. Conditions: none but each lemma's own. -/
import Derived.Test.YtppbcgffdpdklaaGreatDoorJ17
/- take and Number on the cursor's abstract state. -/
namespace Go.Proofs.YtppbcgffdpdklaaGreatDoor
open Go.RowKit

theorem failS_of {s : CS} (h : s.failed = true) : failS s = s := by cases s; simp_all [failS]
theorem canTake_of {s : CS} {n : Int} (hf : s.failed = false) (h0 : 0 ≤ n) (h1 : n ≤ s.l.length - s.at_) : canTake s n = true := by simp [canTake, hf, h0, h1]
theorem takeS_no {s : CS} {n : Int} (h : canTake s n = false) : takeS s n = failS s := by simp [takeS, h]
theorem takeL_no {s : CS} {n : Int} (h : canTake s n = false) : takeL s n = [] := by simp [takeL, h]
theorem canTake_spec {s : CS} {n : Int} (h : canTake s n = true) : s.failed = false ∧ 0 ≤ n ∧ n ≤ s.l.length - s.at_ := by simpa [canTake] using h
theorem takeL_length {s : CS} {n : Int} (hc : s.at_ ≤ s.l.length) (h : canTake s n = true) : (takeL s n).length = n.toNat := by
  obtain ⟨_, h0, h1⟩ := canTake_spec h
  simp [takeL, h]; omega
theorem takeL_get {s : CS} {n : Int} (h : canTake s n = true) (j : Nat) (hj : j < n.toNat) : (takeL s n).getD j 0 = s.l.getD (s.at_ + j) 0 := by
  simp [takeL, h, hj]

/-- Where not so many stand there, or it has failed: none. -/
theorem take_no (b : Nat) (s : CS) (m : Int) (w : World) (h : CurB w b s) (hno : canTake s m = false) :
    Calls Tryz.prog 34 #[.pointer (some ⟨b, 0, none⟩), .int .i64 m] w fun e w' => e = .returned (.slice none 0 0) ∧ CurB w' b (failS s) ∧ Chg [b] w w' := by
  have hle := h.at_le
  by_cases h0 : 0 ≤ m
  · by_cases h1 : m ≤ s.l.length - s.at_
    · have hf : s.failed = true := by
        cases hf : s.failed with
        | true => rfl
        | false => rw [canTake_of hf h0 h1] at hno; exact absurd hno (by decide)
      have HF := Lib.hid hf
      have H := Lib.hid h
      clear hf hno h
      go_enter Tryz.func34, Tryz.ntmps34
      go_wp2_with fail
      refine (Left_cur b s w H.out).mono ?_
      rintro e w1 ⟨rfl, hd⟩
      have H1 := Lib.hid (H.out.frame ((Chg.refl [] w).dr hd))
      have HD := Lib.hid hd
      clear hd
      go_wp2_with fail
      refine (well_cur b s true w1 H1.out).mono ?_
      rintro e w' ⟨rfl, hcur, hchg⟩
      rw [HF.out]
      have HR := Lib.hid hcur
      have HG := Lib.hid hchg
      clear hcur hchg
      go_wp2
      go_ret
      exact ⟨rfl, by rw [failS_of HF.out]; exact HR.out, ((Chg.refl [b] w).dr HD.out).same HG.out⟩
    · have hdec : decide (m ≤ (s.l.length : Int) - s.at_) = false := by simpa using h1
      have H := Lib.hid h
      clear hno h h1
      go_enter Tryz.func34, Tryz.ntmps34
      go_wp2_with fail
      refine (Left_cur b s w H.out).mono ?_
      rintro e w1 ⟨rfl, hd⟩
      have H1 := Lib.hid (H.out.frame ((Chg.refl [] w).dr hd))
      have HD := Lib.hid hd
      clear hd
      go_wp2_with fail
      refine (well_cur b s false w1 H1.out).mono ?_
      rintro e w' ⟨rfl, hcur, hchg⟩
      have HR := Lib.hid hcur
      have HG := Lib.hid hchg
      clear hcur hchg
      simp only [Bool.false_and]
      go_wp2
      go_ret
      exact ⟨rfl, by simpa using HR.out, ((Chg.refl [b] w).dr HD.out).same HG.out⟩
  · have H := Lib.hid h
    clear hno h
    go_enter Tryz.func34, Tryz.ntmps34
    go_wp2_with fail
    refine (well_cur b s false w H.out).mono ?_
    rintro e w' ⟨rfl, hcur, hchg⟩
    have HR := Lib.hid hcur
    have HG := Lib.hid hchg
    clear hcur hchg
    simp only [Bool.false_and]
    go_wp2
    go_ret
    exact ⟨rfl, by simpa using HR.out, HG.out⟩

/-- take, whatever the state: a slice of what is taken, in the cursor's own bytes. -/
theorem take_cur (b : Nat) (s : CS) (m : Int) (w : World) (h : CurB w b s) :
    Calls Tryz.prog 34 #[.pointer (some ⟨b, 0, none⟩), .int .i64 m] w fun e w' => ∃ v, e = .returned v ∧ CurB w' b (takeS s m) ∧ Rd w' v (bytesV (takeL s m)) ∧ Chg [b] w w' := by
  cases hcan : canTake s m with
  | false =>
    refine (take_no b s m w h hcan).mono fun e w' ⟨he, hc, hg⟩ => ⟨_, he, by rw [takeS_no hcan]; exact hc, by rw [takeL_no hcan]; exact Rd.nil w', hg⟩
  | true =>
    have h' := h
    obtain ⟨hf, h0, h1⟩ := canTake_spec hcan
    obtain ⟨a, n, cap, hb, rfl, h2, h3, h4, h5, h6⟩ := h
    rw [hf] at hb
    refine (take_some b a _ cap _ m _ w hb (by omega) h4 (by omega) h0 h1 h2 h3 (fun hm => by obtain ⟨d, off, _, ha, _⟩ := h6 (by omega); exact ⟨d, off, ha⟩)).mono fun e w' ⟨he, hd⟩ => ?_
    have hst := h'.store (s' := takeS s m) 1 _ hd (by unfold takeS; rw [if_pos hcan]) (by unfold takeS; rw [if_pos hcan]; show s.at_ + m.toNat ≤ _; omega) (fun x => by
      unfold takeS; rw [if_pos hcan]; simp [hf]; omega)
    refine ⟨_, he, hst.1, ?_, hst.2⟩
    have hlen := takeL_length h'.at_le hcan
    have hsum : s.at_ + m.toNat ≤ s.l.length := by omega
    refine ⟨_, _, _, rfl, by simp [hlen, bytesV_length], Nat.le_refl _, Nat.le_trans (by omega : m.toNat ≤ s.l.length) (Nat.le_trans h2 h3), fun hne => ?_⟩
    have hm0 : m ≠ 0 := by
      rintro rfl
      apply hne
      apply List.eq_nil_of_length_eq_zero
      rw [bytesV_length, hlen]; rfl
    obtain ⟨d, off, c, rfl, hdb, hd', hc'⟩ := h6 (by omega)
    refine ⟨d, off + s.at_, by rw [if_neg hm0]; simp, fun j hj => ?_⟩
    rw [bytesV_length, hlen] at hj
    have e1 := (hc' (s.at_ + j) (Nat.lt_of_lt_of_le (Nat.add_lt_add_left hj _) hsum))
    have e2 := hst.2.cell e1 (by simp; omega)
    rw [Nat.add_assoc, e2, bytesV_get _ _ (by rw [hlen]; exact hj), takeL_get hcan j hj]

theorem Number_cur (b : Nat) (s : CS) (m : Int) (w : World) (h : CurB w b s) :
    Calls Tryz.prog 12 #[.pointer (some ⟨b, 0, none⟩), .int .i64 m] w fun e w' => e = .returned (.int .u64 (numberV s m)) ∧ CurB w' b (numberS s m) ∧ Chg [b] w w' := by
  cases hok : okSize m with
  | false =>
    have h1 : ¬ m = 1 ∧ ¬ m = 2 ∧ ¬ m = 4 ∧ ¬ m = 8 := by simpa [okSize] using hok
    obtain ⟨h1, h2, h3, h4⟩ := h1
    have e1 : (m == 1) = false := by simpa using h1
    have e2 : (m == 2) = false := by simpa using h2
    have e4 : (m == 4) = false := by simpa using h3
    have e8 : (m == 8) = false := by simpa using h4
    have H := Lib.hid h
    have HO := Lib.hid hok
    clear h h1 h2 h3 h4 hok
    go_enter Tryz.func12, Tryz.ntmps12
    go_wp2_with fail
    refine (well_cur b s false w H.out).mono ?_
    rintro e w' ⟨rfl, hcur, hchg⟩
    have HR := Lib.hid hcur
    have HG := Lib.hid hchg
    clear hcur hchg
    simp only [Bool.false_and]
    go_wp2
    go_ret
    exact ⟨by unfold numberV; rw [HO.out]; rfl, by unfold numberS; rw [HO.out]; simpa using HR.out, HG.out⟩
  | true =>
    have hm : m = 1 ∨ m = 2 ∨ m = 4 ∨ m = 8 := by simpa [okSize] using hok
    cases hcan : canTake s m with
    | false =>
      have ev : numberV s m = 0 := by unfold numberV; rw [takeL_no hcan]; unfold numOf; split <;> (try split) <;> rfl
      have es : numberS s m = failS s := by unfold numberS; rw [hok, if_pos rfl, takeS_no hcan]
      rw [ev, es]
      clear ev es hok
      have H := Lib.hid h
      have HC := Lib.hid hcan
      clear h hcan
      rcases hm with rfl | rfl | rfl | rfl
      all_goals
        go_enter Tryz.func12, Tryz.ntmps12
        go_wp2_with fail
        refine (well_cur b s true w H.out).mono ?_
        rintro e w1 ⟨rfl, hcur, hchg⟩
        have HR := Lib.hid hcur
        have HG := Lib.hid hchg
        clear hcur hchg
        cases hf : s.failed with
        | true =>
          have HF := Lib.hid hf
          clear hf
          go_wp2
          go_ret
          exact ⟨rfl, by rw [failS_of HF.out]; exact HR.out, HG.out⟩
        | false =>
          have HF := Lib.hid hf
          clear hf
          go_wp2_with fail
          refine (take_no b s _ w1 HR.out HC.out).mono ?_
          rintro e w2 ⟨rfl, hcur, hchg⟩
          have HR2 := Lib.hid hcur
          have HG2 := Lib.hid hchg
          clear hcur hchg
          go_wp2
          refine wp_loop_rounds 1 ?_
          rw [rounds_succ]
          go_wp2
          go_ret
          exact ⟨rfl, HR2.out, HG.out.same HG2.out⟩
    | true =>
      have h' := h
      obtain ⟨hf, h0, h1⟩ := canTake_spec hcan
      obtain ⟨a, n, cap, hb, rfl, h2, h3, h4, h5, h6⟩ := h
      rw [hf] at hb
      obtain ⟨d, off, c, rfl, hdb, hd', hc'⟩ := h6 (by omega)
      obtain ⟨M, rfl⟩ : ∃ M : Nat, m = M := ⟨m.toNat, by omega⟩
      have hlen := takeL_length h'.at_le hcan
      refine (number_some b d off _ cap s.at_ M s.big (takeL s M) w hb h4 h2 h3 (by omega) (by omega) (by omega) (by simpa using hlen) (fun j hj => ?_)).mono fun e w' ⟨he, hd⟩ => ?_
      · rw [takeL_get hcan j (by simpa using hj), Nat.add_assoc]
        exact hc' (s.at_ + j) (by omega)
      · have e1 : numberS s M = takeS s M := by unfold numberS; rw [hok, if_pos rfl]
        have e2 : numberV s M = numOf s.big (takeL s M) := by unfold numberV; rw [hok, if_pos rfl]
        rw [e1, e2]
        exact ⟨he, h'.store (s' := takeS s M) 1 _ hd (by unfold takeS; rw [if_pos hcan]) (by unfold takeS; rw [if_pos hcan]; show s.at_ + (M : Int).toNat ≤ _; omega) (fun x => by
          unfold takeS; rw [if_pos hcan]; simp [hf])⟩
end Go.Proofs.YtppbcgffdpdklaaGreatDoor
