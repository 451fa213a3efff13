/- Lemmas, laid together: part 8 of 43. Conditions: none but each lemma's own. -/
import Derived.Test.YtgjlgamlmmjdpaaGreatDoorJ7
import Derived.Test.YtgjlgamlmmjdpaaGreatDoorJ6
import Derived.Handy
import Derived.Lib.Bytealg
import Derived.Test.YtgjlgamlmmjdpaaGreatDoorJ1
/- The cursor as an abstract state (bytes, place, which way round, failed), and what each method does to it. -/
namespace Go.Proofs.YtgjlgamlmmjdpaaGreatDoor
open Go.RowKit

structure CS where
  l : List UInt8
  at_ : Nat
  big : Bool
  failed : Bool
/-- The cursor at block b is in state s. -/
def CurB (w : World) (b : Nat) (s : CS) : Prop :=
  ∃ a n cap, w.heap[b]? = some (.cells #[.slice a n cap, .int .i64 s.at_, .bool s.big, .bool s.failed] 137 (0, 0)) ∧ n = s.l.length ∧ n ≤ cap ∧ cap ≤ maxLen ∧ n ≤ 140737488355328 ∧ s.at_ ≤ n ∧
    (0 < n → ∃ d off c, a = some ⟨d, off, none⟩ ∧ d < b ∧ w.heap[d]? = some (.cells c 5 (0, 0)) ∧ ∀ j, j < n → w.cell? ⟨d, off + j, none⟩ = some (.int .u8 (s.l.getD j 0).toNat))

theorem CurB.lt {w : World} {b : Nat} {s : CS} (h : CurB w b s) : b < w.heap.size := by
  obtain ⟨a, n, cap, hb, _⟩ := h; exact lt_of_heap hb
theorem CurB.at_le {w : World} {b : Nat} {s : CS} (h : CurB w b s) : s.at_ ≤ s.l.length := by
  obtain ⟨a, n, cap, hb, rfl, _, _, _, h, _⟩ := h; exact h
theorem CurB.len_le {w : World} {b : Nat} {s : CS} (h : CurB w b s) : s.l.length ≤ 140737488355328 := by
  obtain ⟨a, n, cap, hb, rfl, _, _, h, _, _⟩ := h; exact h
theorem CurB.frame {w w' : World} {b : Nat} {s : CS} (h : CurB w b s) (k : Chg [] w w') : CurB w' b s := by
  obtain ⟨a, n, cap, hb, h1, h2, h3, h4, h5, h6⟩ := h
  refine ⟨a, n, cap, k.heap hb (by simp), h1, h2, h3, h4, h5, fun hn => ?_⟩
  obtain ⟨d, off, c, ha, hdb, hd, hc⟩ := h6 hn
  exact ⟨d, off, c, ha, hdb, k.heap hd (by simp), fun j hj => k.cell (hc j hj) (by simp)⟩
theorem CurB.frame2 {w w' : World} {b b2 : Nat} {s s2 : CS} (h : CurB w b s) (h2 : CurB w b2 s2) (hne : b ≠ b2) (k : Chg [b2] w w') : CurB w' b s := by
  obtain ⟨a, n, cap, hb, h1, h2', h3, h4, h5, h6⟩ := h
  obtain ⟨_, _, _, hb2, _⟩ := h2
  refine ⟨a, n, cap, k.heap hb (by simpa using hne), h1, h2', h3, h4, h5, fun hn => ?_⟩
  obtain ⟨d, off, c, ha, hdb, hd, hc⟩ := h6 hn
  have hd2 : d ∉ [b2] := by
    intro hm
    rw [List.mem_singleton] at hm
    subst hm
    rw [hd] at hb2
    simp at hb2
  exact ⟨d, off, c, ha, hdb, k.heap hd hd2, fun j hj => k.cell (hc j hj) hd2⟩
/-- A store into one of the cursor's own cells but the first. -/
theorem CurB.store {w w' : World} {b : Nat} {s s' : CS} (h : CurB w b s) (j : Nat) (v : Value) (hd : Dr (w.setCell ⟨b, j, none⟩ v) w') (hl : s'.l = s.l) (hat : s'.at_ ≤ s.l.length)
    (hs : ∀ x, (#[x, .int .i64 s.at_, .bool s.big, .bool s.failed] : Array Value).setIfInBounds j v = #[x, .int .i64 s'.at_, .bool s'.big, .bool s'.failed]) : CurB w' b s' ∧ Chg [b] w w' := by
  obtain ⟨a, n, cap, hb, h1, h2, h3, h4, h5, h6⟩ := h
  have hc : Chg [b] w w' := ((Chg.refl [b] w).setCell ⟨b, j, none⟩ v (.inl (by simp))).dr hd
  refine ⟨⟨a, n, cap, ?_, by rw [hl]; exact h1, h2, h3, h4, by rw [h1]; exact hat, fun hn => ?_⟩, hc⟩
  · rw [hd.heap, heap_setCell hb, hs]
  · obtain ⟨d, off, c, ha, hdb, hd', hc'⟩ := h6 hn
    exact ⟨d, off, c, ha, hdb, hc.heap hd' (by simp; omega), fun j hj => by rw [hl]; exact hc.cell (hc' j hj) (by simp; omega)⟩

def failS (s : CS) : CS := { s with failed := true }
def seekS (s : CS) (at_ : Int) : CS := if 0 ≤ at_ ∧ at_ ≤ s.l.length then (if s.failed then s else { s with at_ := at_.toNat }) else failS s
def okSize (n : Int) : Bool := n = 1 ∨ n = 2 ∨ n = 4 ∨ n = 8
/-- May so many bytes be taken? -/
def canTake (s : CS) (n : Int) : Bool := !s.failed && decide (0 ≤ n ∧ n ≤ s.l.length - s.at_)
def takeS (s : CS) (n : Int) : CS := if canTake s n then { s with at_ := s.at_ + n.toNat } else failS s
def takeL (s : CS) (n : Int) : List UInt8 := if canTake s n then (s.l.drop s.at_).take n.toNat else []
def numberS (s : CS) (n : Int) : CS := if okSize n then takeS s n else failS s
def numberV (s : CS) (n : Int) : Nat := if okSize n then numOf s.big (takeL s n) else 0

theorem At_cur (b : Nat) (s : CS) (w : World) (h : CurB w b s) : Calls Tryz.prog 75 #[.pointer (some ⟨b, 0, none⟩)] w fun e w' => e = .returned (.int .i64 s.at_) ∧ w = w' := by
  obtain ⟨a, n, cap, hb, _⟩ := h
  exact At_any b _ _ _ _ w hb
theorem Left_cur (b : Nat) (s : CS) (w : World) (h : CurB w b s) :
    Calls Tryz.prog 72 #[.pointer (some ⟨b, 0, none⟩)] w fun e w' => e = .returned (.int .i64 ((s.l.length : Int) - s.at_)) ∧ Dr w w' := by
  obtain ⟨a, n, cap, hb, rfl, h2, h3, h4, h5, h6⟩ := h
  exact Left_any b _ _ _ _ _ _ w hb (by omega) h4 (by omega)
theorem Fail_cur (b : Nat) (s : CS) (w : World) (h : CurB w b s) :
    Calls Tryz.prog 93 #[.pointer (some ⟨b, 0, none⟩)] w fun e w' => e = .returned (.tuple #[]) ∧ CurB w' b (failS s) ∧ Chg [b] w w' := by
  have h' := h
  obtain ⟨a, n, cap, hb, _⟩ := h
  refine (Fail_any b _ _ _ _ w hb).mono fun e w' ⟨he, hw⟩ => ⟨he, ?_⟩
  subst hw
  exact h'.store 3 _ (Dr.refl _) rfl h'.at_le (fun x => rfl)
theorem well_cur (b : Nat) (s : CS) (is : Bool) (w : World) (h : CurB w b s) :
    Calls Tryz.prog 67 #[.pointer (some ⟨b, 0, none⟩), .bool is] w fun e w' => e = .returned (.bool (is && !s.failed)) ∧ CurB w' b (if is then s else failS s) ∧ Chg [b] w w' := by
  have h' := h
  obtain ⟨a, n, cap, hb, _⟩ := h
  refine (well_any b _ _ _ _ is w hb).mono fun e w' ⟨he, hw⟩ => ⟨he, ?_⟩
  subst hw
  cases is
  · exact h'.store 3 _ (Dr.refl _) rfl h'.at_le (fun x => rfl)
  · exact ⟨h', Chg.refl _ _⟩

theorem Seek_cur (b : Nat) (s : CS) (at_ : Int) (w : World) (h : CurB w b s) :
    Calls Tryz.prog 65 #[.pointer (some ⟨b, 0, none⟩), .int .i64 at_] w fun e w' => e = .returned (.tuple #[]) ∧ CurB w' b (seekS s at_) ∧ Chg [b] w w' := by
  have h' := h
  obtain ⟨a, n, cap, hb, h1, h2, h3, h4, h5, h6⟩ := h
  have hc0 := cell_of_heap hb 0
  have hc1 := cell_of_heap hb 1
  have f1 := frozen_of_heap hb 1
  simp at hc0 hc1
  have H1 := Lib.hid h1
  have hat := Lib.hid h'.at_le
  clear h1 h6
  unfold maxLen at h3
  have HP : Hid ((0 ≤ at_ ∧ at_ ≤ n) = (0 ≤ at_ ∧ at_ ≤ (s.l.length : Int))) := by rw [← H1.out]; exact rfl
  have H' := Lib.hid h'
  clear h'
  by_cases hi : 0 ≤ at_ ∧ at_ ≤ n
  · obtain ⟨hi1, hi2⟩ := hi
    have HC : Hid (0 ≤ at_ ∧ at_ ≤ (s.l.length : Int)) := by show _; rw [← H1.out]; exact ⟨hi1, hi2⟩
    cases hf : s.failed with
    | true =>
      rw [hf] at hb
      have HF := Lib.hid hf
      clear hf
      go_enter Tryz.func65, Tryz.ntmps65
      go_wp2_with fail
      refine (well_any b _ _ _ true true w hb).mono ?_
      rintro e w' ⟨rfl, rfl⟩
      go_wp2
      go_end0
      exact ⟨rfl, by unfold seekS; rw [if_pos HC.out, if_pos HF.out]; exact H'.out, Chg.refl _ _⟩
    | false =>
      rw [hf] at hb
      have HF := Lib.hid hf
      clear hf
      go_enter Tryz.func65, Tryz.ntmps65
      go_wp2_with fail
      refine (well_any b _ _ _ false true w hb).mono ?_
      rintro e w' ⟨rfl, rfl⟩
      go_wp2
      go_end0
      refine ⟨rfl, ?_⟩
      unfold seekS; rw [if_pos HC.out, if_neg (by rw [HF.out]; decide)]
      refine H'.out.store 1 _ (Dr.refl _) rfl (by have := HC.out; show at_.toNat ≤ _; omega) (fun x => ?_)
      simp; omega
  · have HC : Hid (¬ (0 ≤ at_ ∧ at_ ≤ (s.l.length : Int))) := by show ¬ _; rw [← H1.out]; exact hi
    have hn : at_ < 0 ∨ (0 ≤ at_ ∧ n < at_) := by omega
    clear hi
    have hdec : 0 ≤ at_ → decide (at_ ≤ (n : Int)) = false := fun h => by simp; omega
    rcases hn with hn | ⟨hn1, hn2⟩
    rotate_left
    have hdec := hdec hn1
    rotate_left
    all_goals
      go_enter Tryz.func65, Tryz.ntmps65
      go_wp2_with fail
      refine (well_cur b s false w H'.out).mono ?_
      rintro e w' ⟨rfl, hcur, hchg⟩
      simp only [Bool.false_and]
      have HR := Lib.hid hcur
      have HG := Lib.hid hchg
      clear hcur hchg
      go_wp2
      go_end0
      refine ⟨rfl, ?_, HG.out⟩
      have := HR.out
      unfold seekS; rw [if_neg HC.out]; simpa using this
end Go.Proofs.YtgjlgamlmmjdpaaGreatDoor
/- take and Number on the cursor's abstract state. -/
namespace Go.Proofs.YtgjlgamlmmjdpaaGreatDoor
open Go.RowKit

theorem failS_of {s : CS} (h : s.failed = true) : failS s = s := by cases s; simp_all [failS]
theorem canTake_of {s : CS} {n : Int} (hf : s.failed = false) (h0 : 0 ≤ n) (h1 : n ≤ s.l.length - s.at_) : canTake s n = true := by simp [canTake, hf, h0, h1]
theorem takeS_no {s : CS} {n : Int} (h : canTake s n = false) : takeS s n = failS s := by simp [takeS, h]
theorem takeL_no {s : CS} {n : Int} (h : canTake s n = false) : takeL s n = [] := by simp [takeL, h]
theorem canTake_spec {s : CS} {n : Int} (h : canTake s n = true) : s.failed = false ∧ 0 ≤ n ∧ n ≤ s.l.length - s.at_ := by simpa [canTake] using h
theorem takeL_length {s : CS} {n : Int} (hc : s.at_ ≤ s.l.length) (h : canTake s n = true) : (takeL s n).length = n.toNat := by
  obtain ⟨_, h0, h1⟩ := canTake_spec h
  simp [takeL, h]; omega
theorem takeL_get {s : CS} {n : Int} (h : canTake s n = true) (j : Nat) (hj : j < n.toNat) : (takeL s n).getD j 0 = s.l.getD (s.at_ + j) 0 := by
  simp [takeL, h, hj]

/-- Where not so many stand there, or it has failed: none. -/
theorem take_no (b : Nat) (s : CS) (m : Int) (w : World) (h : CurB w b s) (hno : canTake s m = false) :
    Calls Tryz.prog 68 #[.pointer (some ⟨b, 0, none⟩), .int .i64 m] w fun e w' => e = .returned (.slice none 0 0) ∧ CurB w' b (failS s) ∧ Chg [b] w w' := by
  have hle := h.at_le
  by_cases h0 : 0 ≤ m
  · by_cases h1 : m ≤ s.l.length - s.at_
    · have hf : s.failed = true := by
        cases hf : s.failed with
        | true => rfl
        | false => rw [canTake_of hf h0 h1] at hno; exact absurd hno (by decide)
      have HF := Lib.hid hf
      have H := Lib.hid h
      clear hf hno h
      go_enter Tryz.func68, Tryz.ntmps68
      go_wp2_with fail
      refine (Left_cur b s w H.out).mono ?_
      rintro e w1 ⟨rfl, hd⟩
      have H1 := Lib.hid (H.out.frame ((Chg.refl [] w).dr hd))
      have HD := Lib.hid hd
      clear hd
      go_wp2_with fail
      refine (well_cur b s true w1 H1.out).mono ?_
      rintro e w' ⟨rfl, hcur, hchg⟩
      rw [HF.out]
      have HR := Lib.hid hcur
      have HG := Lib.hid hchg
      clear hcur hchg
      go_wp2
      go_ret
      exact ⟨rfl, by rw [failS_of HF.out]; exact HR.out, ((Chg.refl [b] w).dr HD.out).same HG.out⟩
    · have hdec : decide (m ≤ (s.l.length : Int) - s.at_) = false := by simpa using h1
      have H := Lib.hid h
      clear hno h h1
      go_enter Tryz.func68, Tryz.ntmps68
      go_wp2_with fail
      refine (Left_cur b s w H.out).mono ?_
      rintro e w1 ⟨rfl, hd⟩
      have H1 := Lib.hid (H.out.frame ((Chg.refl [] w).dr hd))
      have HD := Lib.hid hd
      clear hd
      go_wp2_with fail
      refine (well_cur b s false w1 H1.out).mono ?_
      rintro e w' ⟨rfl, hcur, hchg⟩
      have HR := Lib.hid hcur
      have HG := Lib.hid hchg
      clear hcur hchg
      simp only [Bool.false_and]
      go_wp2
      go_ret
      exact ⟨rfl, by simpa using HR.out, ((Chg.refl [b] w).dr HD.out).same HG.out⟩
  · have H := Lib.hid h
    clear hno h
    go_enter Tryz.func68, Tryz.ntmps68
    go_wp2_with fail
    refine (well_cur b s false w H.out).mono ?_
    rintro e w' ⟨rfl, hcur, hchg⟩
    have HR := Lib.hid hcur
    have HG := Lib.hid hchg
    clear hcur hchg
    simp only [Bool.false_and]
    go_wp2
    go_ret
    exact ⟨rfl, by simpa using HR.out, HG.out⟩

/-- take, whatever the state: a slice of what is taken, in the cursor's own bytes. -/
theorem take_cur (b : Nat) (s : CS) (m : Int) (w : World) (h : CurB w b s) :
    Calls Tryz.prog 68 #[.pointer (some ⟨b, 0, none⟩), .int .i64 m] w fun e w' => ∃ v, e = .returned v ∧ CurB w' b (takeS s m) ∧ Rd w' v (bytesV (takeL s m)) ∧ Chg [b] w w' := by
  cases hcan : canTake s m with
  | false =>
    refine (take_no b s m w h hcan).mono fun e w' ⟨he, hc, hg⟩ => ⟨_, he, by rw [takeS_no hcan]; exact hc, by rw [takeL_no hcan]; exact Rd.nil w', hg⟩
  | true =>
    have h' := h
    obtain ⟨hf, h0, h1⟩ := canTake_spec hcan
    obtain ⟨a, n, cap, hb, rfl, h2, h3, h4, h5, h6⟩ := h
    rw [hf] at hb
    refine (take_some b a _ cap _ m _ w hb (by omega) h4 (by omega) h0 h1 h2 h3 (fun hm => by obtain ⟨d, off, _, ha, _⟩ := h6 (by omega); exact ⟨d, off, ha⟩)).mono fun e w' ⟨he, hd⟩ => ?_
    have hst := h'.store (s' := takeS s m) 1 _ hd (by unfold takeS; rw [if_pos hcan]) (by unfold takeS; rw [if_pos hcan]; show s.at_ + m.toNat ≤ _; omega) (fun x => by
      unfold takeS; rw [if_pos hcan]; simp [hf]; omega)
    refine ⟨_, he, hst.1, ?_, hst.2⟩
    have hlen := takeL_length h'.at_le hcan
    have hsum : s.at_ + m.toNat ≤ s.l.length := by omega
    refine ⟨_, _, _, rfl, by simp [hlen, bytesV_length], Nat.le_refl _, Nat.le_trans (by omega : m.toNat ≤ s.l.length) (Nat.le_trans h2 h3), fun hne => ?_⟩
    have hm0 : m ≠ 0 := by
      rintro rfl
      apply hne
      apply List.eq_nil_of_length_eq_zero
      rw [bytesV_length, hlen]; rfl
    obtain ⟨d, off, c, rfl, hdb, hd', hc'⟩ := h6 (by omega)
    refine ⟨d, off + s.at_, by rw [if_neg hm0]; simp, fun j hj => ?_⟩
    rw [bytesV_length, hlen] at hj
    have e1 := (hc' (s.at_ + j) (Nat.lt_of_lt_of_le (Nat.add_lt_add_left hj _) hsum))
    have e2 := hst.2.cell e1 (by simp; omega)
    rw [Nat.add_assoc, e2, bytesV_get _ _ (by rw [hlen]; exact hj), takeL_get hcan j hj]

theorem Number_cur (b : Nat) (s : CS) (m : Int) (w : World) (h : CurB w b s) :
    Calls Tryz.prog 44 #[.pointer (some ⟨b, 0, none⟩), .int .i64 m] w fun e w' => e = .returned (.int .u64 (numberV s m)) ∧ CurB w' b (numberS s m) ∧ Chg [b] w w' := by
  cases hok : okSize m with
  | false =>
    have h1 : ¬ m = 1 ∧ ¬ m = 2 ∧ ¬ m = 4 ∧ ¬ m = 8 := by simpa [okSize] using hok
    obtain ⟨h1, h2, h3, h4⟩ := h1
    have e1 : (m == 1) = false := by simpa using h1
    have e2 : (m == 2) = false := by simpa using h2
    have e4 : (m == 4) = false := by simpa using h3
    have e8 : (m == 8) = false := by simpa using h4
    have H := Lib.hid h
    have HO := Lib.hid hok
    clear h h1 h2 h3 h4 hok
    go_enter Tryz.func44, Tryz.ntmps44
    go_wp2_with fail
    refine (well_cur b s false w H.out).mono ?_
    rintro e w' ⟨rfl, hcur, hchg⟩
    have HR := Lib.hid hcur
    have HG := Lib.hid hchg
    clear hcur hchg
    simp only [Bool.false_and]
    go_wp2
    go_ret
    exact ⟨by unfold numberV; rw [HO.out]; rfl, by unfold numberS; rw [HO.out]; simpa using HR.out, HG.out⟩
  | true =>
    have hm : m = 1 ∨ m = 2 ∨ m = 4 ∨ m = 8 := by simpa [okSize] using hok
    cases hcan : canTake s m with
    | false =>
      have ev : numberV s m = 0 := by unfold numberV; rw [takeL_no hcan]; unfold numOf; split <;> (try split) <;> rfl
      have es : numberS s m = failS s := by unfold numberS; rw [hok, if_pos rfl, takeS_no hcan]
      rw [ev, es]
      clear ev es hok
      have H := Lib.hid h
      have HC := Lib.hid hcan
      clear h hcan
      rcases hm with rfl | rfl | rfl | rfl
      all_goals
        go_enter Tryz.func44, Tryz.ntmps44
        go_wp2_with fail
        refine (well_cur b s true w H.out).mono ?_
        rintro e w1 ⟨rfl, hcur, hchg⟩
        have HR := Lib.hid hcur
        have HG := Lib.hid hchg
        clear hcur hchg
        cases hf : s.failed with
        | true =>
          have HF := Lib.hid hf
          clear hf
          go_wp2
          go_ret
          exact ⟨rfl, by rw [failS_of HF.out]; exact HR.out, HG.out⟩
        | false =>
          have HF := Lib.hid hf
          clear hf
          go_wp2_with fail
          refine (take_no b s _ w1 HR.out HC.out).mono ?_
          rintro e w2 ⟨rfl, hcur, hchg⟩
          have HR2 := Lib.hid hcur
          have HG2 := Lib.hid hchg
          clear hcur hchg
          go_wp2
          refine wp_loop_rounds 1 ?_
          rw [rounds_succ]
          go_wp2
          go_ret
          exact ⟨rfl, HR2.out, HG.out.same HG2.out⟩
    | true =>
      have h' := h
      obtain ⟨hf, h0, h1⟩ := canTake_spec hcan
      obtain ⟨a, n, cap, hb, rfl, h2, h3, h4, h5, h6⟩ := h
      rw [hf] at hb
      obtain ⟨d, off, c, rfl, hdb, hd', hc'⟩ := h6 (by omega)
      obtain ⟨M, rfl⟩ : ∃ M : Nat, m = M := ⟨m.toNat, by omega⟩
      have hlen := takeL_length h'.at_le hcan
      refine (number_some b d off _ cap s.at_ M s.big (takeL s M) w hb h4 h2 h3 (by omega) (by omega) (by omega) (by simpa using hlen) (fun j hj => ?_)).mono fun e w' ⟨he, hd⟩ => ?_
      · rw [takeL_get hcan j (by simpa using hj), Nat.add_assoc]
        exact hc' (s.at_ + j) (by omega)
      · have e1 : numberS s M = takeS s M := by unfold numberS; rw [hok, if_pos rfl]
        have e2 : numberV s M = numOf s.big (takeL s M) := by unfold numberV; rw [hok, if_pos rfl]
        rw [e1, e2]
        exact ⟨he, h'.store (s' := takeS s M) 1 _ hd (by unfold takeS; rw [if_pos hcan]) (by unfold takeS; rw [if_pos hcan]; show s.at_ + (M : Int).toNat ≤ _; omega) (fun x => by
          unfold takeS; rw [if_pos hcan]; simp [hf])⟩
end Go.Proofs.YtgjlgamlmmjdpaaGreatDoor
/- Plain: where a text ends; bytes as two kinds of rows. -/
namespace Go.Proofs.YtgjlgamlmmjdpaaGreatDoor
open Go.RowKit
set_option maxRecDepth 100000

/-- A row of bytes reads as their values. -/
theorem Rd_of_byte {w : World} {v : Value} {l : List UInt8} (h : byteL.Rd w v l) : Rd w v (bytesV l) := by
  obtain ⟨a, n, cap, rfl, hn, hc, hm, hx⟩ := h
  refine ⟨a, n, cap, rfl, by rw [bytesV_length]; exact hn, hc, hm, fun hne => ?_⟩
  obtain ⟨b, off, e, _, hcell⟩ := hx (by rintro rfl; exact hne rfl)
  refine ⟨b, off, e, fun j hj => ?_⟩
  rw [bytesV_length] at hj
  have := hcell j hj 0 (by decide)
  rw [show byteL.n = 1 from rfl, Nat.mul_one, Nat.add_zero] at this
  rw [this, bytesV_get l j hj]
  rfl
theorem Rd_to_byte {w : World} {v : Value} {l : List UInt8} (h : Rd w v (bytesV l)) : byteL.Rd w v l := by
  obtain ⟨a, n, cap, rfl, hn, hc, hm, hx⟩ := h
  rw [bytesV_length] at hn hx
  refine ⟨a, n, cap, rfl, hn, hc, hm, fun hne => ?_⟩
  obtain ⟨b, off, e, hcell⟩ := hx (by
    intro e
    have := congrArg List.length e
    rw [bytesV_length] at this
    exact hne (List.eq_nil_of_length_eq_zero this))
  have hp : 0 < l.length := List.length_pos_iff.2 hne
  refine ⟨b, off, e, ?_, fun j hj c hc => ?_⟩
  · have h0 := hcell 0 hp
    rw [bytesV_get l 0 hp] at h0
    exact World.block_lt_of_cell? w _ h0
  · have hc0 : c = 0 := by have : byteL.n = 1 := rfl; omega
    subst hc0
    rw [show byteL.n = 1 from rfl, Nat.mul_one, Nat.add_zero, hcell j hj, bytesV_get l j hj]
    rfl
/-- Where the next 0 stands. -/
def zeroAt (s : CS) : Int := Lib.indexByte (s.l.drop s.at_) 0
def textOk (s : CS) (most : Int) : Bool := !s.failed && decide (0 ≤ zeroAt s) && decide (zeroAt s ≤ most)
def textS (s : CS) (most : Int) : CS := if textOk s most then ⟨s.l, s.at_ + (zeroAt s).toNat + 1, s.big, false⟩ else failS s
def textL (s : CS) (most : Int) : List UInt8 := if textOk s most then (s.l.drop s.at_).take (zeroAt s).toNat else []
theorem indexByte_lt (l : List UInt8) (c : UInt8) : Lib.indexByte l c < l.length := by
  induction l with
  | nil => simp [Lib.indexByte]
  | cons b l ih =>
    unfold Lib.indexByte
    split
    · simp only [List.length_cons]; omega
    · split
      · simp; omega
      · simp only [List.length_cons]; omega
theorem Rd_takeG {w : World} {a : Option Addr} {n cap k : Nat} {l : List UInt8} (h : Rd w (.slice a n cap) (bytesV l)) (hk : k ≤ l.length) : Rd w (.slice a k cap) (bytesV (l.take k)) := by
  obtain ⟨a', n', cap', he, hn, hnc, hcm, hx⟩ := h
  cases he
  rw [bytesV_length] at hn hx
  refine ⟨_, _, _, rfl, by simp [bytesV]; omega, by omega, hcm, fun hne => ?_⟩
  have hlen : (bytesV (l.take k)).length = k := by simp [bytesV]; omega
  have hk0 : 0 < k := by
    rcases Nat.eq_zero_or_pos k with h0 | h0
    · subst h0; simp [bytesV] at hne
    · exact h0
  obtain ⟨b, off, h, hcell⟩ := hx (by intro e; have : (bytesV l).length = 0 := by rw [e]; rfl
                                      rw [bytesV_length] at this; omega)
  subst h
  refine ⟨_, _, rfl, fun j hj => ?_⟩
  rw [hlen] at hj
  rw [hcell j (by omega), bytesV_get l j (by omega), bytesV_get _ j (by simp; omega)]
  simp [hj]
theorem takeL_list {s : CS} {m : Int} (h : canTake s m = true) : takeL s m = (s.l.drop s.at_).take m.toNat := by unfold takeL; rw [h, if_pos rfl]
end Go.Proofs.YtgjlgamlmmjdpaaGreatDoor
/- The cursor's Wrong and Err; New. -/
namespace Go.Proofs.YtgjlgamlmmjdpaaGreatDoor
open Go.RowKit

theorem Wrong_bad (b : Nat) (al : Value) (at_ : Int) (bg : Value) (w : World) (h : w.heap[b]? = some (.cells #[al, .int .i64 at_, bg, .bool true] 137 (0, 0))) :
    Calls Tryz.prog 89 #[.pointer (some ⟨b, 0, none⟩)] w fun e w' =>
      e = .returned (.iface 186 (.pointer (some ⟨w.heap.size, 0, none⟩))) ∧ w.alloc (.cells #[.int .i64 at_, .int .i64 3] 188) = w' := by
  have h1 := cell_of_heap h 1
  have h3 := cell_of_heap h 3
  clear h
  simp at h1 h3
  go_enter Tryz.func89, Tryz.ntmps89
  go_wp2
  go_ret
  exact ⟨rfl, rfl⟩
theorem Wrong_nil (w : World) :
    Calls Tryz.prog 89 #[.pointer none] w fun e w' =>
      e = .returned (.iface 186 (.pointer (some ⟨w.heap.size, 0, none⟩))) ∧ w.alloc (.cells #[.int .i64 0, .int .i64 1] 188) = w' := by
  go_enter Tryz.func89, Tryz.ntmps89
  go_wp2
  go_ret
  exact ⟨rfl, rfl⟩
theorem Wrong_ok (b : Nat) (al at_ bg : Value) (w : World) (h : w.heap[b]? = some (.cells #[al, at_, bg, .bool false] 137 (0, 0))) :
    Calls Tryz.prog 89 #[.pointer (some ⟨b, 0, none⟩)] w fun e w' => e = .returned .nilIface ∧ w = w' := by
  have h3 := cell_of_heap h 3
  clear h
  simp at h3
  go_enter Tryz.func89, Tryz.ntmps89
  go_wp2
  go_ret
  exact ⟨rfl, rfl⟩

theorem Code_nil (w : World) : Calls Tryz.prog 25 #[.nilIface] w fun e w' => e = .returned (.int .i64 0) ∧ Chg [] w w' := by
  go_enter Tryz.func25, Tryz.ntmps25
  go_wp2
  go_ret
  exact ⟨rfl, (Chg.refl _ _).alloc _⟩
theorem Code_wrong (b : Nat) (at_ : Value) (n : Int) (w : World) (hg : Env w) (hb : w.heap[b]? = some (.cells #[at_, .int .i64 n] 188 (0, 0))) :
    Calls Tryz.prog 25 #[.iface 186 (.pointer (some ⟨b, 0, none⟩))] w fun e w' => e = .returned (.int .i64 n) ∧ Chg [] w w' := by
  have HG := Lib.hid (hg.frame ((Chg.refl [] w).alloc (.cells #[.int .i64 0] 33)) (by simp))
  have HB := Lib.hid (((Chg.refl [] w).alloc (.cells #[.int .i64 0] 33)).heap hb (by simp))
  have HT := Lib.hid (heap_alloc_eq w (.cells #[.int .i64 0] 33))
  clear hg hb
  go_enter Tryz.func25, Tryz.ntmps25
  go_wp2_with fail
  refine (as_wrong b w.heap.size at_ n (.int .i64 0) _ HG.out HT.out HB.out).mono ?_
  rintro e w1 ⟨rfl, ht, hc⟩
  have ht0 := cell_of_heap ht 0
  simp only [List.getElem?_toArray, List.getElem?_cons_zero] at ht0
  have HC := Lib.hid hc
  clear hc ht
  go_wp2
  go_ret
  exact ⟨rfl, ((Chg.refl [] w).alloc _).new HC.out (Nat.le_refl _)⟩

theorem Err_ok (b : Nat) (s : CS) (w : World) (h : CurB w b s) (hf : s.failed = false) :
    Calls Tryz.prog 62 #[.pointer (some ⟨b, 0, none⟩)] w fun e w' => e = .returned (.int .i64 0) ∧ Chg [] w w' := by
  obtain ⟨a, n, cap, hb, _⟩ := h
  rw [hf] at hb
  have HB := Lib.hid hb
  clear hb hf
  go_enter Tryz.func62, Tryz.ntmps62
  go_wp2_with fail
  refine (Wrong_ok b _ _ _ w HB.out).mono ?_
  rintro e w1 ⟨rfl, rfl⟩
  go_wp2_with fail
  refine (Code_nil w).mono ?_
  rintro e w1 ⟨rfl, hc⟩
  have HC := Lib.hid hc
  clear hc
  go_wp2
  go_ret
  exact ⟨rfl, HC.out⟩
theorem Err_bad (b : Nat) (s : CS) (w : World) (hg : Env w) (h : CurB w b s) (hf : s.failed = true) :
    Calls Tryz.prog 62 #[.pointer (some ⟨b, 0, none⟩)] w fun e w' => e = .returned (.int .i64 3) ∧ Chg [] w w' := by
  obtain ⟨a, n, cap, hb, _⟩ := h
  rw [hf] at hb
  have HB := Lib.hid hb
  have HG := Lib.hid hg
  clear hb hf hg
  go_enter Tryz.func62, Tryz.ntmps62
  go_wp2_with fail
  refine (Wrong_bad b _ _ _ w HB.out).mono ?_
  rintro e w1 ⟨rfl, rfl⟩
  go_wp2_with fail
  refine (Code_wrong _ _ 3 _ (HG.out.frame ((Chg.refl [] w).alloc _) (by simp)) (heap_alloc_eq w _)).mono ?_
  rintro e w1 ⟨rfl, hc⟩
  have HC := Lib.hid hc
  clear hc
  go_wp2
  go_ret
  exact ⟨rfl, ((Chg.refl [] w).alloc _).then HC.out⟩
/-- The errno of a cursor. -/
theorem Err_cur (b : Nat) (s : CS) (w : World) (hg : Env w) (h : CurB w b s) :
    Calls Tryz.prog 62 #[.pointer (some ⟨b, 0, none⟩)] w fun e w' => e = .returned (.int .i64 (if s.failed then 3 else 0)) ∧ Chg [] w w' := by
  cases hf : s.failed with
  | true => exact Err_bad b s w hg h hf
  | false => exact Err_ok b s w h hf
theorem Err_nil (w : World) (hg : Env w) :
    Calls Tryz.prog 62 #[.pointer none] w fun e w' => e = .returned (.int .i64 1) ∧ Chg [] w w' := by
  have HG := Lib.hid hg
  clear hg
  go_enter Tryz.func62, Tryz.ntmps62
  go_wp2_with fail
  refine (Wrong_nil w).mono ?_
  rintro e w1 ⟨rfl, rfl⟩
  go_wp2_with fail
  refine (Code_wrong _ _ 1 _ (HG.out.frame ((Chg.refl [] w).alloc _) (by simp)) (heap_alloc_eq w _)).mono ?_
  rintro e w1 ⟨rfl, hc⟩
  have HC := Lib.hid hc
  clear hc
  go_wp2
  go_ret
  exact ⟨rfl, ((Chg.refl [] w).alloc _).then HC.out⟩

theorem Tryz.infoU8 : (Tryz.prog.info? 5).map (fun i => (i.zero, i.size, i.bytes)) = some (some (.int .u8 0), 1, 1) := by kernel_rfl

theorem Clone_nil (n cap : Nat) (w : World) : Calls Tryz.prog 71 #[.slice none n cap] w fun e w' => e = .returned (.slice none 0 0) ∧ w = w' := by
  have hsn := @Lib.run_eql_slice_nil Tryz.prog
  go_enter Tryz.func71, Tryz.ntmps71
  go_wp2
  go_ret
  exact ⟨rfl, rfl⟩
end Go.Proofs.YtgjlgamlmmjdpaaGreatDoor
/- bytes.Clone and cursor.New. -/
namespace Go.Proofs.YtgjlgamlmmjdpaaGreatDoor
open Go.RowKit

theorem Addr_add (b off j : Nat) : (⟨b, off, none⟩ : Addr).add j = ⟨b, off + j, none⟩ := by
  unfold Addr.add; split <;> simp_all

theorem Clone_some (ad : Addr) (n cap : Nat) (xs : List Value) (w : World) (hl : n = xs.length) (hn : n ≤ 140737488355328) (h1 : ∀ u ∈ xs, u.oneCell' = true)
    (hc : ∀ j u, xs[j]? = some u → w.cell? (ad.add j) = some u) :
    Calls Tryz.prog 71 #[.slice (some ad) n cap] w fun e w' => ∃ v, e = .returned v ∧ w'.ownsRow w.heap.size 5 1 v n xs ∧ Chg [] w w' := by
  have hsn := @Lib.run_eql_slice_nil Tryz.prog
  obtain ⟨i0, hi, hz0, hz1, hz2⟩ := info_parts Tryz.infoU8
  have hcx : ∀ j u, xs[j]? = some u → (w.alloc (.cells #[] 5)).cell? (ad.add j) = some u := by
    intro j u hu
    have := hc j u hu
    rw [World.cell?_alloc_lt _ _ _ (World.block_lt_of_cell? _ _ this)]
    exact this
  have HC := Lib.hid hcx
  have HL := Lib.hid hl
  have H1 := Lib.hid h1
  clear hcx hl hc h1
  go_enter Tryz.func71, Tryz.ntmps71
  go_wp2_with (at_builtin; refine wpList_append_own _ rfl _ _ 22 rfl w.heap.size 5 i0 (.int .u8 0) 1 1 Tryz.underlying22 hi hz0 hz1 hz2 rfl (by decide) _ 0 [] rfl (World.ownsRow_made w #[] 0 (Nat.le_refl _) (by unfold maxLen; omega) rfl) ad n cap xs rfl ?c1 ?c2 ?c3 ?c4 ?c5 ?c6 ?_)
  case c1 => rw [HL.out, Nat.mul_one]
  case c2 => exact HC.out
  case c3 => exact H1.out
  case c4 => unfold maxLen; omega
  case c5 => omega
  case c6 => simp
  intro v' w1 hown hgrow _
  have HO := Lib.hid hown
  have HG := Lib.hid hgrow
  clear hown hgrow
  go_wp2
  go_ret
  refine ⟨_, rfl, ?_, ?_⟩
  · have := HO.out
    simpa using this
  · exact ((Chg.refl [] w).alloc _).grown HG.out (by intro k hk; simp [Value.ownBlock] at hk; exact .inr (by omega))

/-- cursor.New: a cursor of a copy, at its beginning. -/
theorem New_cur (v : Value) (l : List UInt8) (big : Bool) (w : World) (hv : Rd w v (bytesV l)) (hl : l.length ≤ 140737488355328) :
    Calls Tryz.prog 46 #[v, .bool big] w fun e w' => ∃ b, e = .returned (.pointer (some ⟨b, 0, none⟩)) ∧ w.heap.size ≤ b ∧ CurB w' b ⟨l, 0, big, false⟩ ∧ Chg [] w w' := by
  obtain ⟨a, n, cap, rfl, hn, hnc, hcm, hx⟩ := hv
  rw [bytesV_length] at hn
  subst hn
  cases a with
  | none =>
    have hnil : l = [] := by
      cases l with
      | nil => rfl
      | cons x r => obtain ⟨b, off, h, _⟩ := hx (by simp [bytesV]); cases h
    subst hnil
    clear hx hnc hcm hl
    go_enter Tryz.func46, Tryz.ntmps46
    go_wp2_with fail
    refine (Clone_nil _ _ w).mono ?_
    rintro e w1 ⟨rfl, rfl⟩
    go_wp2
    go_ret
    refine ⟨_, rfl, Nat.le_refl _, ⟨none, 0, 0, heap_alloc_eq w _, rfl, Nat.le_refl _, Nat.zero_le _, by omega, Nat.le_refl _, fun h => absurd h (by omega)⟩, (Chg.refl _ _).alloc _⟩
  | some ad =>
    have hc : ∀ j u, (bytesV l)[j]? = some u → w.cell? (ad.add j) = some u := by
      intro j u hu
      obtain ⟨hj, _⟩ := List.getElem?_eq_some_iff.1 hu
      obtain ⟨b, off, h, hcell⟩ := hx (by intro e; rw [e] at hj; simp at hj)
      cases h
      rw [Addr_add, hcell j hj, hu]
    have H1 : Hid (∀ u ∈ bytesV l, u.oneCell' = true) := by
      intro u hu
      obtain ⟨x, _, rfl⟩ := List.mem_map.1 hu
      rfl
    have HC := Lib.hid hc
    have HL := Lib.hid hl
    clear hx hc hnc hcm hl
    go_enter Tryz.func46, Tryz.ntmps46
    go_wp2_with fail
    refine (Clone_some ad _ cap (bytesV l) w (bytesV_length l).symm HL.out H1.out HC.out).mono ?_
    rintro e w1 ⟨v, rfl, hown, hchg⟩
    have HO := Lib.hid hown
    have HG := Lib.hid hchg
    have hsz := hchg.size
    obtain ⟨a', n', cap', rfl⟩ : ∃ a n c, v = Value.slice a n c := by
      rcases hown.2 with ⟨rfl, _⟩ | ⟨g, cap', cur, rfl, _⟩
      · exact ⟨_, _, _, rfl⟩
      · exact ⟨_, _, _, rfl⟩
    clear hown hchg
    go_wp2
    go_ret
    refine ⟨_, rfl, hsz, ?_, HG.out.alloc _⟩
    obtain ⟨hxl, hv⟩ := HO.out
    rw [Nat.mul_one] at hxl
    rcases hv with ⟨hv, h0⟩ | ⟨g, cap', cur, hv, hbg, hg, hnc, hcm, hcs, htake⟩
    · cases hv
      refine ⟨none, 0, 0, heap_alloc_eq w1 _, h0.symm, Nat.le_refl _, Nat.zero_le _, by omega, Nat.le_refl _, fun h => absurd h (by omega)⟩
    · cases hv
      have hgl := lt_of_heap hg
      refine ⟨_, _, _, heap_alloc_eq w1 _, rfl, hnc, hcm, HL.out, Nat.zero_le _, fun _ => ⟨g, 0, cur, rfl, by omega, by rw [heap_alloc_lt hgl]; exact hg, fun j hj => ?_⟩⟩
      rw [World.cell?_alloc_lt _ _ _ hgl, Nat.zero_add, cell_of_heap hg]
      have e1 : (cur.toList.take (l.length * 1))[j]? = (bytesV l)[j]? := by rw [htake]
      rw [List.getElem?_take, if_pos (by omega), bytesV_get l j hj] at e1
      simpa using e1
end Go.Proofs.YtgjlgamlmmjdpaaGreatDoor
