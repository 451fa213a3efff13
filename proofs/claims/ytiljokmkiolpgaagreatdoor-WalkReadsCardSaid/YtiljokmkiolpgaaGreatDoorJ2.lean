/- Lemmas, laid together: part 2 of 42. Conditions: none but each lemma's own. -/
import Derived.Test.YtiljokmkiolpgaaGreatDoorJ1
import Derived.Maps.AppendAt
import Derived.Laws.CopyRow
namespace Go.Proofs.YtiljokmkiolpgaaGreatDoor
open Go.RowKit
set_option maxRecDepth 100000
structure CS where
 l : List UInt8
 at_ : Nat
 big : Bool
 failed : Bool
def CurB (w : World) (b : Nat) (s : CS) : Prop :=
 ∃ a n cap, w.heap[b]? = some (.cells #[.slice a n cap, .int .i64 s.at_, .bool s.big, .bool s.failed] 159 (0, 0)) ∧ n = s.l.length ∧ n ≤ cap ∧ cap ≤ maxLen ∧ n ≤ 140737488355328 ∧ s.at_ ≤ n ∧
  (0 < n → ∃ d off c, a = some ⟨d, off, none⟩ ∧ d < b ∧ w.heap[d]? = some (.cells c 5 (0, 0)) ∧ ∀ j, j < n → w.cell? ⟨d, off + j, none⟩ = some (.int .u8 (s.l.getD j 0).toNat))
theorem CurB.lt {w : World} {b : Nat} {s : CS} (h : CurB w b s) : b < w.heap.size := by
 obtain ⟨a, n, cap, hb, _⟩ := h; exact lt_of_heap hb
theorem CurB.at_le {w : World} {b : Nat} {s : CS} (h : CurB w b s) : s.at_ ≤ s.l.length := by
 obtain ⟨a, n, cap, hb, rfl, _, _, _, h, _⟩ := h; exact h
theorem CurB.frame {w w' : World} {b : Nat} {s : CS} (h : CurB w b s) (k : Chg [] w w') : CurB w' b s := by
 obtain ⟨a, n, cap, hb, h1, h2, h3, h4, h5, h6⟩ := h
 refine ⟨a, n, cap, k.heap hb (by simp), h1, h2, h3, h4, h5, fun hn => ?_⟩
 obtain ⟨d, off, c, ha, hdb, hd, hc⟩ := h6 hn
 exact ⟨d, off, c, ha, hdb, k.heap hd (by simp), fun j hj => k.cell (hc j hj) (by simp)⟩
theorem CurB.frame2 {w w' : World} {b b2 : Nat} {s s2 : CS} (h : CurB w b s) (h2 : CurB w b2 s2) (hne : b ≠ b2) (k : Chg [b2] w w') : CurB w' b s := by
 obtain ⟨a, n, cap, hb, h1, h2', h3, h4, h5, h6⟩ := h
 obtain ⟨_, _, _, hb2, _⟩ := h2
 refine ⟨a, n, cap, k.heap hb (by simpa using hne), h1, h2', h3, h4, h5, fun hn => ?_⟩
 obtain ⟨d, off, c, ha, hdb, hd, hc⟩ := h6 hn
 have hd2 : d ∉ [b2] := by
  intro hm
  rw [List.mem_singleton] at hm
  subst hm
  rw [hd] at hb2
  simp at hb2
 exact ⟨d, off, c, ha, hdb, k.heap hd hd2, fun j hj => k.cell (hc j hj) hd2⟩
theorem CurB.store {w w' : World} {b : Nat} {s s' : CS} (h : CurB w b s) (j : Nat) (v : Value) (hd : Dr (w.setCell ⟨b, j, none⟩ v) w') (hl : s'.l = s.l) (hat : s'.at_ ≤ s.l.length)
  (hs : ∀ x, (#[x, .int .i64 s.at_, .bool s.big, .bool s.failed] : Array Value).setIfInBounds j v = #[x, .int .i64 s'.at_, .bool s'.big, .bool s'.failed]) : CurB w' b s' ∧ Chg [b] w w' := by
 obtain ⟨a, n, cap, hb, h1, h2, h3, h4, h5, h6⟩ := h
 have hc : Chg [b] w w' := ((Chg.refl [b] w).setCell ⟨b, j, none⟩ v (.inl (by simp))).dr hd
 refine ⟨⟨a, n, cap, ?_, by rw [hl]; exact h1, h2, h3, h4, by rw [h1]; exact hat, fun hn => ?_⟩, hc⟩
 ·rw [hd.heap, heap_setCell hb, hs]
 ·obtain ⟨d, off, c, ha, hdb, hd', hc'⟩ := h6 hn
  exact ⟨d, off, c, ha, hdb, hc.heap hd' (by simp; omega), fun j hj => by rw [hl]; exact hc.cell (hc' j hj) (by simp; omega)⟩
def failS (s : CS) : CS := { s with failed := true }
def seekS (s : CS) (at_ : Int) : CS := if 0 ≤ at_ ∧ at_ ≤ s.l.length then (if s.failed then s else { s with at_ := at_.toNat }) else failS s
def okSize (n : Int) : Bool := n = 1 ∨ n = 2 ∨ n = 4 ∨ n = 8
def canTake (s : CS) (n : Int) : Bool := !s.failed && decide (0 ≤ n ∧ n ≤ s.l.length - s.at_)
def takeS (s : CS) (n : Int) : CS := if canTake s n then { s with at_ := s.at_ + n.toNat } else failS s
def takeL (s : CS) (n : Int) : List UInt8 := if canTake s n then (s.l.drop s.at_).take n.toNat else []
def numberS (s : CS) (n : Int) : CS := if okSize n then takeS s n else failS s
def numberV (s : CS) (n : Int) : Nat := if okSize n then numOf s.big (takeL s n) else 0
theorem Left_cur (b : Nat) (s : CS) (w : World) (h : CurB w b s) :
  Calls Tryz.prog 104 #[.pointer (some ⟨b, 0, none⟩)] w fun e w' => e = .returned (.int .i64 ((s.l.length : Int) - s.at_)) ∧ Dr w w' := by
 obtain ⟨a, n, cap, hb, rfl, h2, h3, h4, h5, h6⟩ := h
 exact Left_any b _ _ _ _ _ _ w hb (by omega) h4 (by omega)
theorem Fail_cur (b : Nat) (s : CS) (w : World) (h : CurB w b s) :
  Calls Tryz.prog 89 #[.pointer (some ⟨b, 0, none⟩)] w fun e w' => e = .returned (.tuple #[]) ∧ CurB w' b (failS s) ∧ Chg [b] w w' := by
 have h' := h
 obtain ⟨a, n, cap, hb, _⟩ := h
 refine (Fail_any b _ _ _ _ w hb).mono fun e w' ⟨he, hw⟩ => ⟨he, ?_⟩
 subst hw
 exact h'.store 3 _ (Dr.refl _) rfl h'.at_le (fun x => rfl)
theorem well_cur (b : Nat) (s : CS) (is : Bool) (w : World) (h : CurB w b s) :
  Calls Tryz.prog 83 #[.pointer (some ⟨b, 0, none⟩), .bool is] w fun e w' => e = .returned (.bool (is && !s.failed)) ∧ CurB w' b (if is then s else failS s) ∧ Chg [b] w w' := by
 have h' := h
 obtain ⟨a, n, cap, hb, _⟩ := h
 refine (well_any b _ _ _ _ is w hb).mono fun e w' ⟨he, hw⟩ => ⟨he, ?_⟩
 subst hw
 cases is
 ·exact h'.store 3 _ (Dr.refl _) rfl h'.at_le (fun x => rfl)
 ·exact ⟨h', Chg.refl _ _⟩
theorem Seek_cur (b : Nat) (s : CS) (at_ : Int) (w : World) (h : CurB w b s) :
  Calls Tryz.prog 90 #[.pointer (some ⟨b, 0, none⟩), .int .i64 at_] w fun e w' => e = .returned (.tuple #[]) ∧ CurB w' b (seekS s at_) ∧ Chg [b] w w' := by
 have h' := h
 obtain ⟨a, n, cap, hb, h1, h2, h3, h4, h5, h6⟩ := h
 have hc0 := cell_of_heap hb 0
 have hc1 := cell_of_heap hb 1
 have f1 := frozen_of_heap hb 1
 simp at hc0 hc1
 have H1 := hY h1
 have hat := hY h'.at_le
 clear h1 h6
 unfold maxLen at h3
 have HP : Hid ((0 ≤ at_ ∧ at_ ≤ n) = (0 ≤ at_ ∧ at_ ≤ (s.l.length : Int))) := by rw [← H1.out]; exact rfl
 have H' := hY h'
 clear h'
 by_cases hi : 0 ≤ at_ ∧ at_ ≤ n
 ·obtain ⟨hi1, hi2⟩ := hi
  have HC : Hid (0 ≤ at_ ∧ at_ ≤ (s.l.length : Int)) := by show _; rw [← H1.out]; exact ⟨hi1, hi2⟩
  cases hf : s.failed with
  | true =>
   rw [hf] at hb
   have HF := hY hf
   clear hf
   go_enter Tryz.func90, Tryz.ntmps90
   go_wp2_with fail
   refine (well_any b _ _ _ true true w hb).mono ?_
   rintro e w' ⟨rfl, rfl⟩
   go_wp2
   go_end0
   exact ⟨rfl, by unfold seekS; rw [if_pos HC.out, if_pos HF.out]; exact H'.out, Chg.refl _ _⟩
  | false =>
   rw [hf] at hb
   have HF := hY hf
   clear hf
   go_enter Tryz.func90, Tryz.ntmps90
   go_wp2_with fail
   refine (well_any b _ _ _ false true w hb).mono ?_
   rintro e w' ⟨rfl, rfl⟩
   go_wp2
   go_end0
   refine ⟨rfl, ?_⟩
   unfold seekS; rw [if_pos HC.out, if_neg (by rw [HF.out]; decide)]
   refine H'.out.store 1 _ (Dr.refl _) rfl (by have := HC.out; show at_.toNat ≤ _; omega) (fun x => ?_)
   simp; omega
 ·have HC : Hid (¬ (0 ≤ at_ ∧ at_ ≤ (s.l.length : Int))) := by show ¬ _; rw [← H1.out]; exact hi
  have hn : at_ < 0 ∨ (0 ≤ at_ ∧ n < at_) := by omega
  clear hi
  have hdec : 0 ≤ at_ → decide (at_ ≤ (n : Int)) = false := fun h => by simp; omega
  rcases hn with hn | ⟨hn1, hn2⟩
  rotate_left
  have hdec := hdec hn1
  rotate_left
  all_goals
   go_enter Tryz.func90, Tryz.ntmps90
   go_wp2_with fail
   refine (well_cur b s false w H'.out).mono ?_
   rintro e w' ⟨rfl, hcur, hchg⟩
   simp only [Bool.false_and]
   have HR := hY hcur
   have HG := hY hchg
   clear hcur hchg
   go_wp2
   go_end0
   refine ⟨rfl, ?_, HG.out⟩
   have := HR.out
   unfold seekS; rw [if_neg HC.out]; simpa using this
theorem failS_of {s : CS} (h : s.failed = true) : failS s = s := by cases s; simp_all [failS]
theorem canTake_of {s : CS} {n : Int} (hf : s.failed = false) (h0 : 0 ≤ n) (h1 : n ≤ s.l.length - s.at_) : canTake s n = true := by simp [canTake, hf, h0, h1]
theorem takeS_no {s : CS} {n : Int} (h : canTake s n = false) : takeS s n = failS s := by simp [takeS, h]
theorem takeL_no {s : CS} {n : Int} (h : canTake s n = false) : takeL s n = [] := by simp [takeL, h]
theorem canTake_spec {s : CS} {n : Int} (h : canTake s n = true) : s.failed = false ∧ 0 ≤ n ∧ n ≤ s.l.length - s.at_ := by simpa [canTake] using h
theorem takeL_length {s : CS} {n : Int} (hc : s.at_ ≤ s.l.length) (h : canTake s n = true) : (takeL s n).length = n.toNat := by
 obtain ⟨_, h0, h1⟩ := canTake_spec h
 simp [takeL, h]; omega
theorem takeL_get {s : CS} {n : Int} (h : canTake s n = true) (j : Nat) (hj : j < n.toNat) : (takeL s n).getD j 0 = s.l.getD (s.at_ + j) 0 := by
 simp [takeL, h, hj]
theorem take_no (b : Nat) (s : CS) (m : Int) (w : World) (h : CurB w b s) (hno : canTake s m = false) :
  Calls Tryz.prog 84 #[.pointer (some ⟨b, 0, none⟩), .int .i64 m] w fun e w' => e = .returned (.slice none 0 0) ∧ CurB w' b (failS s) ∧ Chg [b] w w' := by
 have hle := h.at_le
 by_cases h0 : 0 ≤ m
 ·by_cases h1 : m ≤ s.l.length - s.at_
  ·have hf : s.failed = true := by
    cases hf : s.failed with
    | true => rfl
    | false => rw [canTake_of hf h0 h1] at hno; exact absurd hno (by decide)
   have HF := hY hf
   have H := hY h
   clear hf hno h
   go_enter Tryz.func84, Tryz.ntmps84
   go_wp2_with fail
   refine (Left_cur b s w H.out).mono ?_
   rintro e w1 ⟨rfl, hd⟩
   have H1 := hY (H.out.frame ((Chg.refl [] w).dr hd))
   have HD := hY hd
   clear hd
   go_wp2_with fail
   refine (well_cur b s true w1 H1.out).mono ?_
   rintro e w' ⟨rfl, hcur, hchg⟩
   rw [HF.out]
   have HR := hY hcur
   have HG := hY hchg
   clear hcur hchg
   go_wp2
   go_ret
   exact ⟨rfl, by rw [failS_of HF.out]; exact HR.out, ((Chg.refl [b] w).dr HD.out).same HG.out⟩
  ·have hdec : decide (m ≤ (s.l.length : Int) - s.at_) = false := by simpa using h1
   have H := hY h
   clear hno h h1
   go_enter Tryz.func84, Tryz.ntmps84
   go_wp2_with fail
   refine (Left_cur b s w H.out).mono ?_
   rintro e w1 ⟨rfl, hd⟩
   have H1 := hY (H.out.frame ((Chg.refl [] w).dr hd))
   have HD := hY hd
   clear hd
   go_wp2_with fail
   refine (well_cur b s false w1 H1.out).mono ?_
   rintro e w' ⟨rfl, hcur, hchg⟩
   have HR := hY hcur
   have HG := hY hchg
   clear hcur hchg
   simp only [Bool.false_and]
   go_wp2
   go_ret
   exact ⟨rfl, by simpa using HR.out, ((Chg.refl [b] w).dr HD.out).same HG.out⟩
 ·have H := hY h
  clear hno h
  go_enter Tryz.func84, Tryz.ntmps84
  go_wp2_with fail
  refine (well_cur b s false w H.out).mono ?_
  rintro e w' ⟨rfl, hcur, hchg⟩
  have HR := hY hcur
  have HG := hY hchg
  clear hcur hchg
  simp only [Bool.false_and]
  go_wp2
  go_ret
  exact ⟨rfl, by simpa using HR.out, HG.out⟩
theorem take_cur (b : Nat) (s : CS) (m : Int) (w : World) (h : CurB w b s) :
  Calls Tryz.prog 84 #[.pointer (some ⟨b, 0, none⟩), .int .i64 m] w fun e w' => ∃ v, e = .returned v ∧ CurB w' b (takeS s m) ∧ Rd w' v (bytesV (takeL s m)) ∧ Chg [b] w w' := by
 cases hcan : canTake s m with
 | false =>
  refine (take_no b s m w h hcan).mono fun e w' ⟨he, hc, hg⟩ => ⟨_, he, by rw [takeS_no hcan]; exact hc, by rw [takeL_no hcan]; exact Rd.nil w', hg⟩
 | true =>
  have h' := h
  obtain ⟨hf, h0, h1⟩ := canTake_spec hcan
  obtain ⟨a, n, cap, hb, rfl, h2, h3, h4, h5, h6⟩ := h
  rw [hf] at hb
  refine (take_some b a _ cap _ m _ w hb (by omega) h4 (by omega) h0 h1 h2 h3 (fun hm => by obtain ⟨d, off, _, ha, _⟩ := h6 (by omega); exact ⟨d, off, ha⟩)).mono fun e w' ⟨he, hd⟩ => ?_
  have hst := h'.store (s' := takeS s m) 1 _ hd (by unfold takeS; rw [if_pos hcan]) (by unfold takeS; rw [if_pos hcan]; show s.at_ + m.toNat ≤ _; omega) (fun x => by
   unfold takeS; rw [if_pos hcan]; simp [hf]; omega)
  refine ⟨_, he, hst.1, ?_, hst.2⟩
  have hlen := takeL_length h'.at_le hcan
  have hsum : s.at_ + m.toNat ≤ s.l.length := by omega
  refine ⟨_, _, _, rfl, by simp [hlen, bytesV_length], Nat.le_refl _, Nat.le_trans (by omega : m.toNat ≤ s.l.length) (Nat.le_trans h2 h3), fun hne => ?_⟩
  have hm0 : m ≠ 0 := by
   rintro rfl
   apply hne
   apply List.eq_nil_of_length_eq_zero
   rw [bytesV_length, hlen]; rfl
  obtain ⟨d, off, c, rfl, hdb, hd', hc'⟩ := h6 (by omega)
  refine ⟨d, off + s.at_, by rw [if_neg hm0]; simp, fun j hj => ?_⟩
  rw [bytesV_length, hlen] at hj
  have e1 := (hc' (s.at_ + j) (Nat.lt_of_lt_of_le (Nat.add_lt_add_left hj _) hsum))
  have e2 := hst.2.cell e1 (by simp; omega)
  rw [Nat.add_assoc, e2, bytesV_get _ _ (by rw [hlen]; exact hj), takeL_get hcan j hj]
theorem Number_cur (b : Nat) (s : CS) (m : Int) (w : World) (h : CurB w b s) :
  Calls Tryz.prog 45 #[.pointer (some ⟨b, 0, none⟩), .int .i64 m] w fun e w' => e = .returned (.int .u64 (numberV s m)) ∧ CurB w' b (numberS s m) ∧ Chg [b] w w' := by
 cases hok : okSize m with
 | false =>
  have h1 : ¬ m = 1 ∧ ¬ m = 2 ∧ ¬ m = 4 ∧ ¬ m = 8 := by simpa [okSize] using hok
  obtain ⟨h1, h2, h3, h4⟩ := h1
  have e1 : (m == 1) = false := by simpa using h1
  have e2 : (m == 2) = false := by simpa using h2
  have e4 : (m == 4) = false := by simpa using h3
  have e8 : (m == 8) = false := by simpa using h4
  have H := hY h
  have HO := hY hok
  clear h h1 h2 h3 h4 hok
  go_enter Tryz.func45, Tryz.ntmps45
  go_wp2_with fail
  refine (well_cur b s false w H.out).mono ?_
  rintro e w' ⟨rfl, hcur, hchg⟩
  have HR := hY hcur
  have HG := hY hchg
  clear hcur hchg
  simp only [Bool.false_and]
  go_wp2
  go_ret
  exact ⟨by unfold numberV; rw [HO.out]; rfl, by unfold numberS; rw [HO.out]; simpa using HR.out, HG.out⟩
 | true =>
  have hm : m = 1 ∨ m = 2 ∨ m = 4 ∨ m = 8 := by simpa [okSize] using hok
  cases hcan : canTake s m with
  | false =>
   have ev : numberV s m = 0 := by unfold numberV; rw [takeL_no hcan]; unfold numOf; split <;> (try split) <;> rfl
   have es : numberS s m = failS s := by unfold numberS; rw [hok, if_pos rfl, takeS_no hcan]
   rw [ev, es]
   clear ev es hok
   have H := hY h
   have HC := hY hcan
   clear h hcan
   rcases hm with rfl | rfl | rfl | rfl
   all_goals
    go_enter Tryz.func45, Tryz.ntmps45
    go_wp2_with fail
    refine (well_cur b s true w H.out).mono ?_
    rintro e w1 ⟨rfl, hcur, hchg⟩
    have HR := hY hcur
    have HG := hY hchg
    clear hcur hchg
    cases hf : s.failed with
    | true =>
     have HF := hY hf
     clear hf
     go_wp2
     go_ret
     exact ⟨rfl, by rw [failS_of HF.out]; exact HR.out, HG.out⟩
    | false =>
     have HF := hY hf
     clear hf
     go_wp2_with fail
     refine (take_no b s _ w1 HR.out HC.out).mono ?_
     rintro e w2 ⟨rfl, hcur, hchg⟩
     have HR2 := hY hcur
     have HG2 := hY hchg
     clear hcur hchg
     go_wp2
     refine wp_loop_rounds 1 ?_
     rw [rounds_succ]
     go_wp2
     go_ret
     exact ⟨rfl, HR2.out, HG.out.same HG2.out⟩
  | true =>
   have h' := h
   obtain ⟨hf, h0, h1⟩ := canTake_spec hcan
   obtain ⟨a, n, cap, hb, rfl, h2, h3, h4, h5, h6⟩ := h
   rw [hf] at hb
   obtain ⟨d, off, c, rfl, hdb, hd', hc'⟩ := h6 (by omega)
   obtain ⟨M, rfl⟩ : ∃ M : Nat, m = M := ⟨m.toNat, by omega⟩
   have hlen := takeL_length h'.at_le hcan
   refine (number_some b d off _ cap s.at_ M s.big (takeL s M) w hb h4 h2 h3 (by omega) (by omega) (by omega) (by simpa using hlen) (fun j hj => ?_)).mono fun e w' ⟨he, hd⟩ => ?_
   ·rw [takeL_get hcan j (by simpa using hj), Nat.add_assoc]
    exact hc' (s.at_ + j) (by omega)
   ·have e1 : numberS s M = takeS s M := by unfold numberS; rw [hok, if_pos rfl]
    have e2 : numberV s M = numOf s.big (takeL s M) := by unfold numberV; rw [hok, if_pos rfl]
    rw [e1, e2]
    exact ⟨he, h'.store (s' := takeS s M) 1 _ hd (by unfold takeS; rw [if_pos hcan]) (by unfold takeS; rw [if_pos hcan]; show s.at_ + (M : Int).toNat ≤ _; omega) (fun x => by
     unfold takeS; rw [if_pos hcan]; simp [hf])⟩
structure SlV where
 a : Option Addr
 n : Nat
 cap : Nat
def SlV.v (s : SlV) : Value := .slice s.a s.n s.cap
structure Lay (α : Type) where
 n : Nat
 f : α → List Value
 d : α
 len : ∀ x, (f x).length = n
 pos : 0 < n
 one : ∀ x, ∀ u ∈ f x, u.oneCell' = true
namespace Lay
variable {α : Type} (L : Lay α)
abbrev val (x : α) : Value := .agg (L.f x).toArray
theorem addr_add (b off j : Nat) : (⟨b, off, none⟩ : Addr).add j = ⟨b, off + j, none⟩ := by unfold Addr.add; split <;> simp_all
theorem own_frame {w w' : World} {base : Nat} {e : TypeId} {size : Nat} {v : Value} {n : Nat} {xs : List Value} (h : w.ownsRow base e size v n xs) {S : List Nat} (k : Chg S w w') (hn : ∀ b, v.ownBlock = some b → b ∉ S) : w'.ownsRow base e size v n xs := by
 refine ⟨h.1, ?_⟩
 rcases h.2 with hn' | ⟨g, cap, cur, rfl, hb, hgg, rest⟩
 ·exact .inl hn'
 ·exact .inr ⟨g, cap, cur, rfl, hb, k.heap hgg (hn g rfl), rest⟩
theorem chg_grown {a b : World} {row : Option Nat} (g : a.grownBy b row) : Chg row.toList a b :=
 ⟨g.os, g.tape, g.output, g.size, fun k hk hn => g.block k hk (fun e => hn (by rw [← e]; simp))⟩
def In (w : World) (b o : Nat) (x : α) : Prop := ∀ c, c < L.n → w.cell? ⟨b, o + c, none⟩ = (L.f x)[c]?
variable {L} in
theorem In.frameS {w w' : World} {b o : Nat} {x : α} (h : L.In w b o x) {S : List Nat} (k : Chg S w w') (hn : b ∉ S) : L.In w' b o x := fun c hc => by
 have h1 := h c hc
 have : c < (L.f x).length := by rw [L.len]; exact hc
 rw [List.getElem?_eq_getElem this] at h1 ⊢
 exact k.cell h1 hn
variable {L} in
theorem In.frame {w w' : World} {b o : Nat} {x : α} (h : L.In w b o x) (k : Chg [] w w') : L.In w' b o x := h.frameS k (by simp)
def Rd (w : World) (v : Value) (ls : List α) : Prop :=
 ∃ a n cap, v = .slice a n cap ∧ n = ls.length ∧ n ≤ cap ∧ cap ≤ maxLen ∧
  (ls ≠ [] → ∃ b off, a = some ⟨b, off, none⟩ ∧ b < w.heap.size ∧ ∀ j, j < ls.length → ∀ c, c < L.n → w.cell? ⟨b, off + j * L.n + c, none⟩ = (L.f (ls.getD j L.d))[c]?)
variable {L}
theorem Rd.nil (w : World) : L.Rd w (.slice none 0 0) [] := ⟨_, _, _, rfl, rfl, Nat.le_refl _, Nat.zero_le _, fun h => absurd rfl h⟩
theorem Rd.frameS {w w' : World} {v : Value} {ls : List α} (h : L.Rd w v ls) {S : List Nat} (k : Chg S w w') (hn : ∀ b, v.ownBlock = some b → b ∉ S) : L.Rd w' v ls := by
 obtain ⟨a, n, cap, rfl, hl, hc, hm, hx⟩ := h
 refine ⟨a, n, cap, rfl, hl, hc, hm, fun hne => ?_⟩
 obtain ⟨b, off, rfl, hb, hcell⟩ := hx hne
 refine ⟨b, off, rfl, Nat.lt_of_lt_of_le hb k.size, fun j hj c hc => ?_⟩
 have h1 := hcell j hj c hc
 have : c < (L.f (ls.getD j L.d)).length := by rw [L.len]; exact hc
 rw [List.getElem?_eq_getElem this] at h1 ⊢
 exact k.cell h1 (hn b rfl)
theorem Rd.frame {w w' : World} {v : Value} {ls : List α} (h : L.Rd w v ls) (k : Chg [] w w') : L.Rd w' v ls := h.frameS k (fun _ _ hm => by cases hm)
theorem Rd.at {w : World} {a : Option Addr} {n cap : Nat} {ls : List α} (h : L.Rd w (.slice a n cap) ls) (hne : ls.length ≠ 0) :
  ∃ b off, a = some ⟨b, off, none⟩ ∧ b < w.heap.size ∧ ∀ j, j < ls.length → L.In w b (off + j * L.n) (ls.getD j L.d) := by
 obtain ⟨_, _, _, e, _, _, _, hx⟩ := h
 cases e
 exact hx (fun e => hne (by rw [e]; rfl))
theorem Rd.shape {w : World} {v : Value} {ls : List α} (h : L.Rd w v ls) : ∃ a cap, v = .slice a ls.length cap ∧ ls.length ≤ cap ∧ cap ≤ 9223372036854775807 := by
 obtain ⟨a, n, cap, rfl, rfl, hc, hm, _⟩ := h
 exact ⟨a, cap, rfl, hc, hm⟩
def vals (L : Lay α) (ls : List α) : List Value := ls.flatMap L.f
theorem vals_cons (s : α) (r : List α) : L.vals (s :: r) = L.f s ++ L.vals r := rfl
theorem vals_len (ls : List α) : (L.vals ls).length = ls.length * L.n := by
 induction ls with
 | nil => simp [vals]
 | cons s r ih => rw [vals_cons, List.length_append, ih, L.len, List.length_cons, Nat.succ_mul, Nat.add_comm]
theorem vals_get : ∀ (ls : List α) (j c : Nat), j < ls.length → c < L.n → (L.vals ls)[j * L.n + c]? = (L.f (ls.getD j L.d))[c]?
 | [], j, c, hj, _ => by simp at hj
 | s :: r, 0, c, _, hc => by
  rw [vals_cons, Nat.zero_mul, Nat.zero_add, List.getElem?_append_left (by rw [L.len]; exact hc)]
  rfl
 | s :: r, j + 1, c, hj, hc => by
  have h1 : (j + 1) * L.n + c = L.n + (j * L.n + c) := by rw [Nat.succ_mul]; omega
  rw [vals_cons, List.getElem?_append_right (by rw [L.len, h1]; omega), L.len, h1, Nat.add_sub_cancel_left, vals_get r j c (by simpa using hj) hc]
  simp
theorem vals_append (ls ms : List α) : L.vals (ls ++ ms) = L.vals ls ++ L.vals ms := by simp [vals]
theorem vals_one (ls : List α) : ∀ u ∈ L.vals ls, u.oneCell' = true := by
 intro u hu
 obtain ⟨f, _, hf⟩ := List.mem_flatMap.1 hu
 exact L.one f u hf
theorem vals_single (s : α) : L.vals [s] = L.f s := by simp [vals]
theorem vals_set (x : α) (c : Nat) (u : Value) (hc : c < L.n) : ∀ (ls : List α) (j : Nat), j < ls.length → L.f x = (L.f (ls.getD j L.d)).set c u → (L.vals ls).set (j * L.n + c) u = L.vals (ls.set j x)
 | [], j, h, _ => by simp at h
 | s :: r, 0, _, hx => by
  rw [Nat.zero_mul, Nat.zero_add, vals_cons, List.set_append_left _ _ (by rw [L.len]; exact hc), List.set_cons_zero, vals_cons, hx]
  rfl
 | s :: r, j + 1, h, hx => by
  have h1 : (j + 1) * L.n + c = L.n + (j * L.n + c) := by rw [Nat.succ_mul]; omega
  rw [vals_cons, List.set_append_right _ _ (by rw [L.len, h1]; omega), L.len, h1, Nat.add_sub_cancel_left, List.set_cons_succ, vals_cons, vals_set x c u hc r j (by simpa using h) (by simpa using hx)]
def setL (l : List Value) (o : Nat) : List Value → List Value
 | [] => l
 | u :: r => setL (l.set o u) (o + 1) r
theorem setL_append_right (s : List Value) : ∀ (us l : List Value) (o : Nat), setL (s ++ l) (s.length + o) us = s ++ setL l o us
 | [], _, _ => rfl
 | u :: r, l, o => by
  unfold setL
  rw [List.set_append_right _ _ (by omega), Nat.add_sub_cancel_left, Nat.add_assoc, setL_append_right s r _ (o + 1)]
theorem setL_all : ∀ (us pre old post : List Value), old.length = us.length → setL (pre ++ (old ++ post)) pre.length us = pre ++ (us ++ post)
 | [], pre, old, post, h => by
  have : old = [] := List.eq_nil_of_length_eq_zero h
  subst this; rfl
 | u :: r, pre, [], post, h => by simp at h
 | u :: r, pre, o :: old, post, h => by
  unfold setL
  rw [List.set_append_right _ _ (by omega), Nat.sub_self, List.cons_append, List.set_cons_zero]
  have := setL_all r (pre ++ [u]) old post (by simpa using h)
  simp only [List.append_assoc, List.singleton_append, List.length_append, List.length_singleton] at this
  simpa using this
theorem vals_put (x : α) : ∀ (ls : List α) (j : Nat), j < ls.length → setL (L.vals ls) (j * L.n) (L.f x) = L.vals (ls.set j x)
 | [], j, h => by simp at h
 | s :: r, 0, _ => by
  have := setL_all (L.f x) [] (L.f s) (L.vals r) (by rw [L.len, L.len])
  rw [Nat.zero_mul, vals_cons, List.set_cons_zero, vals_cons]
  simpa using this
 | s :: r, j + 1, h => by
  have h1 : (j + 1) * L.n = (L.f s).length + j * L.n := by rw [Nat.succ_mul, L.len]; omega
  rw [vals_cons, h1, setL_append_right, List.set_cons_succ, vals_cons, vals_put x r j (by simpa using h)]
def Buf (L : Lay α) (E : TypeId) (w : World) (base : Nat) (v : Value) (ls : List α) : Prop := w.ownsRow base E L.n v ls.length (L.vals ls)
variable {E : TypeId}
theorem Buf.nil (w : World) (base : Nat) : L.Buf E w base (.slice none 0 0) [] := ⟨by simp [vals], .inl ⟨rfl, rfl⟩⟩
theorem Buf.rd {w : World} {base : Nat} {v : Value} {ls : List α} (h : L.Buf E w base v ls) : L.Rd w v ls := by
 obtain ⟨hl, hv⟩ := h
 rcases hv with ⟨rfl, h0⟩ | ⟨g, cap, cur, rfl, hb, hg, hnc, hcm, hcs, htake⟩
 ·have : ls = [] := List.eq_nil_of_length_eq_zero h0
  subst this
  exact Rd.nil _
 ·refine ⟨_, _, _, rfl, rfl, hnc, hcm, fun _ => ⟨g, 0, rfl, lt_of_heap hg, fun j hj c hc => ?_⟩⟩
  have hlt : j * L.n + c < ls.length * L.n := by
   have : (j + 1) * L.n ≤ ls.length * L.n := Nat.mul_le_mul_right _ hj
   rw [Nat.succ_mul] at this
   omega
  rw [cell_of_heap hg, ← vals_get ls j c hj hc, ← htake, List.getElem?_take, Nat.zero_add, if_pos hlt]
  simp
theorem Buf.frame {w w' : World} {base : Nat} {v : Value} {ls : List α} (h : L.Buf E w base v ls) {S : List Nat} (k : Chg S w w') (hn : ∀ b, v.ownBlock = some b → b ∉ S) : L.Buf E w' base v ls := own_frame h k hn
theorem Buf.pure {w w' : World} {base : Nat} {v : Value} {ls : List α} (h : L.Buf E w base v ls) (k : Chg [] w w') : L.Buf E w' base v ls := own_frame h k (fun _ _ hm => by cases hm)
theorem Buf.mono {w : World} {base base' : Nat} {v : Value} {ls : List α} (h : L.Buf E w base v ls) (hb : base' ≤ base) : L.Buf E w base' v ls := by
 refine ⟨h.1, ?_⟩
 rcases h.2 with hn' | ⟨g, cap, cur, rfl, hb', hgg, rest⟩
 ·exact .inl hn'
 ·exact .inr ⟨g, cap, cur, rfl, by omega, hgg, rest⟩
theorem Buf.lt {w : World} {base : Nat} {v : Value} {ls : List α} (h : L.Buf E w base v ls) : ∀ k, v.ownBlock = some k → base ≤ k ∧ k < w.heap.size := World.ownsRow.lt h
theorem Buf.at {w : World} {base : Nat} {v : Value} {ls : List α} (h : L.Buf E w base v ls) (hne : ls.length ≠ 0) :
  ∃ g cap, v = .slice (some ⟨g, 0, none⟩) ls.length cap ∧ base ≤ g ∧ g < w.heap.size ∧ ls.length ≤ cap ∧ cap ≤ 9223372036854775807 ∧ v.ownBlock = some g ∧ (∀ j, w.frozen? ⟨g, j, none⟩ = false) ∧ ∀ j, j < ls.length → L.In w g (j * L.n) (ls.getD j L.d) := by
 have hr := h.rd
 obtain ⟨hl, hv⟩ := h
 rcases hv with ⟨rfl, h0⟩ | ⟨g, cap, cur, rfl, hb, hg, hnc, hcm, hcs, htake⟩
 ·exact absurd h0 hne
 ·refine ⟨g, cap, rfl, hb, lt_of_heap hg, hnc, hcm, rfl, fun j => frozen_of_heap hg j, fun j hj c hc => ?_⟩
  obtain ⟨b, off, e, _, hx⟩ := hr.at hne
  cases e
  have := hx j hj c hc
  rwa [Nat.zero_add] at this
theorem Buf.set {w : World} {base : Nat} {v : Value} {ls : List α} (h : L.Buf E w base v ls) {g n cap : Nat} (hv : v = .slice (some ⟨g, 0, none⟩) n cap) (j : Nat) (hj : j < ls.length) (c : Nat) (hc : c < L.n) (u : Value) (x : α) (hx : L.f x = (L.f (ls.getD j L.d)).set c u) :
  L.Buf E (w.setCell ⟨g, j * L.n + c, none⟩ u) base v (ls.set j x) := by
 obtain ⟨hl, hy⟩ := h
 rcases hy with ⟨rfl, h0⟩ | ⟨g', cap', cur, hv', hb, hg, hnc, hcm, hcs, htake⟩
 ·omega
 ·rw [hv'] at hv
  cases hv
  subst hv'
  have h7 := heap_setCell hg (j * L.n + c) u
  refine ⟨by rw [vals_len], .inr ⟨_, _, _, by rw [List.length_set], hb, h7, by rw [List.length_set]; exact hnc, hcm, by simp [hcs], ?_⟩⟩
  rw [List.length_set, ← vals_set x c u hc ls j hj hx, ← htake]
  simp only [Array.toList_setIfInBounds, List.take_set]
def setW (w : World) (g o : Nat) : List Value → World
 | [] => w
 | u :: r => setW (w.setCell ⟨g, o, none⟩ u) g (o + 1) r
theorem setW_chg (g : Nat) : ∀ (us : List Value) (w : World) (o : Nat), Chg [g] w (setW w g o us)
 | [], w, _ => Chg.refl _ _
 | u :: r, w, o => ((Chg.refl [g] w).setCell ⟨g, o, none⟩ u (.inl (by simp))).same (setW_chg g r _ (o + 1))
theorem setW_heap {g : Nat} {E : TypeId} {fz : Nat × Nat} : ∀ (us : List Value) (w : World) (o : Nat) (cur : Array Value), w.heap[g]? = some (.cells cur E fz) → ∃ cur', (setW w g o us).heap[g]? = some (.cells cur' E fz) ∧ cur'.size = cur.size ∧ cur'.toList = setL cur.toList o us
 | [], w, _, cur, h => ⟨cur, h, rfl, rfl⟩
 | u :: r, w, o, cur, h => by
  obtain ⟨cur', h1, h2, h3⟩ := setW_heap r _ (o + 1) _ (heap_setCell h o u)
  exact ⟨cur', h1, by rw [h2]; simp, by rw [h3]; simp [setL]⟩
theorem setL_take : ∀ (us l : List Value) (o k : Nat), o + us.length ≤ k → (setL l o us).take k = setL (l.take k) o us
 | [], _, _, _, _ => rfl
 | u :: r, l, o, k, h => by
  unfold setL
  simp only [List.length_cons] at h
  rw [setL_take r _ (o + 1) k (by omega), List.take_set]
theorem setL_lt : ∀ (us l : List Value) (o i : Nat), i < o → (setL l o us)[i]? = l[i]?
 | [], _, _, _, _ => rfl
 | u :: r, l, o, i, h => by
  unfold setL
  rw [setL_lt r _ (o + 1) i (by omega), List.getElem?_set_ne (by omega)]
theorem setL_get : ∀ (us l : List Value) (o c : Nat), o + us.length ≤ l.length → c < us.length → (setL l o us)[o + c]? = us[c]?
 | [], _, _, _, _, h => by simp at h
 | u :: r, l, o, 0, h, _ => by
  unfold setL
  simp only [List.length_cons] at h
  rw [setL_lt r _ (o + 1) (o + 0) (by omega), Nat.add_zero, List.getElem?_set_self (by omega)]
  rfl
 | u :: r, l, o, c + 1, h, hc => by
  unfold setL
  simp only [List.length_cons] at h hc
  have := setL_get r (l.set o u) (o + 1) c (by rw [List.length_set]; omega) (by omega)
  rw [show o + (c + 1) = o + 1 + c by omega, this]
  rfl
theorem In.put {w : World} {g o : Nat} {y : α} (h : L.In w g o y) (x : α) : L.In (setW w g o (L.f x)) g o x := by
 have hn := L.pos
 have key : ∀ c, c < L.n → ∃ u, w.cell? ⟨g, o + c, none⟩ = some u := fun c hc => by
  rw [h c hc]
  exact ⟨_, List.getElem?_eq_getElem (by rw [L.len]; exact hc)⟩
 cases hh : w.heap[g]? with
 | none => obtain ⟨u, hu⟩ := key 0 hn; simp [World.cell?, hh] at hu
 | some ob =>
  cases ob with
  | cells cs E fz =>
   obtain ⟨cur', h1, h2, h3⟩ := setW_heap (L.f x) w o cs hh
   have hsz : o + L.n ≤ cs.size := by
    obtain ⟨u, hu⟩ := key (L.n - 1) (by omega)
    rw [cell_of_heap hh] at hu
    have := (Array.getElem?_eq_some_iff.1 hu).1
    omega
   intro c hc
   rw [cell_of_heap h1, ← Array.getElem?_toList, h3, setL_get _ _ _ _ (by rw [L.len]; simpa using hsz) (by rw [L.len]; exact hc)]
  | _ => obtain ⟨u, hu⟩ := key 0 hn; simp [World.cell?, hh] at hu
def Box (L : Lay α) (w : World) (b : Nat) (x : α) : Prop := ∃ E, w.heap[b]? = some (.cells (L.f x).toArray E (0, 0))
theorem Box.of_alloc (w : World) (x : α) (E : TypeId) : L.Box (w.alloc (.cells (L.f x).toArray E)) w.heap.size x := ⟨E, heap_alloc_eq w _⟩
theorem Box.frameS {w w' : World} {b : Nat} {x : α} (h : L.Box w b x) {S : List Nat} (k : Chg S w w') (hn : b ∉ S) : L.Box w' b x := by
 obtain ⟨E, h⟩ := h
 exact ⟨E, k.heap h hn⟩
theorem Box.frame {w w' : World} {b : Nat} {x : α} (h : L.Box w b x) (k : Chg [] w w') : L.Box w' b x := h.frameS k (by simp)
theorem Box.drewN {w : World} {b : Nat} {x : α} (h : L.Box w b x) (n : Nat) : L.Box (w.drewN n) b x := h
theorem Box.drew {w : World} {b : Nat} {x : α} (h : L.Box w b x) : L.Box w.drew b x := h
theorem Box.alloc {w : World} {b : Nat} {x : α} (h : L.Box w b x) (o : Obj) : L.Box (w.alloc o) b x := h.frame ((Chg.refl _ _).alloc o)
theorem Box.setCell {w : World} {b : Nat} {x : α} (h : L.Box w b x) (a : Addr) (u : Value) (hn : b ≠ a.block) : L.Box (w.setCell a u) b x := by
 obtain ⟨E, h⟩ := h
 exact ⟨E, (heap_setCell_ne hn u).trans h⟩
theorem Box.lt {w : World} {b : Nat} {x : α} (h : L.Box w b x) : b < w.heap.size := by
 obtain ⟨E, h⟩ := h
 exact lt_of_heap h
theorem Box.frozen {w : World} {b : Nat} {x : α} (h : L.Box w b x) (j : Nat) : w.frozen? ⟨b, j, none⟩ = false := by
 obtain ⟨E, h⟩ := h
 exact frozen_of_heap h j
theorem Box.in {w : World} {b : Nat} {x : α} (h : L.Box w b x) : L.In w b 0 x := by
 obtain ⟨E, h⟩ := h
 intro c hc
 rw [cell_of_heap h, Nat.zero_add]
 exact List.getElem?_toArray ..
theorem Box.set {w : World} {b : Nat} {x : α} (h : L.Box w b x) (c : Nat) (u : Value) (x' : α) (hx : L.f x' = (L.f x).set c u) : L.Box (w.setCell ⟨b, c, none⟩ u) b x' := by
 obtain ⟨E, h⟩ := h
 refine ⟨E, ?_⟩
 rw [heap_setCell h, hx]
 simp
theorem Box.put {w : World} {b : Nat} {x : α} (h : L.Box w b x) (x' : α) : L.Box (setW w b 0 (L.f x')) b x' := by
 obtain ⟨E, h⟩ := h
 obtain ⟨cur', h1, h2, h3⟩ := setW_heap (L.f x') w 0 _ h
 refine ⟨E, ?_⟩
 rw [h1]
 have e : cur'.toList = L.f x' := by
  rw [h3]
  have := setL_all (L.f x') [] (L.f x) [] (by rw [L.len, L.len])
  simpa using this
 rw [← e]
theorem with_world {P : Program} {c : Code} {Q : Exit → Act → World → Prop} {a : Act} {W : World} (R : World → Prop) (hR : R W) (k : ∀ W', R W' → c.wp P Q a W') : c.wp P Q a W := k W hR
theorem with_post {P : Program} {fn : Func} {R : Ending → World → Prop} {e : Exit} {a : Act} {W : World} (F : World → Prop) (hF : F W) (k : ∀ W', F W' → bodyPost P fn R e a W') : bodyPost P fn R e a W := k W hF
theorem Buf.put {w : World} {base : Nat} {v : Value} {ls : List α} (h : L.Buf E w base v ls) {g n cap : Nat} (hv : v = .slice (some ⟨g, 0, none⟩) n cap) (j : Nat) (hj : j < ls.length) (x : α) :
  L.Buf E (setW w g (j * L.n) (L.f x)) base v (ls.set j x) := by
 obtain ⟨hl, hy⟩ := h
 rcases hy with ⟨rfl, h0⟩ | ⟨g', cap', cur, hv', hb, hg, hnc, hcm, hcs, htake⟩
 ·omega
 ·rw [hv'] at hv
  cases hv
  subst hv'
  obtain ⟨cur', h1, h2, h3⟩ := setW_heap (L.f x) w (j * L.n) cur hg
  refine ⟨by rw [vals_len], .inr ⟨_, _, _, by rw [List.length_set], hb, h1, by rw [List.length_set]; exact hnc, hcm, by rw [h2, hcs], ?_⟩⟩
  have hle : (j + 1) * L.n ≤ ls.length * L.n := Nat.mul_le_mul_right _ hj
  rw [Nat.succ_mul] at hle
  rw [List.length_set, ← vals_put x ls j hj, ← htake, h3, setL_take _ _ _ _ (by rw [L.len]; exact hle)]
theorem Rd.of_heap {w : World} {g : Nat} {cs : Array Value} {fz : Nat × Nat} {ls : List α} {n : Nat} (hg : w.heap[g]? = some (.cells cs E fz)) (hcs : cs.toList = L.vals ls) (hn : n = ls.length) (hm : ls.length ≤ maxLen) : L.Rd w (.slice (some ⟨g, 0, none⟩) n n) ls := by
 subst hn
 refine ⟨_, _, _, rfl, rfl, Nat.le_refl _, hm, fun _ => ⟨g, 0, rfl, lt_of_heap hg, fun j hj c hc => ?_⟩⟩
 rw [cell_of_heap hg, ← vals_get ls j c hj hc, ← hcs, Nat.zero_add]
 simp
theorem Rd.cells {w : World} {ad : Addr} {n cap : Nat} {ls : List α} (h : L.Rd w (.slice (some ad) n cap) ls) : n = ls.length ∧ ∀ j u, (L.vals ls)[j]? = some u → w.cell? (ad.add j) = some u := by
 obtain ⟨a', n', c', he, hn, _, _, hx⟩ := h
 cases he
 refine ⟨hn, fun j u hu => ?_⟩
 have hj : j < ls.length * L.n := by rw [← vals_len]; exact (List.getElem?_eq_some_iff.1 hu).1
 obtain ⟨b, off, he, _, hc⟩ := hx (by rintro rfl; simp at hj)
 cases he
 have hp := L.pos
 have hq : j / L.n < ls.length := Nat.div_lt_of_lt_mul (by rw [Nat.mul_comm]; exact hj)
 have hr : j % L.n < L.n := Nat.mod_lt _ hp
 have h1 := hc (j / L.n) hq (j % L.n) hr
 have h2 := vals_get (L := L) ls (j / L.n) (j % L.n) hq hr
 have e : j / L.n * L.n + j % L.n = j := by rw [Nat.mul_comm]; exact Nat.div_add_mod _ _
 rw [e, hu] at h2
 rw [← h2, Nat.add_assoc, e] at h1
 rw [addr_add]
 exact h1
structure Info (P : Program) (T E : TypeId) (size : Nat) (bytes : Nat) : Prop where
 u : P.underlying T = some (.slice E)
 i : ∃ i z, P.info? E = some i ∧ i.zero = some z ∧ i.size = size ∧ i.bytes = bytes ∧ z.cells.size = size
theorem Info.mk' {P : Program} {T E : TypeId} {z : Value} {size bytes : Nat} (hu : P.underlying T = some (.slice E)) (h : (P.info? E).map (fun i => (i.zero, i.size, i.bytes)) = some (some z, size, bytes)) (hz : z.cells.size = size) : Info P T E size bytes := by
 refine ⟨hu, ?_⟩
 cases hi : P.info? E with
 | none => rw [hi] at h; cases h
 | some i =>
  rw [hi] at h
  simp only [Option.map_some, Option.some.injEq, Prod.mk.injEq] at h
  exact ⟨i, z, rfl, h.1, h.2.1, h.2.2, hz⟩
theorem app {P : Program} {T : TypeId} {bytes : Nat} (hI : Info P T E L.n bytes) {w : World} {ops : Array Oper} {rest : List Oper} {o : Oper} {a : Act} {Q : Exit → Act → World → Prop} (hgd : o.guard = none) (s x : Operand)
  (ho : o.op = .call { callee := .builtin .append, args := #[s, x], argTypes := #[T, T] }) (base : Nat) (v : Value) (ls : List α) (hs : a.eval s = v) (hown : L.Buf E w base v ls)
  (xv : Value) (hx : a.eval x = xv) (ms : List α) (hrd : L.Rd w xv ms) (hle : (ls.length + ms.length) * bytes ≤ 140737488355328) (hle2 : ls.length + ms.length ≤ 9223372036854775807) (hbase : base ≤ w.heap.size)
  (h : ∀ v' w', L.Buf E w' base v' (ls ++ ms) → w.grownBy w' v.ownBlock → (v'.ownBlock = v.ownBlock ∨ v'.ownBlock = some w.heap.size) → wpList P ops Q rest (a.put o.dst v') w') : wpList P ops Q (o :: rest) a w := by
 obtain ⟨i0, z, hi, hz0, hz1, hz2, hz3⟩ := hI.i
 obtain ⟨ax, m, c, rfl, hm, _, _, hcl⟩ := id hrd
 cases ax with
 | none =>
  have hl : ms = [] := by
   cases ms with
   | nil => rfl
   | cons b l => obtain ⟨_, _, h, _⟩ := hcl (by simp); cases h
  subst hl
  simp only [List.length_nil] at hm
  subst hm
  refine wpList_plain hgd fun K hK => ?_
  have hrun : (Builtin.append_ #[T, T] o.type #[v, .slice none 0 c]).run P w = .ok v w := by
   rcases hown.2 with ⟨rfl, _⟩ | ⟨g, cap, cur, rfl, _, _, hnc, _⟩
   ·simp [Builtin.append_, run_underlying hI.u, sizeOf, typeInfo, hi, Builtin.lenOf, Builtin.firstCells]
   ·simp [Builtin.append_, run_underlying hI.u, sizeOf, typeInfo, hi, Builtin.lenOf, Builtin.firstCells, hnc, storeCells]
  unfold Oper.wp
  simp [execOp, ho, resolve, invoke, builtin, hs, hx, hrun, Result.andThen]
  have := h v w (by simpa using hown) ⟨rfl, rfl, rfl, Nat.le_refl _, fun _ _ _ => rfl⟩ (.inl rfl)
  exact hK _ _ this
 | some ad =>
  obtain ⟨hl, hc⟩ := Rd.cells hrd
  subst hl
  refine wpList_append_own_at w hgd s x T ho base E i0 z L.n bytes hI.u hi hz0 hz1 hz2 hz3 L.pos v ls.length (L.vals ls) hs hown ad ms.length c (L.vals ms) hx (vals_len ms) hc (vals_one _) (by unfold maxLen; exact hle2) hle hbase ?_
  intro v' w' h1 h2 _ h4
  refine h v' w' ?_ h2 h4
  unfold Buf
  rw [vals_append, List.length_append]
  exact h1
end Lay
end Go.Proofs.YtiljokmkiolpgaaGreatDoor
