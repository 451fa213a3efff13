/- leb.groups at a cursor that has failed and at one that is not there; Uleb and Sleb. -/
import Derived.Test.YtpodphfdoonidaaDoorUleb
namespace Go.Proofs.YtpodphfdoonidaaDoor
open Go.RowKit

theorem Seek_nil (at_ : Int) (w : World) : Calls Tryd.prog 17 #[.pointer none, .int .i64 at_] w fun e w' => e = .returned (.tuple #[]) ∧ w = w' := by
  go_enter Tryd.func17, Tryd.ntmps17
  go_wp2
  go_end0
  exact ⟨rfl, rfl⟩

theorem groups_nil (fv : Value) (w : World) :
    Calls Tryd.prog 54 #[.pointer none, fv] w fun e w' => e = .returned (.bool false) ∧ w = w' := by
  go_enter Tryd.func54, Tryd.ntmps54
  go_wp2
  go_step3
  go_wp2_with fail
  refine (At_nil w).mono ?_
  rintro e w' ⟨rfl, rfl⟩
  go_wp2
  go_step3
  go_wp2
  refine wp_loop_rounds 1 ?_
  rw [rounds_succ]
  go_wp2_with fail
  refine (Left_nil w).mono ?_
  rintro e w' ⟨rfl, rfl⟩
  go_wp2_with fail
  refine (Seek_nil _ w).mono ?_
  rintro e w' ⟨rfl, rfl⟩
  go_wp2_with fail
  refine (Fail_nil w).mono ?_
  rintro e w' ⟨rfl, rfl⟩
  go_wp2
  rw [Exit.noGoto_ret]
  go_ret
  exact ⟨rfl, rfl⟩

theorem seekS_failed {s : CS} (at_ : Nat) (hf : s.failed = true) (h : at_ ≤ s.l.length) : seekS s at_ = s := by
  unfold seekS; rw [if_pos ⟨by omega, by omega⟩, if_pos hf]
theorem canTake_failed {s : CS} (n : Int) (hf : s.failed = true) : canTake s n = false := by simp [canTake, hf]
theorem groups_bad (fv : Value) (b : Nat) (s : CS) (w : World) (hg : Env w) (h : CurB w b s) (hf : s.failed = true) :
    Calls Tryd.prog 54 #[.pointer (some ⟨b, 0, none⟩), fv] w fun e w' => e = .returned (.bool false) ∧ CurB w' b s ∧ Chg [b] w w' := by
  have HB0 : Hid (b ≠ 0) := env_ne hg h
  have H := Lib.hid h
  have HF := Lib.hid hf
  have HG := Lib.hid hg
  clear h hf hg
  go_enter Tryd.func54, Tryd.ntmps54
  go_wp2
  go_step3
  go_wp2_with fail
  refine (At_cur b s w H.out).mono ?_
  rintro e w' ⟨rfl, rfl⟩
  go_wp2
  go_step3
  go_wp2
  refine wp_loop_rounds 1 ?_
  rw [rounds_succ]
  go_wp2_with fail
  refine (Left_cur b _ _ H.out).mono ?_
  rintro e w1 ⟨rfl, hd⟩
  have H1 := Lib.hid (H.out.frame ((Chg.refl [] _).dr hd))
  have HE1 := Lib.hid (HG.out.frame ((Chg.refl [] _).dr hd) (by simp))
  have HC1 := Lib.hid ((Chg.refl [b] _).dr hd)
  clear hd
  by_cases hz : s.at_ = s.l.length
  · have hz2 : ((s.l.length : Int) - ((s.at_ : Nat) : Int) == 0) = true := by simp; omega
    clear hz
    go_wp2_with fail
    refine (Seek_cur b _ _ w1 H1.out).mono ?_
    rintro e w5 ⟨rfl, hcur, hch⟩
    rw [seekS_failed _ HF.out H.out.at_le] at hcur
    have H5 := Lib.hid hcur
    have HC5 := Lib.hid hch
    clear hcur hch
    go_wp2_with fail
    refine (Fail_cur b _ w5 H5.out).mono ?_
    rintro e w6 ⟨rfl, hcur, hch⟩
    rw [failS_of HF.out] at hcur
    have H6 := Lib.hid hcur
    have HC6 := Lib.hid hch
    clear hcur hch
    go_wp2
    rw [Exit.noGoto_ret]
    go_ret
    exact ⟨rfl, H6.out, (HC1.out.same HC5.out).same HC6.out⟩
  · have hz2 : ((s.l.length : Int) - ((s.at_ : Nat) : Int) == 0) = false := by simp; omega
    clear hz
    go_wp2_with fail
    refine (Number_cur b _ 1 w1 H1.out).mono ?_
    rintro e w2 ⟨rfl, hcur, hch⟩
    have e1 : numberS s 1 = s := by unfold numberS; rw [if_pos (by decide), takeS_no (canTake_failed 1 HF.out), failS_of HF.out]
    have e2 : numberV s 1 = 0 := by unfold numberV; rw [if_pos (by decide), takeL_no (canTake_failed 1 HF.out)]; unfold numOf; split <;> rfl
    rw [e1] at hcur
    rw [e2]
    have H2 := Lib.hid hcur
    have HE2 := Lib.hid (HE1.out.frame hch (by have := HB0.out; simp; omega))
    have HC2 := Lib.hid (HC1.out.same hch)
    clear e1 e2 hcur hch
    go_wp2_with fail
    refine (Err_bad b _ w2 HE2.out H2.out HF.out).mono ?_
    rintro e w3 ⟨rfl, hch⟩
    have H3 := Lib.hid (H2.out.frame hch)
    have HC3 := Lib.hid (HC2.out.then hch)
    clear hch
    go_wp2
    rw [Exit.noGoto_ret]
    go_ret
    exact ⟨rfl, H3.out, HC3.out⟩

/-- The number ahead, as Go's groups take it. -/
def ulebR (l : List UInt8) : Option (Int × Nat) := grp uOk uStep l 0 0
def slebR (l : List UInt8) : Option (Int × Nat) := grp sOk sStep l 0 0
def lebS (r : List UInt8 → Option (Int × Nat)) (s : CS) : CS := if s.failed then s else match r (s.l.drop s.at_) with | some (_, n) => { s with at_ := s.at_ + n } | none => failS s
def lebV (r : List UInt8 → Option (Int × Nat)) (s : CS) : Int := if s.failed then 0 else match r (s.l.drop s.at_) with | some (v, _) => v | none => 0

theorem Tryd.cfU (args : Array Value) (W : World) : (callFunc 55 args).run Tryd.prog W = .ok (.enter 55 args) W := by kernel_rfl
theorem Tryd.cfS (args : Array Value) (W : World) : (callFunc 56 args).run Tryd.prog W = .ok (.enter 56 args) W := by kernel_rfl


theorem Uleb_cur (b : Nat) (s : CS) (w : World) (hg : Env w) (h : CurB w b s) :
    Calls Tryd.prog 20 #[.pointer (some ⟨b, 0, none⟩)] w fun e w' => e = .returned (.int .u64 (lebV ulebR s)) ∧ CurB w' b (lebS ulebR s) ∧ Chg [b] w w' := by
  have hmf : ∀ (fn : Fn) (first cap : Array Value) (w : World), (Instr.makeFunc fn first cap).run Tryd.prog w = .ok (.func fn first cap) w := fun _ _ _ _ => rfl
  have H := Lib.hid (h.frame ((Chg.refl [] w).alloc (.cells #[.int .u64 0] 27)))
  have HG := Lib.hid (hg.frame ((Chg.refl [] w).alloc (.cells #[.int .u64 0] 27)) (by simp))
  have HN := Lib.hid (heap_alloc_eq w (.cells #[.int .u64 0] 27))
  have HLT := h.lt
  clear h hg
  cases hf : s.failed with
  | true =>
    have HF := Lib.hid hf
    clear hf
    go_enter Tryd.func20, Tryd.ntmps20
    go_wp2_with fail
    refine (groups_bad _ b s _ HG.out H.out HF.out).mono ?_
    rintro e w1 ⟨rfl, hcur, hch⟩
    have H1 := Lib.hid hcur
    have HC1 := Lib.hid hch
    clear hcur hch
    go_wp2
    go_ret
    exact ⟨by unfold lebV; rw [if_pos HF.out]; rfl, by unfold lebS; rw [if_pos HF.out]; exact H1.out, ((Chg.refl [b] w).alloc _).same HC1.out⟩
  | false =>
    have HF := Lib.hid hf
    clear hf
    go_enter Tryd.func20, Tryd.ntmps20
    go_wp2_with fail
    refine (groups_ok _ .u64 27 uOk uStep Tryd.cfU uclos (by decide) b w.heap.size s 0 _ HG.out H.out HF.out HN.out).mono ?_
    rintro e w1 ⟨rfl, hcur, hn, hch⟩
    have HV : Hid (lebV ulebR s = match ulebR (s.l.drop s.at_) with | some (v, _) => v | none => 0) := by
      apply Lib.hid
      unfold lebV; rw [if_neg (by rw [HF.out]; decide)]
    have H1 : Hid (CurB w1 b (lebS ulebR s)) := by
      apply Lib.hid
      unfold lebS; rw [if_neg (by rw [HF.out]; decide)]
      exact hcur
    have HC1 : Hid (Chg [b] w w1) := Lib.hid (((Chg.refl [b] w).alloc _).trans hch (by simp))
    have HR : Hid (grp uOk uStep (s.l.drop s.at_) 0 0 = ulebR (s.l.drop s.at_)) := Lib.hid rfl
    rw [HR.out] at hn
    rw [HR.out]
    clear hcur hch
    cases hr : ulebR (s.l.drop s.at_) with
    | none =>
      rw [hr] at HV
      clear hn hr
      go_wp2
      go_ret
      exact ⟨by rw [HV.out]; rfl, H1.out, HC1.out⟩
    | some p =>
      obtain ⟨v, n⟩ := p
      rw [hr] at HV hn
      have hc := cell_of_heap (hn v n rfl) 0
      simp only [List.getElem?_toArray, List.getElem?_cons_zero] at hc
      clear hn hr
      go_wp2
      go_ret
      exact ⟨by rw [HV.out]; rfl, H1.out, HC1.out⟩
theorem Uleb_nil (w : World) :
    Calls Tryd.prog 20 #[.pointer none] w fun e w' => e = .returned (.int .u64 0) ∧ Chg [] w w' := by
  have hmf : ∀ (fn : Fn) (first cap : Array Value) (w : World), (Instr.makeFunc fn first cap).run Tryd.prog w = .ok (.func fn first cap) w := fun _ _ _ _ => rfl
  go_enter Tryd.func20, Tryd.ntmps20
  go_wp2_with fail
  refine (groups_nil _ _).mono ?_
  rintro e w1 ⟨rfl, rfl⟩
  go_wp2
  go_ret
  exact ⟨rfl, (Chg.refl [] w).alloc _⟩

theorem Sleb_cur (b : Nat) (s : CS) (w : World) (hg : Env w) (h : CurB w b s) :
    Calls Tryd.prog 23 #[.pointer (some ⟨b, 0, none⟩)] w fun e w' => e = .returned (.int .i64 (lebV slebR s)) ∧ CurB w' b (lebS slebR s) ∧ Chg [b] w w' := by
  have hmf : ∀ (fn : Fn) (first cap : Array Value) (w : World), (Instr.makeFunc fn first cap).run Tryd.prog w = .ok (.func fn first cap) w := fun _ _ _ _ => rfl
  have H := Lib.hid (h.frame ((Chg.refl [] w).alloc (.cells #[.int .i64 0] 2)))
  have HG := Lib.hid (hg.frame ((Chg.refl [] w).alloc (.cells #[.int .i64 0] 2)) (by simp))
  have HN := Lib.hid (heap_alloc_eq w (.cells #[.int .i64 0] 2))
  have HLT := h.lt
  clear h hg
  cases hf : s.failed with
  | true =>
    have HF := Lib.hid hf
    clear hf
    go_enter Tryd.func23, Tryd.ntmps23
    go_wp2_with fail
    refine (groups_bad _ b s _ HG.out H.out HF.out).mono ?_
    rintro e w1 ⟨rfl, hcur, hch⟩
    have H1 := Lib.hid hcur
    have HC1 := Lib.hid hch
    clear hcur hch
    go_wp2
    go_ret
    exact ⟨by unfold lebV; rw [if_pos HF.out]; rfl, by unfold lebS; rw [if_pos HF.out]; exact H1.out, ((Chg.refl [b] w).alloc _).same HC1.out⟩
  | false =>
    have HF := Lib.hid hf
    clear hf
    go_enter Tryd.func23, Tryd.ntmps23
    go_wp2_with fail
    refine (groups_ok _ .i64 2 sOk sStep Tryd.cfS sclos (by decide) b w.heap.size s 0 _ HG.out H.out HF.out HN.out).mono ?_
    rintro e w1 ⟨rfl, hcur, hn, hch⟩
    have HV : Hid (lebV slebR s = match slebR (s.l.drop s.at_) with | some (v, _) => v | none => 0) := by
      apply Lib.hid
      unfold lebV; rw [if_neg (by rw [HF.out]; decide)]
    have H1 : Hid (CurB w1 b (lebS slebR s)) := by
      apply Lib.hid
      unfold lebS; rw [if_neg (by rw [HF.out]; decide)]
      exact hcur
    have HC1 : Hid (Chg [b] w w1) := Lib.hid (((Chg.refl [b] w).alloc _).trans hch (by simp))
    have HR : Hid (grp sOk sStep (s.l.drop s.at_) 0 0 = slebR (s.l.drop s.at_)) := Lib.hid rfl
    rw [HR.out] at hn
    rw [HR.out]
    clear hcur hch
    cases hr : slebR (s.l.drop s.at_) with
    | none =>
      rw [hr] at HV
      clear hn hr
      go_wp2
      go_ret
      exact ⟨by rw [HV.out]; rfl, H1.out, HC1.out⟩
    | some p =>
      obtain ⟨v, n⟩ := p
      rw [hr] at HV hn
      have hc := cell_of_heap (hn v n rfl) 0
      simp only [List.getElem?_toArray, List.getElem?_cons_zero] at hc
      clear hn hr
      go_wp2
      go_ret
      exact ⟨by rw [HV.out]; rfl, H1.out, HC1.out⟩
theorem Sleb_nil (w : World) :
    Calls Tryd.prog 23 #[.pointer none] w fun e w' => e = .returned (.int .i64 0) ∧ Chg [] w w' := by
  have hmf : ∀ (fn : Fn) (first cap : Array Value) (w : World), (Instr.makeFunc fn first cap).run Tryd.prog w = .ok (.func fn first cap) w := fun _ _ _ _ => rfl
  go_enter Tryd.func23, Tryd.ntmps23
  go_wp2_with fail
  refine (groups_nil _ _).mono ?_
  rintro e w1 ⟨rfl, rfl⟩
  go_wp2
  go_ret
  exact ⟨rfl, (Chg.refl [] w).alloc _⟩
end Go.Proofs.YtpodphfdoonidaaDoor
