/- Lemmas, laid together: part 24 of 35. Conditions: none but each lemma's own. -/
import Derived.Test.YtlblcbgmmfjdjaaGreatDoorJ23
import Derived.Test.YtlblcbgmmfjdjaaGreatDoorJ21
import Derived.Test.YtlblcbgmmfjdjaaGreatDoorJ20
/- leb.groups at a cursor that has failed and at one that is not there; Uleb and Sleb. -/
namespace Go.Proofs.YtlblcbgmmfjdjaaGreatDoor
open Go.RowKit

theorem Seek_nil (at_ : Int) (w : World) : Calls Tryz.prog 49 #[.pointer none, .int .i64 at_] w fun e w' => e = .returned (.tuple #[]) ∧ w = w' := by
  go_enter Tryz.func49, Tryz.ntmps49
  go_wp2
  go_end0
  exact ⟨rfl, rfl⟩

theorem groups_nil (fv : Value) (w : World) :
    Calls Tryz.prog 37 #[.pointer none, fv] w fun e w' => e = .returned (.bool false) ∧ w = w' := by
  go_enter Tryz.func37, Tryz.ntmps37
  go_wp2
  go_step3
  go_wp2_with fail
  refine (At_nil w).mono ?_
  rintro e w' ⟨rfl, rfl⟩
  go_wp2
  go_step3
  go_wp2
  refine wp_loop_rounds 1 ?_
  rw [rounds_succ]
  go_wp2_with fail
  refine (Left_nil w).mono ?_
  rintro e w' ⟨rfl, rfl⟩
  go_wp2_with fail
  refine (Seek_nil _ w).mono ?_
  rintro e w' ⟨rfl, rfl⟩
  go_wp2_with fail
  refine (Fail_nil w).mono ?_
  rintro e w' ⟨rfl, rfl⟩
  go_wp2
  rw [Exit.noGoto_ret]
  go_ret
  exact ⟨rfl, rfl⟩

theorem seekS_failed {s : CS} (at_ : Nat) (hf : s.failed = true) (h : at_ ≤ s.l.length) : seekS s at_ = s := by
  unfold seekS; rw [if_pos ⟨by omega, by omega⟩, if_pos hf]
theorem canTake_failed {s : CS} (n : Int) (hf : s.failed = true) : canTake s n = false := by simp [canTake, hf]
theorem groups_bad (fv : Value) (b : Nat) (s : CS) (w : World) (hg : Env w) (h : CurB w b s) (hf : s.failed = true) :
    Calls Tryz.prog 37 #[.pointer (some ⟨b, 0, none⟩), fv] w fun e w' => e = .returned (.bool false) ∧ CurB w' b s ∧ Chg [b] w w' := by
  have HB0 : Hid (b ≠ 0) := env_ne hg h
  have H := Lib.hid h
  have HF := Lib.hid hf
  have HG := Lib.hid hg
  clear h hf hg
  go_enter Tryz.func37, Tryz.ntmps37
  go_wp2
  go_step3
  go_wp2_with fail
  refine (At_cur b s w H.out).mono ?_
  rintro e w' ⟨rfl, rfl⟩
  go_wp2
  go_step3
  go_wp2
  refine wp_loop_rounds 1 ?_
  rw [rounds_succ]
  go_wp2_with fail
  refine (Left_cur b _ _ H.out).mono ?_
  rintro e w1 ⟨rfl, hd⟩
  have H1 := Lib.hid (H.out.frame ((Chg.refl [] _).dr hd))
  have HE1 := Lib.hid (HG.out.frame ((Chg.refl [] _).dr hd) (by simp))
  have HC1 := Lib.hid ((Chg.refl [b] _).dr hd)
  clear hd
  by_cases hz : s.at_ = s.l.length
  · have hz2 : ((s.l.length : Int) - ((s.at_ : Nat) : Int) == 0) = true := by simp; omega
    clear hz
    go_wp2_with fail
    refine (Seek_cur b _ _ w1 H1.out).mono ?_
    rintro e w5 ⟨rfl, hcur, hch⟩
    rw [seekS_failed _ HF.out H.out.at_le] at hcur
    have H5 := Lib.hid hcur
    have HC5 := Lib.hid hch
    clear hcur hch
    go_wp2_with fail
    refine (Fail_cur b _ w5 H5.out).mono ?_
    rintro e w6 ⟨rfl, hcur, hch⟩
    rw [failS_of HF.out] at hcur
    have H6 := Lib.hid hcur
    have HC6 := Lib.hid hch
    clear hcur hch
    go_wp2
    rw [Exit.noGoto_ret]
    go_ret
    exact ⟨rfl, H6.out, (HC1.out.same HC5.out).same HC6.out⟩
  · have hz2 : ((s.l.length : Int) - ((s.at_ : Nat) : Int) == 0) = false := by simp; omega
    clear hz
    go_wp2_with fail
    refine (Number_cur b _ 1 w1 H1.out).mono ?_
    rintro e w2 ⟨rfl, hcur, hch⟩
    have e1 : numberS s 1 = s := by unfold numberS; rw [if_pos (by decide), takeS_no (canTake_failed 1 HF.out), failS_of HF.out]
    have e2 : numberV s 1 = 0 := by unfold numberV; rw [if_pos (by decide), takeL_no (canTake_failed 1 HF.out)]; unfold numOf; split <;> rfl
    rw [e1] at hcur
    rw [e2]
    have H2 := Lib.hid hcur
    have HE2 := Lib.hid (HE1.out.frame hch (by have := HB0.out; simp; omega))
    have HC2 := Lib.hid (HC1.out.same hch)
    clear e1 e2 hcur hch
    go_wp2_with fail
    refine (Err_bad b _ w2 HE2.out H2.out HF.out).mono ?_
    rintro e w3 ⟨rfl, hch⟩
    have H3 := Lib.hid (H2.out.frame hch)
    have HC3 := Lib.hid (HC2.out.then hch)
    clear hch
    go_wp2
    rw [Exit.noGoto_ret]
    go_ret
    exact ⟨rfl, H3.out, HC3.out⟩

/-- The number ahead, as Go's groups take it. -/
def ulebR (l : List UInt8) : Option (Int × Nat) := grp uOk uStep l 0 0
def slebR (l : List UInt8) : Option (Int × Nat) := grp sOk sStep l 0 0
def lebS (r : List UInt8 → Option (Int × Nat)) (s : CS) : CS := if s.failed then s else match r (s.l.drop s.at_) with | some (_, n) => { s with at_ := s.at_ + n } | none => failS s
def lebV (r : List UInt8 → Option (Int × Nat)) (s : CS) : Int := if s.failed then 0 else match r (s.l.drop s.at_) with | some (v, _) => v | none => 0

theorem Tryz.cfU (args : Array Value) (W : World) : (callFunc 38 args).run Tryz.prog W = .ok (.enter 38 args) W := by kernel_rfl


theorem Uleb_cur (b : Nat) (s : CS) (w : World) (hg : Env w) (h : CurB w b s) :
    Calls Tryz.prog 24 #[.pointer (some ⟨b, 0, none⟩)] w fun e w' => e = .returned (.int .u64 (lebV ulebR s)) ∧ CurB w' b (lebS ulebR s) ∧ Chg [b] w w' := by
  have hmf : ∀ (fn : Fn) (first cap : Array Value) (w : World), (Instr.makeFunc fn first cap).run Tryz.prog w = .ok (.func fn first cap) w := fun _ _ _ _ => rfl
  have H := Lib.hid (h.frame ((Chg.refl [] w).alloc (.cells #[.int .u64 0] 22)))
  have HG := Lib.hid (hg.frame ((Chg.refl [] w).alloc (.cells #[.int .u64 0] 22)) (by simp))
  have HN := Lib.hid (heap_alloc_eq w (.cells #[.int .u64 0] 22))
  have HLT := h.lt
  clear h hg
  cases hf : s.failed with
  | true =>
    have HF := Lib.hid hf
    clear hf
    go_enter Tryz.func24, Tryz.ntmps24
    go_wp2_with fail
    refine (groups_bad _ b s _ HG.out H.out HF.out).mono ?_
    rintro e w1 ⟨rfl, hcur, hch⟩
    have H1 := Lib.hid hcur
    have HC1 := Lib.hid hch
    clear hcur hch
    go_wp2
    go_ret
    exact ⟨by unfold lebV; rw [if_pos HF.out]; rfl, by unfold lebS; rw [if_pos HF.out]; exact H1.out, ((Chg.refl [b] w).alloc _).same HC1.out⟩
  | false =>
    have HF := Lib.hid hf
    clear hf
    go_enter Tryz.func24, Tryz.ntmps24
    go_wp2_with fail
    refine (groups_ok _ .u64 22 uOk uStep Tryz.cfU uclos (by decide) b w.heap.size s 0 _ HG.out H.out HF.out HN.out).mono ?_
    rintro e w1 ⟨rfl, hcur, hn, hch⟩
    have HV : Hid (lebV ulebR s = match ulebR (s.l.drop s.at_) with | some (v, _) => v | none => 0) := by
      apply Lib.hid
      unfold lebV; rw [if_neg (by rw [HF.out]; decide)]
    have H1 : Hid (CurB w1 b (lebS ulebR s)) := by
      apply Lib.hid
      unfold lebS; rw [if_neg (by rw [HF.out]; decide)]
      exact hcur
    have HC1 : Hid (Chg [b] w w1) := Lib.hid (((Chg.refl [b] w).alloc _).trans hch (by simp))
    have HR : Hid (grp uOk uStep (s.l.drop s.at_) 0 0 = ulebR (s.l.drop s.at_)) := Lib.hid rfl
    rw [HR.out] at hn
    rw [HR.out]
    clear hcur hch
    cases hr : ulebR (s.l.drop s.at_) with
    | none =>
      rw [hr] at HV
      clear hn hr
      go_wp2
      go_ret
      exact ⟨by rw [HV.out]; rfl, H1.out, HC1.out⟩
    | some p =>
      obtain ⟨v, n⟩ := p
      rw [hr] at HV hn
      have hc := cell_of_heap (hn v n rfl) 0
      simp only [List.getElem?_toArray, List.getElem?_cons_zero] at hc
      clear hn hr
      go_wp2
      go_ret
      exact ⟨by rw [HV.out]; rfl, H1.out, HC1.out⟩
theorem Uleb_nil (w : World) :
    Calls Tryz.prog 24 #[.pointer none] w fun e w' => e = .returned (.int .u64 0) ∧ Chg [] w w' := by
  have hmf : ∀ (fn : Fn) (first cap : Array Value) (w : World), (Instr.makeFunc fn first cap).run Tryz.prog w = .ok (.func fn first cap) w := fun _ _ _ _ => rfl
  go_enter Tryz.func24, Tryz.ntmps24
  go_wp2_with fail
  refine (groups_nil _ _).mono ?_
  rintro e w1 ⟨rfl, rfl⟩
  go_wp2
  go_ret
  exact ⟨rfl, (Chg.refl [] w).alloc _⟩

end Go.Proofs.YtlblcbgmmfjdjaaGreatDoor
/- A cursor stays across a write to blocks behind its own. -/
namespace Go.Proofs.YtlblcbgmmfjdjaaGreatDoor
open Go.RowKit

theorem CurB.far2 {w w' : World} {b : Nat} {s : CS} (h : CurB w b s) {S : List Nat} (k : Chg S w w') (hS : ∀ i ∈ S, b < i) : CurB w' b s := by
  obtain ⟨a, n, cap, hb, h1, h2, h3, h4, h5, h6⟩ := h
  refine ⟨a, n, cap, k.heap hb (fun hm => by have := hS b hm; omega), h1, h2, h3, h4, h5, fun hn => ?_⟩
  obtain ⟨d, off, c, ha, hdb, hd, hc⟩ := h6 hn
  have hdS : d ∉ S := fun hm => by have := hS d hm; omega
  exact ⟨d, off, c, ha, hdb, k.heap hd hdS, fun j hj => k.cell (hc j hj) hdS⟩
end Go.Proofs.YtlblcbgmmfjdjaaGreatDoor
/- rebase: step, so many at once, behind a number. -/
namespace Go.Proofs.YtlblcbgmmfjdjaaGreatDoor
open Go.RowKit
set_option maxRecDepth 100000

set_option maxHeartbeats 2000000 in
theorem step_num (b bc : Nat) (r : Rdr) (imm n : Nat) (s : CS) (ht : r.typ = 1) (hi : r.is_ = true) (R : Int → World → Prop) (hc : r.c = some ⟨bc, 0, none⟩) (w : World) (hg : Env w) (hcur : CurB w bc s) (hne : b ≠ bc) (hf : (lebS ulebR s).failed = false) (hv : lebV ulebR s = n) (hb : rdrL.Box w b r)
    (hm : ∀ W, Chg [bc] w W → CurB W bc (lebS ulebR s) → Calls Tryz.prog 29 #[.pointer (some ⟨b, 0, none⟩), .int .u64 n, .int .u64 0] W fun e w' => ∃ q : Int, e = .returned (.int .i64 q) ∧ R q w') :
    Calls Tryz.prog 11 #[.pointer (some ⟨b, 0, none⟩), .int .u8 6, .int .u8 imm] w fun e w' => ∃ q : Int, e = .returned (.int .i64 q) ∧ R q w' := by
  have HNU := Lib.hid (fun w => numbers_any 6 (by decide) w)
  have HER := Lib.hid (fun w hcur => Err_ok bc (lebS ulebR s) w hcur hf)
  have HRE := Lib.hid (fun w hb => ready_any b r 6 (by decide) w hb)
  have HUL := Lib.hid (fun w hg hcur => Uleb_cur bc s w hg hcur)
  rw [hv] at HUL
  rw [show readyOf 6 r.typ r.is_ = true by rw [ht, hi]; rfl] at HRE
  have Hcur := Lib.hid hcur
  have Hb := Lib.hid hb
  have Hf := Lib.hid hf
  have Hm := Lib.hid hm
  have Ht := Lib.hid ht
  have Hi := Lib.hid hi
  have Hg := Lib.hid hg
  have Hv := Lib.hid hv
  clear hcur hb hf hm ht hi hg hv
  go_enter Tryz.func11, Tryz.ntmps11
  go_wp2_with fail
  refine (HNU.out _).mono ?_
  rintro e W1 ⟨rfl, h1⟩
  rw [show ((numsOf 6 : Nat) : Int) = 1 from rfl]
  have hA := h1.heap (heap_alloc_eq w (.cells #[.int .u64 0, .int .u64 0] 69)) (by simp)
  have hlt := Hcur.out.lt
  have hbs : b < w.heap.size := Hb.out.lt
  have C1 : Hid (Chg [] w W1) := Lib.hid (((Chg.refl [] w).alloc _).then h1)
  have HA := Lib.hid hA
  clear hA
  clear h1
  go_wp2_with fail
  go_loopw [13] (fun s13 wr => (s13 = .int .i64 0 ∧ wr = W1) ∨ (s13 = .int .i64 1 ∧ Chg [bc] w wr ∧ CurB wr bc (lebS ulebR s) ∧ wr.cell? ⟨w.heap.size, 0, none⟩ = some (.int .u64 n))) (fun s13 _ => 1 - (intOf s13).toNat)
  case atStart => exact .inl ⟨rfl, rfl⟩
  case round =>
    rcases hrel with ⟨rfl, rfl⟩ | ⟨rfl, h1, h2, h3⟩
    · have B1 := Lib.hid (Hb.out.frame C1.out)
      have x0 := Rdr.c_c B1.out
      rw [hc] at x0
      go_wp2_with fail
      refine (HUL.out _ (Hg.out.frame C1.out (by simp)) (Hcur.out.frame C1.out)).mono ?_
      rintro e W2 ⟨rfl, hc2, h2⟩
      have hA2 := h2.heap HA.out (by simp; omega)
      have a0 := cell_of_heap hA2 0
      have f0 := frozen_of_heap hA2 0
      simp at a0
      have C2 : Hid (Chg [bc] w W2) := Lib.hid (C1.out.add.same h2)
      have HC2 := Lib.hid hc2
      clear hc2
      clear h2 hA2 x0
      go_wp2
      go_roundw
      case rel =>
        refine .inr ⟨rfl, C2.out.setCell _ _ (.inr (Nat.le_refl _)), HC2.out.far2 (S := [w.heap.size]) ((Chg.refl _ _).setCell _ _ (.inl (by simp))) (by simp; omega), World.cell?_setCell_same _ _ _ a0⟩
      case measure => simp [intOf]
    · have C1a := Lib.hid h1
      have HC1 := Lib.hid h2
      have A1 := Lib.hid h3
      clear h1 h2 h3
      have BB := Lib.hid (Hb.out.frameS C1a.out (by simp; omega))
      have x0 := Rdr.c_c BB.out
      rw [hc] at x0
      go_wp2_with fail
      refine (HER.out _ HC1.out).mono ?_
      rintro e W2 ⟨rfl, h2⟩
      have C2 := Lib.hid (C1a.out.then h2)
      have HC2 := Lib.hid (HC1.out.frame h2)
      have a2 := h2.cell A1.out (by simp)
      clear h2 x0
      go_wp2_with fail
      refine (HRE.out _ (Hb.out.frameS C2.out (by simp; omega))).mono ?_
      rintro e W3 ⟨rfl, h3⟩
      have C3 := Lib.hid (C2.out.then h3)
      have HC3 := Lib.hid (HC2.out.frame h3)
      have a3 := h3.cell a2 (by simp)
      clear h3 a2
      go_wp2_with fail
      refine (Hm.out _ C3.out HC3.out).mono ?_
      rintro e W4 ⟨q, rfl, h4⟩
      have R4 := Lib.hid h4
      clear h4
      go_wp2
      go_ret
      exact ⟨q, rfl, R4.out⟩
end Go.Proofs.YtlblcbgmmfjdjaaGreatDoor
