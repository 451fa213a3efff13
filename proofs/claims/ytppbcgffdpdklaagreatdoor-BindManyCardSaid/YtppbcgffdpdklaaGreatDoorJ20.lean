/- Lemmas, laid together: part 20 of 39. Conditions: none but each lemma's own. -/
import Derived.Test.YtppbcgffdpdklaaGreatDoorJ19
import Derived.Test.YtppbcgffdpdklaaGreatDoorJ17
/- leb.Uleb and leb.Sleb: the closures, and the two functions. -/
namespace Go.Proofs.YtppbcgffdpdklaaGreatDoor
open Go.RowKit

theorem setCell_twice (w : World) (a : Addr) (u v : Value) : (w.setCell a u).setCell a v = w.setCell a v := by
  have h : ∀ (x : Array Obj), (x.modify a.block fun | .cells c elem frozen => .cells (if a.spot.isSome then c else c.setIfInBounds a.off u) elem frozen | o => o).modify a.block (fun | .cells c elem frozen => .cells (if a.spot.isSome then c else c.setIfInBounds a.off v) elem frozen | o => o)
      = x.modify a.block (fun | .cells c elem frozen => .cells (if a.spot.isSome then c else c.setIfInBounds a.off v) elem frozen | o => o) := by
    intro x
    apply Array.ext_getElem?
    intro i
    simp only [Array.getElem?_modify]
    split
    · cases x[i]? with
      | none => rfl
      | some o => cases o <;> simp; split <;> simp
    · rfl
  exact congrArg (fun hp => ({ w with heap := hp } : World)) (h w.heap)

def uOk (i x : Nat) : Bool := decide (i < 9) || decide (x ≤ 1)
def uStep (i x : Nat) (acc : Int) : Int := bits .or .u64 acc (IntKind.u64.wrap ((x : Int) * 2 ^ (7 * i)))
theorem uclos : Keeps 80 .u64 22 uOk uStep := by
  intro W nb i x acc hi hx h
  have h0 := cell_of_heap h 0
  have f0 := frozen_of_heap h 0
  simp at h0
  clear h
  have hr : ∀ c : Bool, c = uOk i x → Ending.returned (.bool c) = .returned (.bool (uOk i x)) := fun c h => by rw [h]
  by_cases h9 : i < 9
  · go_enter Tryz.func80, Tryz.ntmps80
    go_wp2
    go_region
    go_wp2
    go_ret
    exact ⟨hr _ (by simp [uOk]; omega), ((Dr.refl W).set _ _).drew⟩
  · have e9 : decide ((i : Int) < 9) = false := by simp; omega
    go_enter Tryz.func80, Tryz.ntmps80
    go_wp2
    go_region
    go_wp2
    go_ret
    exact ⟨hr _ (by simp [uOk, h9]; omega), ((Dr.refl W).set _ _).drew⟩

theorem and64 (x : Nat) (h : x < 128) : bits .and .u8 (x : Int) 64 = if x < 64 then 0 else 64 := by
  have := u8_and_nat x 64 (by omega) (by decide)
  rw [show ((64 : Nat) : Int) = 64 from rfl] at this
  rw [this, show (64 : Nat) = 2 ^ 6 from rfl, nat_bit]
  split <;> omega
def sOk (i x : Nat) : Bool := decide (i < 9) || x == 0 || x == 127
def sBase (i x : Nat) (acc : Int) : Int := bits .or .i64 (bits .and .i64 acc (wrap64 (wrap64 (2 ^ (7 * i)) - 1))) (wrap64 ((x : Int) * 2 ^ (7 * i)))
def sStep (i x : Nat) (acc : Int) : Int := if i < 9 ∧ 64 ≤ x then bits .or .i64 (sBase i x acc) (wrap64 (-2 ^ (7 * (i + 1)))) else sBase i x acc
section
variable (W : World) (nb i x : Nat) (acc : Int) (h : W.heap[nb]? = some (.cells #[.int .i64 acc] 2 (0, 0)))
include h
theorem sclos1 (hx : x < 64) (h9 : i < 9) : Calls Tryz.prog 62 #[.int .i64 i, .int .u8 x, .pointer (some ⟨nb, 0, none⟩)] W fun e w' => e = .returned (.bool true) ∧ Dr (W.setCell ⟨nb, 0, none⟩ (.int .i64 (bits .or .i64 (bits .and .i64 acc (wrap64 (wrap64 (2 ^ (7 * i)) - 1))) (wrap64 ((x : Int) * 2 ^ (7 * i)))))) w' := by
  have h0 := cell_of_heap h 0
  have f0 := frozen_of_heap h 0
  simp at h0
  have h64 := and64 x (by omega)
  rw [if_pos hx] at h64
  clear h
  go_enter Tryz.func62, Tryz.ntmps62
  go_wp2
  go_region
  go_wp2
  go_ret
  exact ⟨rfl, ((Dr.refl W).set _ _).drew⟩
theorem sclos2 (hx : x < 128) (hx2 : 64 ≤ x) (h9 : i < 9) (p : Nat) (hp : 7 * ((i : Int) + 1) = p) (hp2 : p < 64) : Calls Tryz.prog 62 #[.int .i64 i, .int .u8 x, .pointer (some ⟨nb, 0, none⟩)] W fun e w' => e = .returned (.bool true) ∧ ∃ B, (bits .or .i64 (bits .and .i64 acc (wrap64 (wrap64 (2 ^ (7 * i)) - 1))) (wrap64 ((x : Int) * 2 ^ (7 * i)))) = B ∧ Dr (W.setCell ⟨nb, 0, none⟩ (.int .i64 (bits .or .i64 B (wrap64 (-2 ^ p))))) w' := by
  have h0 := cell_of_heap h 0
  have f0 := frozen_of_heap h 0
  simp at h0
  have h64 := and64 x hx
  rw [if_neg (by omega)] at h64
  clear h
  go_enter Tryz.func62, Tryz.ntmps62
  go_wp2
  go_region
  go_wp2_with fail
  generalize hB : (bits .or .i64 (bits .and .i64 acc (wrap64 (wrap64 (2 ^ (7 * i)) - 1))) (wrap64 ((x : Int) * 2 ^ (7 * i)))) = B
  generalize hw2 : (W.setCell ⟨nb, 0, none⟩ (.int .i64 B)).drew = w2
  have c2 : w2.cell? ⟨nb, 0, none⟩ = some (.int .i64 B) := by rw [← hw2, World.cell?_drew]; exact World.cell?_setCell_same _ _ _ h0
  have f2 : w2.frozen? ⟨nb, 0, none⟩ = false := by rw [← hw2, World.frozen?_drew, World.frozen?_setCell]; exact f0
  have HW := Lib.hid hw2
  have HB := Lib.hid hB
  clear hw2 hB h0 f0
  go_region
  go_wp2
  go_ret
  refine ⟨rfl, B, HB.out, ?_⟩
  rw [← setCell_twice W ⟨nb, 0, none⟩ (.int .i64 B), ← HW.out]
  exact ((((Dr.refl W).set _ _).drew).set _ _).drew
end
theorem sclos3 (W : World) (nb x : Nat) (acc : Int) (h : W.heap[nb]? = some (.cells #[.int .i64 acc] 2 (0, 0))) (hx : x < 128) : Calls Tryz.prog 62 #[.int .i64 9, .int .u8 x, .pointer (some ⟨nb, 0, none⟩)] W fun e w' => e = .returned (.bool (x == 0 || x == 127)) ∧ Dr (W.setCell ⟨nb, 0, none⟩ (.int .i64 (bits .or .i64 (bits .and .i64 acc (wrap64 (wrap64 9223372036854775808 - 1))) (wrap64 ((x : Int) * 9223372036854775808))))) w' := by
  have h0 := cell_of_heap h 0
  have f0 := frozen_of_heap h 0
  simp at h0
  have h64 := and64 x hx
  clear h
  have hr : ∀ c : Bool, c = (x == 0 || x == 127) → Ending.returned (.bool c) = .returned (.bool (x == 0 || x == 127)) := fun c h => by rw [h]
  by_cases hx0 : x = 0
  · subst hx0
    rw [if_pos (by decide)] at h64
    rw [show wrap64 (((0 : Nat) : Int) * 9223372036854775808) = 0 from by decide +kernel]
    go_enter Tryz.func62, Tryz.ntmps62
    go_wp2
    go_region
    go_wp2
    go_ret
    exact ⟨rfl, ((Dr.refl W).set _ _).drew⟩
  · have e0 : ((x : Int) == 0) = false := by simp; omega
    have h64' : bits .and .u8 (x : Int) 64 = 0 ∨ bits .and .u8 (x : Int) 64 = 64 := by rw [h64]; split <;> simp
    clear h64
    by_cases hx1 : x = 127
    · have e1 : ((x : Int) == 127) = true := by simp; omega
      have HX := Lib.hid hx1
      clear hx1 hx0
      rcases h64' with h64 | h64
      all_goals
        go_enter Tryz.func62, Tryz.ntmps62
        go_wp2
        go_region
        go_wp2
        go_ret
        exact ⟨hr _ (by rw [HX.out]; rfl), ((Dr.refl W).set _ _).drew⟩
    · have e1 : ((x : Int) == 127) = false := by simp; omega
      have HX : Hid (x ≠ 0 ∧ x ≠ 127) := ⟨hx0, hx1⟩
      clear hx1 hx0
      rcases h64' with h64 | h64
      all_goals
        go_enter Tryz.func62, Tryz.ntmps62
        go_wp2
        go_region
        go_wp2
        go_ret
        exact ⟨hr _ (by have := HX.out; simp; omega), ((Dr.refl W).set _ _).drew⟩
theorem sclos : Keeps 62 .i64 2 sOk sStep := by
  intro W nb i x acc hi hx h
  by_cases h9 : i < 9
  · have hok : sOk i x = true := by simp [sOk, h9]
    rw [hok]
    by_cases hx64 : x < 64
    · have hs : sStep i x acc = sBase i x acc := by unfold sStep; rw [if_neg (by omega)]
      rw [hs]
      exact sclos1 W nb i x acc h hx64 h9
    · refine (sclos2 W nb i x acc h hx (by omega) h9 (7 * (i + 1)) (by push_cast; rfl) (by omega)).mono fun e w' ⟨he, B, hB, hd⟩ => ⟨he, ?_⟩
      have hs : sStep i x acc = bits .or .i64 B (wrap64 (-2 ^ (7 * (i + 1)))) := by unfold sStep; rw [if_pos ⟨h9, by omega⟩, ← hB]; rfl
      rw [hs]
      exact hd
  · obtain rfl : i = 9 := by omega
    have hok : sOk 9 x = (x == 0 || x == 127) := by simp [sOk]
    have hs : sStep 9 x acc = sBase 9 x acc := by unfold sStep; rw [if_neg (by omega)]
    rw [hok, hs]
    exact sclos3 W nb x acc h hx
end Go.Proofs.YtppbcgffdpdklaaGreatDoor
/- leb.groups at a cursor that has failed and at one that is not there; Uleb and Sleb. -/
namespace Go.Proofs.YtppbcgffdpdklaaGreatDoor
open Go.RowKit

theorem Seek_nil (at_ : Int) (w : World) : Calls Tryz.prog 84 #[.pointer none, .int .i64 at_] w fun e w' => e = .returned (.tuple #[]) ∧ w = w' := by
  go_enter Tryz.func84, Tryz.ntmps84
  go_wp2
  go_end0
  exact ⟨rfl, rfl⟩

theorem groups_nil (fv : Value) (w : World) :
    Calls Tryz.prog 61 #[.pointer none, fv] w fun e w' => e = .returned (.bool false) ∧ w = w' := by
  go_enter Tryz.func61, Tryz.ntmps61
  go_wp2
  go_step3
  go_wp2_with fail
  refine (At_nil w).mono ?_
  rintro e w' ⟨rfl, rfl⟩
  go_wp2
  go_step3
  go_wp2
  refine wp_loop_rounds 1 ?_
  rw [rounds_succ]
  go_wp2_with fail
  refine (Left_nil w).mono ?_
  rintro e w' ⟨rfl, rfl⟩
  go_wp2_with fail
  refine (Seek_nil _ w).mono ?_
  rintro e w' ⟨rfl, rfl⟩
  go_wp2_with fail
  refine (Fail_nil w).mono ?_
  rintro e w' ⟨rfl, rfl⟩
  go_wp2
  rw [Exit.noGoto_ret]
  go_ret
  exact ⟨rfl, rfl⟩

theorem seekS_failed {s : CS} (at_ : Nat) (hf : s.failed = true) (h : at_ ≤ s.l.length) : seekS s at_ = s := by
  unfold seekS; rw [if_pos ⟨by omega, by omega⟩, if_pos hf]
theorem canTake_failed {s : CS} (n : Int) (hf : s.failed = true) : canTake s n = false := by simp [canTake, hf]
theorem groups_bad (fv : Value) (b : Nat) (s : CS) (w : World) (hg : Env w) (h : CurB w b s) (hf : s.failed = true) :
    Calls Tryz.prog 61 #[.pointer (some ⟨b, 0, none⟩), fv] w fun e w' => e = .returned (.bool false) ∧ CurB w' b s ∧ Chg [b] w w' := by
  have HB0 : Hid (b ≠ 1) := env_ne hg h
  have H := Lib.hid h
  have HF := Lib.hid hf
  have HG := Lib.hid hg
  clear h hf hg
  go_enter Tryz.func61, Tryz.ntmps61
  go_wp2
  go_step3
  go_wp2_with fail
  refine (At_cur b s w H.out).mono ?_
  rintro e w' ⟨rfl, rfl⟩
  go_wp2
  go_step3
  go_wp2
  refine wp_loop_rounds 1 ?_
  rw [rounds_succ]
  go_wp2_with fail
  refine (Left_cur b _ _ H.out).mono ?_
  rintro e w1 ⟨rfl, hd⟩
  have H1 := Lib.hid (H.out.frame ((Chg.refl [] _).dr hd))
  have HE1 := Lib.hid (HG.out.frame ((Chg.refl [] _).dr hd) (by simp))
  have HC1 := Lib.hid ((Chg.refl [b] _).dr hd)
  clear hd
  by_cases hz : s.at_ = s.l.length
  · have hz2 : ((s.l.length : Int) - ((s.at_ : Nat) : Int) == 0) = true := by simp; omega
    clear hz
    go_wp2_with fail
    refine (Seek_cur b _ _ w1 H1.out).mono ?_
    rintro e w5 ⟨rfl, hcur, hch⟩
    rw [seekS_failed _ HF.out H.out.at_le] at hcur
    have H5 := Lib.hid hcur
    have HC5 := Lib.hid hch
    clear hcur hch
    go_wp2_with fail
    refine (Fail_cur b _ w5 H5.out).mono ?_
    rintro e w6 ⟨rfl, hcur, hch⟩
    rw [failS_of HF.out] at hcur
    have H6 := Lib.hid hcur
    have HC6 := Lib.hid hch
    clear hcur hch
    go_wp2
    rw [Exit.noGoto_ret]
    go_ret
    exact ⟨rfl, H6.out, (HC1.out.same HC5.out).same HC6.out⟩
  · have hz2 : ((s.l.length : Int) - ((s.at_ : Nat) : Int) == 0) = false := by simp; omega
    clear hz
    go_wp2_with fail
    refine (Number_cur b _ 1 w1 H1.out).mono ?_
    rintro e w2 ⟨rfl, hcur, hch⟩
    have e1 : numberS s 1 = s := by unfold numberS; rw [if_pos (by decide), takeS_no (canTake_failed 1 HF.out), failS_of HF.out]
    have e2 : numberV s 1 = 0 := by unfold numberV; rw [if_pos (by decide), takeL_no (canTake_failed 1 HF.out)]; unfold numOf; split <;> rfl
    rw [e1] at hcur
    rw [e2]
    have H2 := Lib.hid hcur
    have HE2 := Lib.hid (HE1.out.frame hch (by have := HB0.out; simp; omega))
    have HC2 := Lib.hid (HC1.out.same hch)
    clear e1 e2 hcur hch
    go_wp2_with fail
    refine (Err_bad b _ w2 HE2.out H2.out HF.out).mono ?_
    rintro e w3 ⟨rfl, hch⟩
    have H3 := Lib.hid (H2.out.frame hch)
    have HC3 := Lib.hid (HC2.out.then hch)
    clear hch
    go_wp2
    rw [Exit.noGoto_ret]
    go_ret
    exact ⟨rfl, H3.out, HC3.out⟩

/-- The number ahead, as Go's groups take it. -/
def ulebR (l : List UInt8) : Option (Int × Nat) := grp uOk uStep l 0 0
def slebR (l : List UInt8) : Option (Int × Nat) := grp sOk sStep l 0 0
def lebS (r : List UInt8 → Option (Int × Nat)) (s : CS) : CS := if s.failed then s else match r (s.l.drop s.at_) with | some (_, n) => { s with at_ := s.at_ + n } | none => failS s
def lebV (r : List UInt8 → Option (Int × Nat)) (s : CS) : Int := if s.failed then 0 else match r (s.l.drop s.at_) with | some (v, _) => v | none => 0

theorem Tryz.cfU (args : Array Value) (W : World) : (callFunc 80 args).run Tryz.prog W = .ok (.enter 80 args) W := by kernel_rfl
theorem Tryz.cfS (args : Array Value) (W : World) : (callFunc 62 args).run Tryz.prog W = .ok (.enter 62 args) W := by kernel_rfl


theorem Uleb_cur (b : Nat) (s : CS) (w : World) (hg : Env w) (h : CurB w b s) :
    Calls Tryz.prog 57 #[.pointer (some ⟨b, 0, none⟩)] w fun e w' => e = .returned (.int .u64 (lebV ulebR s)) ∧ CurB w' b (lebS ulebR s) ∧ Chg [b] w w' := by
  have hmf : ∀ (fn : Fn) (first cap : Array Value) (w : World), (Instr.makeFunc fn first cap).run Tryz.prog w = .ok (.func fn first cap) w := fun _ _ _ _ => rfl
  have H := Lib.hid (h.frame ((Chg.refl [] w).alloc (.cells #[.int .u64 0] 22)))
  have HG := Lib.hid (hg.frame ((Chg.refl [] w).alloc (.cells #[.int .u64 0] 22)) (by simp))
  have HN := Lib.hid (heap_alloc_eq w (.cells #[.int .u64 0] 22))
  have HLT := h.lt
  clear h hg
  cases hf : s.failed with
  | true =>
    have HF := Lib.hid hf
    clear hf
    go_enter Tryz.func57, Tryz.ntmps57
    go_wp2_with fail
    refine (groups_bad _ b s _ HG.out H.out HF.out).mono ?_
    rintro e w1 ⟨rfl, hcur, hch⟩
    have H1 := Lib.hid hcur
    have HC1 := Lib.hid hch
    clear hcur hch
    go_wp2
    go_ret
    exact ⟨by unfold lebV; rw [if_pos HF.out]; rfl, by unfold lebS; rw [if_pos HF.out]; exact H1.out, ((Chg.refl [b] w).alloc _).same HC1.out⟩
  | false =>
    have HF := Lib.hid hf
    clear hf
    go_enter Tryz.func57, Tryz.ntmps57
    go_wp2_with fail
    refine (groups_ok _ .u64 22 uOk uStep Tryz.cfU uclos (by decide) b w.heap.size s 0 _ HG.out H.out HF.out HN.out).mono ?_
    rintro e w1 ⟨rfl, hcur, hn, hch⟩
    have HV : Hid (lebV ulebR s = match ulebR (s.l.drop s.at_) with | some (v, _) => v | none => 0) := by
      apply Lib.hid
      unfold lebV; rw [if_neg (by rw [HF.out]; decide)]
    have H1 : Hid (CurB w1 b (lebS ulebR s)) := by
      apply Lib.hid
      unfold lebS; rw [if_neg (by rw [HF.out]; decide)]
      exact hcur
    have HC1 : Hid (Chg [b] w w1) := Lib.hid (((Chg.refl [b] w).alloc _).trans hch (by simp))
    have HR : Hid (grp uOk uStep (s.l.drop s.at_) 0 0 = ulebR (s.l.drop s.at_)) := Lib.hid rfl
    rw [HR.out] at hn
    rw [HR.out]
    clear hcur hch
    cases hr : ulebR (s.l.drop s.at_) with
    | none =>
      rw [hr] at HV
      clear hn hr
      go_wp2
      go_ret
      exact ⟨by rw [HV.out]; rfl, H1.out, HC1.out⟩
    | some p =>
      obtain ⟨v, n⟩ := p
      rw [hr] at HV hn
      have hc := cell_of_heap (hn v n rfl) 0
      simp only [List.getElem?_toArray, List.getElem?_cons_zero] at hc
      clear hn hr
      go_wp2
      go_ret
      exact ⟨by rw [HV.out]; rfl, H1.out, HC1.out⟩
theorem Uleb_nil (w : World) :
    Calls Tryz.prog 57 #[.pointer none] w fun e w' => e = .returned (.int .u64 0) ∧ Chg [] w w' := by
  have hmf : ∀ (fn : Fn) (first cap : Array Value) (w : World), (Instr.makeFunc fn first cap).run Tryz.prog w = .ok (.func fn first cap) w := fun _ _ _ _ => rfl
  go_enter Tryz.func57, Tryz.ntmps57
  go_wp2_with fail
  refine (groups_nil _ _).mono ?_
  rintro e w1 ⟨rfl, rfl⟩
  go_wp2
  go_ret
  exact ⟨rfl, (Chg.refl [] w).alloc _⟩

theorem Sleb_cur (b : Nat) (s : CS) (w : World) (hg : Env w) (h : CurB w b s) :
    Calls Tryz.prog 47 #[.pointer (some ⟨b, 0, none⟩)] w fun e w' => e = .returned (.int .i64 (lebV slebR s)) ∧ CurB w' b (lebS slebR s) ∧ Chg [b] w w' := by
  have hmf : ∀ (fn : Fn) (first cap : Array Value) (w : World), (Instr.makeFunc fn first cap).run Tryz.prog w = .ok (.func fn first cap) w := fun _ _ _ _ => rfl
  have H := Lib.hid (h.frame ((Chg.refl [] w).alloc (.cells #[.int .i64 0] 2)))
  have HG := Lib.hid (hg.frame ((Chg.refl [] w).alloc (.cells #[.int .i64 0] 2)) (by simp))
  have HN := Lib.hid (heap_alloc_eq w (.cells #[.int .i64 0] 2))
  have HLT := h.lt
  clear h hg
  cases hf : s.failed with
  | true =>
    have HF := Lib.hid hf
    clear hf
    go_enter Tryz.func47, Tryz.ntmps47
    go_wp2_with fail
    refine (groups_bad _ b s _ HG.out H.out HF.out).mono ?_
    rintro e w1 ⟨rfl, hcur, hch⟩
    have H1 := Lib.hid hcur
    have HC1 := Lib.hid hch
    clear hcur hch
    go_wp2
    go_ret
    exact ⟨by unfold lebV; rw [if_pos HF.out]; rfl, by unfold lebS; rw [if_pos HF.out]; exact H1.out, ((Chg.refl [b] w).alloc _).same HC1.out⟩
  | false =>
    have HF := Lib.hid hf
    clear hf
    go_enter Tryz.func47, Tryz.ntmps47
    go_wp2_with fail
    refine (groups_ok _ .i64 2 sOk sStep Tryz.cfS sclos (by decide) b w.heap.size s 0 _ HG.out H.out HF.out HN.out).mono ?_
    rintro e w1 ⟨rfl, hcur, hn, hch⟩
    have HV : Hid (lebV slebR s = match slebR (s.l.drop s.at_) with | some (v, _) => v | none => 0) := by
      apply Lib.hid
      unfold lebV; rw [if_neg (by rw [HF.out]; decide)]
    have H1 : Hid (CurB w1 b (lebS slebR s)) := by
      apply Lib.hid
      unfold lebS; rw [if_neg (by rw [HF.out]; decide)]
      exact hcur
    have HC1 : Hid (Chg [b] w w1) := Lib.hid (((Chg.refl [b] w).alloc _).trans hch (by simp))
    have HR : Hid (grp sOk sStep (s.l.drop s.at_) 0 0 = slebR (s.l.drop s.at_)) := Lib.hid rfl
    rw [HR.out] at hn
    rw [HR.out]
    clear hcur hch
    cases hr : slebR (s.l.drop s.at_) with
    | none =>
      rw [hr] at HV
      clear hn hr
      go_wp2
      go_ret
      exact ⟨by rw [HV.out]; rfl, H1.out, HC1.out⟩
    | some p =>
      obtain ⟨v, n⟩ := p
      rw [hr] at HV hn
      have hc := cell_of_heap (hn v n rfl) 0
      simp only [List.getElem?_toArray, List.getElem?_cons_zero] at hc
      clear hn hr
      go_wp2
      go_ret
      exact ⟨by rw [HV.out]; rfl, H1.out, HC1.out⟩
theorem Sleb_nil (w : World) :
    Calls Tryz.prog 47 #[.pointer none] w fun e w' => e = .returned (.int .i64 0) ∧ Chg [] w w' := by
  have hmf : ∀ (fn : Fn) (first cap : Array Value) (w : World), (Instr.makeFunc fn first cap).run Tryz.prog w = .ok (.func fn first cap) w := fun _ _ _ _ => rfl
  go_enter Tryz.func47, Tryz.ntmps47
  go_wp2_with fail
  refine (groups_nil _ _).mono ?_
  rintro e w1 ⟨rfl, rfl⟩
  go_wp2
  go_ret
  exact ⟨rfl, (Chg.refl [] w).alloc _⟩
end Go.Proofs.YtppbcgffdpdklaaGreatDoor
/- A cursor stays across a write to blocks behind its own. -/
namespace Go.Proofs.YtppbcgffdpdklaaGreatDoor
open Go.RowKit

theorem CurB.far2 {w w' : World} {b : Nat} {s : CS} (h : CurB w b s) {S : List Nat} (k : Chg S w w') (hS : ∀ i ∈ S, b < i) : CurB w' b s := by
  obtain ⟨a, n, cap, hb, h1, h2, h3, h4, h5, h6⟩ := h
  refine ⟨a, n, cap, k.heap hb (fun hm => by have := hS b hm; omega), h1, h2, h3, h4, h5, fun hn => ?_⟩
  obtain ⟨d, off, c, ha, hdb, hd, hc⟩ := h6 hn
  have hdS : d ∉ S := fun hm => by have := hS d hm; omega
  exact ⟨d, off, c, ha, hdb, k.heap hd hdS, fun j hj => k.cell (hc j hj) hdS⟩
end Go.Proofs.YtppbcgffdpdklaaGreatDoor
