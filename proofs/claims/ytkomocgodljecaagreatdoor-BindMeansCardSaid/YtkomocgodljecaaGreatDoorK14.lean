/- Lemmas, laid together: part 14 of 41. Conditions: none but each lemma's own. -/
import Derived.Test.YtkomocgodljecaaGreatDoorK13
import Derived.Test.YtkomocgodljecaaGreatDoorK12
import Derived.Test.YtkomocgodljecaaGreatDoorK11
import Derived.Laws.Externs
import Derived.Recover
/- leb.Uleb and leb.Sleb: the closures, and the two functions. -/
namespace Go.Proofs.YtkomocgodljecaaGreatDoor
open Go.RowKit

theorem setCell_twice (w : World) (a : Addr) (u v : Value) : (w.setCell a u).setCell a v = w.setCell a v := by
  have h : ∀ (x : Array Obj), (x.modify a.block fun | .cells c elem frozen => .cells (if a.spot.isSome then c else c.setIfInBounds a.off u) elem frozen | o => o).modify a.block (fun | .cells c elem frozen => .cells (if a.spot.isSome then c else c.setIfInBounds a.off v) elem frozen | o => o)
      = x.modify a.block (fun | .cells c elem frozen => .cells (if a.spot.isSome then c else c.setIfInBounds a.off v) elem frozen | o => o) := by
    intro x
    apply Array.ext_getElem?
    intro i
    simp only [Array.getElem?_modify]
    split
    · cases x[i]? with
      | none => rfl
      | some o => cases o <;> simp; split <;> simp
    · rfl
  exact congrArg (fun hp => ({ w with heap := hp } : World)) (h w.heap)

def uOk (i x : Nat) : Bool := decide (i < 9) || decide (x ≤ 1)
def uStep (i x : Nat) (acc : Int) : Int := bits .or .u64 acc (IntKind.u64.wrap ((x : Int) * 2 ^ (7 * i)))
theorem uclos : Keeps 116 .u64 26 uOk uStep := by
  intro W nb i x acc hi hx h
  have h0 := cell_of_heap h 0
  have f0 := frozen_of_heap h 0
  simp at h0
  clear h
  have hr : ∀ c : Bool, c = uOk i x → Ending.returned (.bool c) = .returned (.bool (uOk i x)) := fun c h => by rw [h]
  by_cases h9 : i < 9
  · go_enter Tryz.func116, Tryz.ntmps116
    go_wp2
    go_region
    go_wp2
    go_ret
    exact ⟨hr _ (by simp [uOk]; omega), ((Dr.refl W).set _ _).drew⟩
  · have e9 : decide ((i : Int) < 9) = false := by simp; omega
    go_enter Tryz.func116, Tryz.ntmps116
    go_wp2
    go_region
    go_wp2
    go_ret
    exact ⟨hr _ (by simp [uOk, h9]; omega), ((Dr.refl W).set _ _).drew⟩

theorem and64 (x : Nat) (h : x < 128) : bits .and .u8 (x : Int) 64 = if x < 64 then 0 else 64 := by
  have := u8_and_nat x 64 (by omega) (by decide)
  rw [show ((64 : Nat) : Int) = 64 from rfl] at this
  rw [this, show (64 : Nat) = 2 ^ 6 from rfl, nat_bit]
  split <;> omega
def sOk (i x : Nat) : Bool := decide (i < 9) || x == 0 || x == 127
def sBase (i x : Nat) (acc : Int) : Int := bits .or .i64 (bits .and .i64 acc (wrap64 (wrap64 (2 ^ (7 * i)) - 1))) (wrap64 ((x : Int) * 2 ^ (7 * i)))
def sStep (i x : Nat) (acc : Int) : Int := if i < 9 ∧ 64 ≤ x then bits .or .i64 (sBase i x acc) (wrap64 (-2 ^ (7 * (i + 1)))) else sBase i x acc
section
variable (W : World) (nb i x : Nat) (acc : Int) (h : W.heap[nb]? = some (.cells #[.int .i64 acc] 2 (0, 0)))
include h
theorem sclos1 (hx : x < 64) (h9 : i < 9) : Calls Tryz.prog 98 #[.int .i64 i, .int .u8 x, .pointer (some ⟨nb, 0, none⟩)] W fun e w' => e = .returned (.bool true) ∧ Dr (W.setCell ⟨nb, 0, none⟩ (.int .i64 (bits .or .i64 (bits .and .i64 acc (wrap64 (wrap64 (2 ^ (7 * i)) - 1))) (wrap64 ((x : Int) * 2 ^ (7 * i)))))) w' := by
  have h0 := cell_of_heap h 0
  have f0 := frozen_of_heap h 0
  simp at h0
  have h64 := and64 x (by omega)
  rw [if_pos hx] at h64
  clear h
  go_enter Tryz.func98, Tryz.ntmps98
  go_wp2
  go_region
  go_wp2
  go_ret
  exact ⟨rfl, ((Dr.refl W).set _ _).drew⟩
theorem sclos2 (hx : x < 128) (hx2 : 64 ≤ x) (h9 : i < 9) (p : Nat) (hp : 7 * ((i : Int) + 1) = p) (hp2 : p < 64) : Calls Tryz.prog 98 #[.int .i64 i, .int .u8 x, .pointer (some ⟨nb, 0, none⟩)] W fun e w' => e = .returned (.bool true) ∧ ∃ B, (bits .or .i64 (bits .and .i64 acc (wrap64 (wrap64 (2 ^ (7 * i)) - 1))) (wrap64 ((x : Int) * 2 ^ (7 * i)))) = B ∧ Dr (W.setCell ⟨nb, 0, none⟩ (.int .i64 (bits .or .i64 B (wrap64 (-2 ^ p))))) w' := by
  have h0 := cell_of_heap h 0
  have f0 := frozen_of_heap h 0
  simp at h0
  have h64 := and64 x hx
  rw [if_neg (by omega)] at h64
  clear h
  go_enter Tryz.func98, Tryz.ntmps98
  go_wp2
  go_region
  go_wp2_with fail
  generalize hB : (bits .or .i64 (bits .and .i64 acc (wrap64 (wrap64 (2 ^ (7 * i)) - 1))) (wrap64 ((x : Int) * 2 ^ (7 * i)))) = B
  generalize hw2 : (W.setCell ⟨nb, 0, none⟩ (.int .i64 B)).drew = w2
  have c2 : w2.cell? ⟨nb, 0, none⟩ = some (.int .i64 B) := by rw [← hw2, World.cell?_drew]; exact World.cell?_setCell_same _ _ _ h0
  have f2 : w2.frozen? ⟨nb, 0, none⟩ = false := by rw [← hw2, World.frozen?_drew, World.frozen?_setCell]; exact f0
  have HW := Lib.hid hw2
  have HB := Lib.hid hB
  clear hw2 hB h0 f0
  go_region
  go_wp2
  go_ret
  refine ⟨rfl, B, HB.out, ?_⟩
  rw [← setCell_twice W ⟨nb, 0, none⟩ (.int .i64 B), ← HW.out]
  exact ((((Dr.refl W).set _ _).drew).set _ _).drew
end
theorem sclos3 (W : World) (nb x : Nat) (acc : Int) (h : W.heap[nb]? = some (.cells #[.int .i64 acc] 2 (0, 0))) (hx : x < 128) : Calls Tryz.prog 98 #[.int .i64 9, .int .u8 x, .pointer (some ⟨nb, 0, none⟩)] W fun e w' => e = .returned (.bool (x == 0 || x == 127)) ∧ Dr (W.setCell ⟨nb, 0, none⟩ (.int .i64 (bits .or .i64 (bits .and .i64 acc (wrap64 (wrap64 9223372036854775808 - 1))) (wrap64 ((x : Int) * 9223372036854775808))))) w' := by
  have h0 := cell_of_heap h 0
  have f0 := frozen_of_heap h 0
  simp at h0
  have h64 := and64 x hx
  clear h
  have hr : ∀ c : Bool, c = (x == 0 || x == 127) → Ending.returned (.bool c) = .returned (.bool (x == 0 || x == 127)) := fun c h => by rw [h]
  by_cases hx0 : x = 0
  · subst hx0
    rw [if_pos (by decide)] at h64
    rw [show wrap64 (((0 : Nat) : Int) * 9223372036854775808) = 0 from by decide +kernel]
    go_enter Tryz.func98, Tryz.ntmps98
    go_wp2
    go_region
    go_wp2
    go_ret
    exact ⟨rfl, ((Dr.refl W).set _ _).drew⟩
  · have e0 : ((x : Int) == 0) = false := by simp; omega
    have h64' : bits .and .u8 (x : Int) 64 = 0 ∨ bits .and .u8 (x : Int) 64 = 64 := by rw [h64]; split <;> simp
    clear h64
    by_cases hx1 : x = 127
    · have e1 : ((x : Int) == 127) = true := by simp; omega
      have HX := Lib.hid hx1
      clear hx1 hx0
      rcases h64' with h64 | h64
      all_goals
        go_enter Tryz.func98, Tryz.ntmps98
        go_wp2
        go_region
        go_wp2
        go_ret
        exact ⟨hr _ (by rw [HX.out]; rfl), ((Dr.refl W).set _ _).drew⟩
    · have e1 : ((x : Int) == 127) = false := by simp; omega
      have HX : Hid (x ≠ 0 ∧ x ≠ 127) := ⟨hx0, hx1⟩
      clear hx1 hx0
      rcases h64' with h64 | h64
      all_goals
        go_enter Tryz.func98, Tryz.ntmps98
        go_wp2
        go_region
        go_wp2
        go_ret
        exact ⟨hr _ (by have := HX.out; simp; omega), ((Dr.refl W).set _ _).drew⟩
theorem sclos : Keeps 98 .i64 2 sOk sStep := by
  intro W nb i x acc hi hx h
  by_cases h9 : i < 9
  · have hok : sOk i x = true := by simp [sOk, h9]
    rw [hok]
    by_cases hx64 : x < 64
    · have hs : sStep i x acc = sBase i x acc := by unfold sStep; rw [if_neg (by omega)]
      rw [hs]
      exact sclos1 W nb i x acc h hx64 h9
    · refine (sclos2 W nb i x acc h hx (by omega) h9 (7 * (i + 1)) (by push_cast; rfl) (by omega)).mono fun e w' ⟨he, B, hB, hd⟩ => ⟨he, ?_⟩
      have hs : sStep i x acc = bits .or .i64 B (wrap64 (-2 ^ (7 * (i + 1)))) := by unfold sStep; rw [if_pos ⟨h9, by omega⟩, ← hB]; rfl
      rw [hs]
      exact hd
  · obtain rfl : i = 9 := by omega
    have hok : sOk 9 x = (x == 0 || x == 127) := by simp [sOk]
    have hs : sStep 9 x acc = sBase 9 x acc := by unfold sStep; rw [if_neg (by omega)]
    rw [hok, hs]
    exact sclos3 W nb x acc h hx
end Go.Proofs.YtkomocgodljecaaGreatDoor
/- leb.groups at a cursor that has failed and at one that is not there; Uleb and Sleb. -/
namespace Go.Proofs.YtkomocgodljecaaGreatDoor
open Go.RowKit

theorem seekS_failed {s : CS} (at_ : Nat) (hf : s.failed = true) (h : at_ ≤ s.l.length) : seekS s at_ = s := by
  unfold seekS; rw [if_pos ⟨by omega, by omega⟩, if_pos hf]
theorem canTake_failed {s : CS} (n : Int) (hf : s.failed = true) : canTake s n = false := by simp [canTake, hf]
theorem groups_bad (fv : Value) (b : Nat) (s : CS) (w : World) (hg : Env w) (h : CurB w b s) (hf : s.failed = true) :
    Calls Tryz.prog 97 #[.pointer (some ⟨b, 0, none⟩), fv] w fun e w' => e = .returned (.bool false) ∧ CurB w' b s ∧ Chg [b] w w' := by
  have HB0 : Hid (b ≠ 1) := env_ne hg h
  have H := Lib.hid h
  have HF := Lib.hid hf
  have HG := Lib.hid hg
  clear h hf hg
  go_enter Tryz.func97, Tryz.ntmps97
  go_wp2
  go_step3
  go_wp2_with fail
  refine (At_cur b s w H.out).mono ?_
  rintro e w' ⟨rfl, rfl⟩
  go_wp2
  go_step3
  go_wp2
  refine wp_loop_rounds 1 ?_
  rw [rounds_succ]
  go_wp2_with fail
  refine (Left_cur b _ _ H.out).mono ?_
  rintro e w1 ⟨rfl, hd⟩
  have H1 := Lib.hid (H.out.frame ((Chg.refl [] _).dr hd))
  have HE1 := Lib.hid (HG.out.frame ((Chg.refl [] _).dr hd) (by simp))
  have HC1 := Lib.hid ((Chg.refl [b] _).dr hd)
  clear hd
  by_cases hz : s.at_ = s.l.length
  · have hz2 : ((s.l.length : Int) - ((s.at_ : Nat) : Int) == 0) = true := by simp; omega
    clear hz
    go_wp2_with fail
    refine (Seek_cur b _ _ w1 H1.out).mono ?_
    rintro e w5 ⟨rfl, hcur, hch⟩
    rw [seekS_failed _ HF.out H.out.at_le] at hcur
    have H5 := Lib.hid hcur
    have HC5 := Lib.hid hch
    clear hcur hch
    go_wp2_with fail
    refine (Fail_cur b _ w5 H5.out).mono ?_
    rintro e w6 ⟨rfl, hcur, hch⟩
    rw [failS_of HF.out] at hcur
    have H6 := Lib.hid hcur
    have HC6 := Lib.hid hch
    clear hcur hch
    go_wp2
    rw [Exit.noGoto_ret]
    go_ret
    exact ⟨rfl, H6.out, (HC1.out.same HC5.out).same HC6.out⟩
  · have hz2 : ((s.l.length : Int) - ((s.at_ : Nat) : Int) == 0) = false := by simp; omega
    clear hz
    go_wp2_with fail
    refine (Number_cur b _ 1 w1 H1.out).mono ?_
    rintro e w2 ⟨rfl, hcur, hch⟩
    have e1 : numberS s 1 = s := by unfold numberS; rw [if_pos (by decide), takeS_no (canTake_failed 1 HF.out), failS_of HF.out]
    have e2 : numberV s 1 = 0 := by unfold numberV; rw [if_pos (by decide), takeL_no (canTake_failed 1 HF.out)]; unfold numOf; split <;> rfl
    rw [e1] at hcur
    rw [e2]
    have H2 := Lib.hid hcur
    have HE2 := Lib.hid (HE1.out.frame hch (by have := HB0.out; simp; omega))
    have HC2 := Lib.hid (HC1.out.same hch)
    clear e1 e2 hcur hch
    go_wp2_with fail
    refine (Err_bad b _ w2 HE2.out H2.out HF.out).mono ?_
    rintro e w3 ⟨rfl, hch⟩
    have H3 := Lib.hid (H2.out.frame hch)
    have HC3 := Lib.hid (HC2.out.then hch)
    clear hch
    go_wp2
    rw [Exit.noGoto_ret]
    go_ret
    exact ⟨rfl, H3.out, HC3.out⟩

/-- The number ahead, as Go's groups take it. -/
def ulebR (l : List UInt8) : Option (Int × Nat) := grp uOk uStep l 0 0
def slebR (l : List UInt8) : Option (Int × Nat) := grp sOk sStep l 0 0
def lebS (r : List UInt8 → Option (Int × Nat)) (s : CS) : CS := if s.failed then s else match r (s.l.drop s.at_) with | some (_, n) => { s with at_ := s.at_ + n } | none => failS s
def lebV (r : List UInt8 → Option (Int × Nat)) (s : CS) : Int := if s.failed then 0 else match r (s.l.drop s.at_) with | some (v, _) => v | none => 0

theorem Tryz.cfU (args : Array Value) (W : World) : (callFunc 116 args).run Tryz.prog W = .ok (.enter 116 args) W := by kernel_rfl
theorem Tryz.cfS (args : Array Value) (W : World) : (callFunc 98 args).run Tryz.prog W = .ok (.enter 98 args) W := by kernel_rfl


theorem Uleb_cur (b : Nat) (s : CS) (w : World) (hg : Env w) (h : CurB w b s) :
    Calls Tryz.prog 93 #[.pointer (some ⟨b, 0, none⟩)] w fun e w' => e = .returned (.int .u64 (lebV ulebR s)) ∧ CurB w' b (lebS ulebR s) ∧ Chg [b] w w' := by
  have hmf : ∀ (fn : Fn) (first cap : Array Value) (w : World), (Instr.makeFunc fn first cap).run Tryz.prog w = .ok (.func fn first cap) w := fun _ _ _ _ => rfl
  have H := Lib.hid (h.frame ((Chg.refl [] w).alloc (.cells #[.int .u64 0] 26)))
  have HG := Lib.hid (hg.frame ((Chg.refl [] w).alloc (.cells #[.int .u64 0] 26)) (by simp))
  have HN := Lib.hid (heap_alloc_eq w (.cells #[.int .u64 0] 26))
  have HLT := h.lt
  clear h hg
  cases hf : s.failed with
  | true =>
    have HF := Lib.hid hf
    clear hf
    go_enter Tryz.func93, Tryz.ntmps93
    go_wp2_with fail
    refine (groups_bad _ b s _ HG.out H.out HF.out).mono ?_
    rintro e w1 ⟨rfl, hcur, hch⟩
    have H1 := Lib.hid hcur
    have HC1 := Lib.hid hch
    clear hcur hch
    go_wp2
    go_ret
    exact ⟨by unfold lebV; rw [if_pos HF.out]; rfl, by unfold lebS; rw [if_pos HF.out]; exact H1.out, ((Chg.refl [b] w).alloc _).same HC1.out⟩
  | false =>
    have HF := Lib.hid hf
    clear hf
    go_enter Tryz.func93, Tryz.ntmps93
    go_wp2_with fail
    refine (groups_ok _ .u64 26 uOk uStep Tryz.cfU uclos (by decide) b w.heap.size s 0 _ HG.out H.out HF.out HN.out).mono ?_
    rintro e w1 ⟨rfl, hcur, hn, hch⟩
    have HV : Hid (lebV ulebR s = match ulebR (s.l.drop s.at_) with | some (v, _) => v | none => 0) := by
      apply Lib.hid
      unfold lebV; rw [if_neg (by rw [HF.out]; decide)]
    have H1 : Hid (CurB w1 b (lebS ulebR s)) := by
      apply Lib.hid
      unfold lebS; rw [if_neg (by rw [HF.out]; decide)]
      exact hcur
    have HC1 : Hid (Chg [b] w w1) := Lib.hid (((Chg.refl [b] w).alloc _).trans hch (by simp))
    have HR : Hid (grp uOk uStep (s.l.drop s.at_) 0 0 = ulebR (s.l.drop s.at_)) := Lib.hid rfl
    rw [HR.out] at hn
    rw [HR.out]
    clear hcur hch
    cases hr : ulebR (s.l.drop s.at_) with
    | none =>
      rw [hr] at HV
      clear hn hr
      go_wp2
      go_ret
      exact ⟨by rw [HV.out]; rfl, H1.out, HC1.out⟩
    | some p =>
      obtain ⟨v, n⟩ := p
      rw [hr] at HV hn
      have hc := cell_of_heap (hn v n rfl) 0
      simp only [List.getElem?_toArray, List.getElem?_cons_zero] at hc
      clear hn hr
      go_wp2
      go_ret
      exact ⟨by rw [HV.out]; rfl, H1.out, HC1.out⟩
theorem Sleb_cur (b : Nat) (s : CS) (w : World) (hg : Env w) (h : CurB w b s) :
    Calls Tryz.prog 72 #[.pointer (some ⟨b, 0, none⟩)] w fun e w' => e = .returned (.int .i64 (lebV slebR s)) ∧ CurB w' b (lebS slebR s) ∧ Chg [b] w w' := by
  have hmf : ∀ (fn : Fn) (first cap : Array Value) (w : World), (Instr.makeFunc fn first cap).run Tryz.prog w = .ok (.func fn first cap) w := fun _ _ _ _ => rfl
  have H := Lib.hid (h.frame ((Chg.refl [] w).alloc (.cells #[.int .i64 0] 2)))
  have HG := Lib.hid (hg.frame ((Chg.refl [] w).alloc (.cells #[.int .i64 0] 2)) (by simp))
  have HN := Lib.hid (heap_alloc_eq w (.cells #[.int .i64 0] 2))
  have HLT := h.lt
  clear h hg
  cases hf : s.failed with
  | true =>
    have HF := Lib.hid hf
    clear hf
    go_enter Tryz.func72, Tryz.ntmps72
    go_wp2_with fail
    refine (groups_bad _ b s _ HG.out H.out HF.out).mono ?_
    rintro e w1 ⟨rfl, hcur, hch⟩
    have H1 := Lib.hid hcur
    have HC1 := Lib.hid hch
    clear hcur hch
    go_wp2
    go_ret
    exact ⟨by unfold lebV; rw [if_pos HF.out]; rfl, by unfold lebS; rw [if_pos HF.out]; exact H1.out, ((Chg.refl [b] w).alloc _).same HC1.out⟩
  | false =>
    have HF := Lib.hid hf
    clear hf
    go_enter Tryz.func72, Tryz.ntmps72
    go_wp2_with fail
    refine (groups_ok _ .i64 2 sOk sStep Tryz.cfS sclos (by decide) b w.heap.size s 0 _ HG.out H.out HF.out HN.out).mono ?_
    rintro e w1 ⟨rfl, hcur, hn, hch⟩
    have HV : Hid (lebV slebR s = match slebR (s.l.drop s.at_) with | some (v, _) => v | none => 0) := by
      apply Lib.hid
      unfold lebV; rw [if_neg (by rw [HF.out]; decide)]
    have H1 : Hid (CurB w1 b (lebS slebR s)) := by
      apply Lib.hid
      unfold lebS; rw [if_neg (by rw [HF.out]; decide)]
      exact hcur
    have HC1 : Hid (Chg [b] w w1) := Lib.hid (((Chg.refl [b] w).alloc _).trans hch (by simp))
    have HR : Hid (grp sOk sStep (s.l.drop s.at_) 0 0 = slebR (s.l.drop s.at_)) := Lib.hid rfl
    rw [HR.out] at hn
    rw [HR.out]
    clear hcur hch
    cases hr : slebR (s.l.drop s.at_) with
    | none =>
      rw [hr] at HV
      clear hn hr
      go_wp2
      go_ret
      exact ⟨by rw [HV.out]; rfl, H1.out, HC1.out⟩
    | some p =>
      obtain ⟨v, n⟩ := p
      rw [hr] at HV hn
      have hc := cell_of_heap (hn v n rfl) 0
      simp only [List.getElem?_toArray, List.getElem?_cons_zero] at hc
      clear hn hr
      go_wp2
      go_ret
      exact ⟨by rw [HV.out]; rfl, H1.out, HC1.out⟩
end Go.Proofs.YtkomocgodljecaaGreatDoor
/- A cursor stays across a write to blocks behind its own. -/
namespace Go.Proofs.YtkomocgodljecaaGreatDoor
open Go.RowKit

theorem CurB.far2 {w w' : World} {b : Nat} {s : CS} (h : CurB w b s) {S : List Nat} (k : Chg S w w') (hS : ∀ i ∈ S, b < i) : CurB w' b s := by
  obtain ⟨a, n, cap, hb, h1, h2, h3, h4, h5, h6⟩ := h
  refine ⟨a, n, cap, k.heap hb (fun hm => by have := hS b hm; omega), h1, h2, h3, h4, h5, fun hn => ?_⟩
  obtain ⟨d, off, c, ha, hdb, hd, hc⟩ := h6 hn
  have hdS : d ∉ S := fun hm => by have := hS d hm; omega
  exact ⟨d, off, c, ha, hdb, k.heap hd hdS, fun j hj => k.cell (hc j hj) hdS⟩
end Go.Proofs.YtkomocgodljecaaGreatDoor
/- bind: refuse, number, on, end, the ordinals, the place. -/
namespace Go.Proofs.YtkomocgodljecaaGreatDoor
open Go.RowKit
set_option maxRecDepth 100000

theorem refuse_ok (n : Int) (w : World) : Calls Tryz.prog 33 #[.bool false, .int .i64 n] w fun e w' => e = .returned (.tuple #[]) ∧ w' = w := by
  go_enter Tryz.func33, Tryz.ntmps33
  go_wp2
  go_end0
  exact ⟨rfl, rfl⟩
/-- What ends a stream. -/
def stopB (n : Int) : Ending := .panicked [{ v := .iface 65 (.agg #[.int .i64 n]), recovered := false }]
theorem refuse_bad (n : Int) (w : World) : Calls Tryz.prog 33 #[.bool true, .int .i64 n] w fun e w' => e = stopB n ∧ w' = w := by
  go_enter Tryz.func33, Tryz.ntmps33
  go_wp2
  exact ⟨rfl, rfl, rfl⟩
theorem number_ok (b bc n : Nat) (r : Brd) (s : CS) (hc : r.c = some ⟨bc, 0, none⟩) (hlt : bc < b) (hf : (lebS ulebR s).failed = false) (hv : lebV ulebR s = n) (w : World) (hg : Env w) (hcur : CurB w bc s) (hb : brdL.Box w b r) :
    Calls Tryz.prog 69 #[.pointer (some ⟨b, 0, none⟩)] w fun e w' => e = .returned (.int .u64 n) ∧ CurB w' bc (lebS ulebR s) ∧ Chg [bc] w w' := by
  have HER := Lib.hid (fun w hcur => Err_ok bc (lebS ulebR s) w hcur hf)
  have HUL := Lib.hid (fun w hg hcur => Uleb_cur bc s w hg hcur)
  rw [hv] at HUL
  have x0 := Brd.c_c hb
  rw [hc] at x0
  have Hcur := Lib.hid hcur
  have Hb := Lib.hid hb
  have Hg := Lib.hid hg
  have Hf := Lib.hid hf
  have Hv := Lib.hid hv
  clear hcur hb hg hf hv
  go_enter Tryz.func69, Tryz.ntmps69
  go_wp2_with fail
  refine (HUL.out _ Hg.out Hcur.out).mono ?_
  rintro e W1 ⟨rfl, hc1, h1⟩
  have B1 := Lib.hid (Hb.out.frameS h1 (by simp; omega))
  replace x0 := Brd.c_c B1.out
  rw [hc] at x0
  have CU1 := Lib.hid hc1
  have C1 := Lib.hid h1
  clear hc1 h1
  go_wp2_with fail
  refine (HER.out _ CU1.out).mono ?_
  rintro e W2 ⟨rfl, h2⟩
  have CU2 := Lib.hid (CU1.out.frame h2)
  have C2 := Lib.hid (C1.out.then h2)
  clear h2 x0
  go_wp2_with fail
  refine (refuse_ok 3 _).mono ?_
  rintro e W3 ⟨rfl, rfl⟩
  go_wp2
  go_ret
  exact ⟨rfl, CU2.out, C2.out⟩
theorem Add64_runB (x y : Nat) (w : World) : (callFunc 99 #[.int .u64 x, .int .u64 y, .int .u64 0]).run Tryz.prog w =
    .ok (.value (.tuple #[.int .u64 (((x + y) % 18446744073709551616 : Nat) : Int), .int .u64 (((x + y) / 18446744073709551616 : Nat) : Int)])) w := by
  rw [run_callFunc_extern Tryz.func99 (by kernel_rfl) (by kernel_rfl) (by kernel_rfl) (e := add64Entry) (by kernel_rfl)]
  have := run_add64 (P := Tryz.prog) x y 0 (by omega) (by omega) (by omega) (by omega) w
  rw [this]
  simp only [Result.andThen]
  congr 5 <;> omega
theorem on_ok (b : Nat) (r : Brd) (A n : Nat) (hA : r.f.at_ = A) (h : A + n < 18446744073709551616) (w : World) (hb : brdL.Box w b r) :
    Calls Tryz.prog 74 #[.pointer (some ⟨b, 0, none⟩), .int .u64 n] w fun e w' => e = .returned (.tuple #[]) ∧ brdL.Box w' b { r with f := { r.f with at_ := ((A + n : Nat) : Int) } } ∧ Chg [b] w w' := by
  have hr := Add64_runB A n
  rw [Nat.mod_eq_of_lt h, Nat.div_eq_of_lt h] at hr
  have x3 := Brd.c_at hb
  have z3 := hb.frozen 27
  rw [hA] at x3
  have Hr := Lib.hid hr
  have Hb := Lib.hid hb
  have HA := Lib.hid hA
  have H := Lib.hid h
  clear hr hb hA h
  obtain ⟨B, hB⟩ : ∃ B : Nat, B = A + n := ⟨_, rfl⟩
  rw [← hB] at Hr ⊢
  have hr2 := fun w => Hr.out w
  clear hB
  go_enter Tryz.func74, Tryz.ntmps74
  go_wp2_with fail
  refine (refuse_ok 4 _).mono ?_
  rintro e W3 ⟨rfl, rfl⟩
  go_wp2
  go_end0
  exact ⟨rfl, Brd.set_at Hb.out _, (Chg.refl [b] _).setCell _ _ (.inl (by simp))⟩
theorem end_ok (b : Nat) (r : Brd) (hk : r.kind = 1) (w : World) (hb : brdL.Box w b r) :
    Calls Tryz.prog 48 #[.pointer (some ⟨b, 0, none⟩)] w fun e w' => e = .returned (.tuple #[]) ∧ brdL.Box w' b { r with ended := true } ∧ Chg [b] w w' := by
  have x3 := Brd.c_kind hb
  rw [hk] at x3
  have x7 := Brd.c_ended hb
  have z7 := hb.frozen 37
  have Hb := Lib.hid hb
  have Hk := Lib.hid hk
  clear hb hk
  go_enter Tryz.func48, Tryz.ntmps48
  go_wp2
  go_end0
  exact ⟨rfl, Brd.set_ended Hb.out _, (Chg.refl [b] _).setCell _ _ (.inl (by simp))⟩
theorem setOrd_ok (b n : Nat) (r : Brd) (hk : r.kind = 1) (hn : n ≤ r.m.deps.n) (hn2 : n ≤ 1000) (hd2 : r.m.deps.n ≤ 1000) (w : World) (hb : brdL.Box w b r) :
    Calls Tryz.prog 68 #[.pointer (some ⟨b, 0, none⟩), .int .u64 n] w fun e w' => e = .returned (.tuple #[]) ∧ brdL.Box w' b { r with f := { r.f with ord := (n : Int) } } ∧ Chg [b] w w' := by
  have x3 := Brd.c_kind hb
  rw [hk] at x3
  have x6 : w.cell? ⟨b, 6, none⟩ = some (.slice r.m.deps.a r.m.deps.n r.m.deps.cap) := by have := hb.in 6 (by decide); rw [Nat.zero_add] at this; exact this
  have x7 := Brd.c_ord hb
  have z7 := hb.frozen 30
  obtain ⟨d, hd⟩ : ∃ d, r.m.deps.n = d := ⟨_, rfl⟩
  rw [hd] at x6 hn hd2
  have hw1 : IntKind.u64.wrap (d : Int) = (d : Int) := by rw [IntKind.wrap_u64]; omega
  have hw2 : IntKind.i64.wrap (n : Int) = (n : Int) := by rw [IntKind.wrap_i64]; omega
  have d1 : decide (d < n) = false := by simp; omega
  have Hb := Lib.hid hb
  have Hk := Lib.hid hk
  have Hd := Lib.hid hd
  clear hb hk hd
  go_enter Tryz.func68, Tryz.ntmps68
  go_wp2_with fail
  refine (refuse_ok 14 _).mono ?_
  rintro e W3 ⟨rfl, rfl⟩
  go_wp2_with fail
  refine (refuse_ok 22 _).mono ?_
  rintro e W3 ⟨rfl, rfl⟩
  go_wp2
  go_end0
  exact ⟨rfl, Brd.set_ord Hb.out _, (Chg.refl [b] _).setCell _ _ (.inl (by simp))⟩
theorem ordinal_ok (b n : Nat) (r : Brd) (hk : r.kind = 1) (hi : r.imm = n) (hn : n ≤ r.m.deps.n) (hn2 : n ≤ 1000) (hd2 : r.m.deps.n ≤ 1000) (w : World) (hb : brdL.Box w b r) :
    Calls Tryz.prog 49 #[.pointer (some ⟨b, 0, none⟩)] w fun e w' => e = .returned (.tuple #[]) ∧ brdL.Box w' b { r with f := { r.f with ord := (n : Int) } } ∧ Chg [b] w w' := by
  have x3 := Brd.c_imm hb
  rw [hi] at x3
  have hw1 : IntKind.u64.wrap (n : Int) = (n : Int) := by rw [IntKind.wrap_u64]; omega
  have HSO := Lib.hid (setOrd_ok b n r hk hn hn2 hd2 w hb)
  have Hb := Lib.hid hb
  have Hk := Lib.hid hk
  have Hi := Lib.hid hi
  have Hn := Lib.hid hn
  clear hb hk hi hn
  go_enter Tryz.func49, Tryz.ntmps49
  go_wp2_with fail
  refine HSO.out.mono ?_
  rintro e W1 ⟨rfl, h1, h2⟩
  have H1 := Lib.hid h1
  have H2 := Lib.hid h2
  clear h1 h2
  go_wp2
  go_end0
  exact ⟨rfl, H1.out, H2.out⟩
end Go.Proofs.YtkomocgodljecaaGreatDoor
