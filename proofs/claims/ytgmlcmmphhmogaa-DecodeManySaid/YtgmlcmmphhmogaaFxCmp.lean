/- cmp.Compare, the parts of fixup.Order, clevisref12.Less, fixup.Order. -/
import Derived.Test.YtgmlcmmphhmogaaFxOrd
import Derived.Sort.Grow
namespace Go.Proofs.Ytgmlcmmphhmogaa
open Go.RowKit
set_option maxRecDepth 100000

/-- Draws, and blocks behind a world, alone. -/
def Gr (a b : World) : Prop := ∃ q os, b = Go.Sort.grow (a.drewN q) os
theorem Gr.refl (a : World) : Gr a a := ⟨0, #[], by rw [Go.Sort.grow_empty]; rfl⟩
theorem Gr.trans {a b c : World} (h : Gr a b) (k : Gr b c) : Gr a c := by
  obtain ⟨q, os, rfl⟩ := h
  obtain ⟨r, os', rfl⟩ := k
  refine ⟨q + r, os ++ os', ?_⟩
  rw [show (Go.Sort.grow (a.drewN q) os).drewN r = Go.Sort.grow (a.drewN (q + r)) os from by simp [Go.Sort.grow, World.drewN, Nat.add_assoc], Go.Sort.grow_grow]
theorem Gr.alloc {a b : World} (h : Gr a b) (o : Obj) : Gr a (b.alloc o) := h.trans ⟨0, #[o], by rw [Go.Sort.alloc_eq_grow]; rfl⟩
theorem Gr.chg {a b : World} (h : Gr a b) : Chg [] a b := by
  obtain ⟨q, os, rfl⟩ := h
  refine ⟨rfl, rfl, rfl, ?_, fun k hk _ => ?_⟩
  · simp [Go.Sort.grow, World.drewN]
  · show (a.heap ++ os)[k]? = _
    rw [Array.getElem?_append_left hk]
theorem Gr.drew {a b : World} (h : Gr a b) : Gr a b.drew := h.trans ⟨1, #[], by rw [Go.Sort.grow_empty]; rfl⟩

theorem nan_u (x : Int) (w : World) : Calls Try.prog 46 #[.int .u64 x] w fun e w' => e = .returned (.bool false) ∧ w = w' := by
  have h : (x != x) = false := by simp
  go_enter Try.func46, Try.ntmps46
  go_wp2
  go_ret
  exact ⟨rfl, rfl⟩
theorem cmp_u (x y : Int) (w : World) : Calls Try.prog 24 #[.int .u64 x, .int .u64 y] w fun e w' => e = .returned (.int .i64 (cmpI x y)) ∧ w = w' := by
  obtain ⟨r, hr⟩ : ∃ r, r = cmpI x y := ⟨_, rfl⟩
  rw [← hr]
  unfold cmpI at hr
  go_enter Try.func24, Try.ntmps24
  go_wp2_with fail
  refine (nan_u x w).mono ?_
  rintro e w1 ⟨rfl, rfl⟩
  go_wp2_with fail
  refine (nan_u y w).mono ?_
  rintro e w1 ⟨rfl, rfl⟩
  by_cases h1 : x < y
  · rw [if_pos h1] at hr
    subst hr
    have d1 : decide (x < y) = true := by simpa using h1
    clear h1
    go_wp2
    go_ret
    exact ⟨rfl, rfl⟩
  · rw [if_neg h1] at hr
    have d1 : decide (x < y) = false := by simpa using h1
    by_cases h2 : y < x
    · rw [if_pos h2] at hr
      subst hr
      have d2 : decide (y < x) = true := by simpa using h2
      clear h1 h2
      go_wp2
      go_ret
      exact ⟨rfl, rfl⟩
    · rw [if_neg h2] at hr
      subst hr
      have d2 : decide (y < x) = false := by simpa using h2
      clear h1 h2
      go_wp2
      go_ret
      exact ⟨rfl, rfl⟩
theorem nan_k (x : Int) (w : World) : Calls Try.prog 47 #[.int .i64 x] w fun e w' => e = .returned (.bool false) ∧ w = w' := by
  have h : (x != x) = false := by simp
  go_enter Try.func47, Try.ntmps47
  go_wp2
  go_ret
  exact ⟨rfl, rfl⟩
theorem cmp_k (x y : Int) (w : World) : Calls Try.prog 26 #[.int .i64 x, .int .i64 y] w fun e w' => e = .returned (.int .i64 (cmpI x y)) ∧ w = w' := by
  obtain ⟨r, hr⟩ : ∃ r, r = cmpI x y := ⟨_, rfl⟩
  rw [← hr]
  unfold cmpI at hr
  go_enter Try.func26, Try.ntmps26
  go_wp2_with fail
  refine (nan_k x w).mono ?_
  rintro e w1 ⟨rfl, rfl⟩
  go_wp2_with fail
  refine (nan_k y w).mono ?_
  rintro e w1 ⟨rfl, rfl⟩
  by_cases h1 : x < y
  · rw [if_pos h1] at hr
    subst hr
    have d1 : decide (x < y) = true := by simpa using h1
    clear h1
    go_wp2
    go_ret
    exact ⟨rfl, rfl⟩
  · rw [if_neg h1] at hr
    have d1 : decide (x < y) = false := by simpa using h1
    by_cases h2 : y < x
    · rw [if_pos h2] at hr
      subst hr
      have d2 : decide (y < x) = true := by simpa using h2
      clear h1 h2
      go_wp2
      go_ret
      exact ⟨rfl, rfl⟩
    · rw [if_neg h2] at hr
      subst hr
      have d2 : decide (y < x) = false := by simpa using h2
      clear h1 h2
      go_wp2
      go_ret
      exact ⟨rfl, rfl⟩
theorem nan_i (x : Int) (w : World) : Calls Try.prog 48 #[.int .i64 x] w fun e w' => e = .returned (.bool false) ∧ w = w' := by
  have h : (x != x) = false := by simp
  go_enter Try.func48, Try.ntmps48
  go_wp2
  go_ret
  exact ⟨rfl, rfl⟩
theorem cmp_i (x y : Int) (w : World) : Calls Try.prog 29 #[.int .i64 x, .int .i64 y] w fun e w' => e = .returned (.int .i64 (cmpI x y)) ∧ w = w' := by
  obtain ⟨r, hr⟩ : ∃ r, r = cmpI x y := ⟨_, rfl⟩
  rw [← hr]
  unfold cmpI at hr
  go_enter Try.func29, Try.ntmps29
  go_wp2_with fail
  refine (nan_i x w).mono ?_
  rintro e w1 ⟨rfl, rfl⟩
  go_wp2_with fail
  refine (nan_i y w).mono ?_
  rintro e w1 ⟨rfl, rfl⟩
  by_cases h1 : x < y
  · rw [if_pos h1] at hr
    subst hr
    have d1 : decide (x < y) = true := by simpa using h1
    clear h1
    go_wp2
    go_ret
    exact ⟨rfl, rfl⟩
  · rw [if_neg h1] at hr
    have d1 : decide (x < y) = false := by simpa using h1
    by_cases h2 : y < x
    · rw [if_pos h2] at hr
      subst hr
      have d2 : decide (y < x) = true := by simpa using h2
      clear h1 h2
      go_wp2
      go_ret
      exact ⟨rfl, rfl⟩
    · rw [if_neg h2] at hr
      subst hr
      have d2 : decide (y < x) = false := by simpa using h2
      clear h1 h2
      go_wp2
      go_ret
      exact ⟨rfl, rfl⟩
theorem nan_l (x : Int) (w : World) : Calls Try.prog 50 #[.int .i64 x] w fun e w' => e = .returned (.bool false) ∧ w = w' := by
  have h : (x != x) = false := by simp
  go_enter Try.func50, Try.ntmps50
  go_wp2
  go_ret
  exact ⟨rfl, rfl⟩
theorem cmp_l (x y : Int) (w : World) : Calls Try.prog 33 #[.int .i64 x, .int .i64 y] w fun e w' => e = .returned (.int .i64 (cmpI x y)) ∧ w = w' := by
  obtain ⟨r, hr⟩ : ∃ r, r = cmpI x y := ⟨_, rfl⟩
  rw [← hr]
  unfold cmpI at hr
  go_enter Try.func33, Try.ntmps33
  go_wp2_with fail
  refine (nan_l x w).mono ?_
  rintro e w1 ⟨rfl, rfl⟩
  go_wp2_with fail
  refine (nan_l y w).mono ?_
  rintro e w1 ⟨rfl, rfl⟩
  by_cases h1 : x < y
  · rw [if_pos h1] at hr
    subst hr
    have d1 : decide (x < y) = true := by simpa using h1
    clear h1
    go_wp2
    go_ret
    exact ⟨rfl, rfl⟩
  · rw [if_neg h1] at hr
    have d1 : decide (x < y) = false := by simpa using h1
    by_cases h2 : y < x
    · rw [if_pos h2] at hr
      subst hr
      have d2 : decide (y < x) = true := by simpa using h2
      clear h1 h2
      go_wp2
      go_ret
      exact ⟨rfl, rfl⟩
    · rw [if_neg h2] at hr
      subst hr
      have d2 : decide (y < x) = false := by simpa using h2
      clear h1 h2
      go_wp2
      go_ret
      exact ⟨rfl, rfl⟩
theorem nan_s (x : ByteArray) (w : World) : Calls Try.prog 49 #[.string x] w fun e w' => e = .returned (.bool false) ∧ w = w' := by
  go_enter Try.func49, Try.ntmps49
  go_wp2
  go_ret
  exact ⟨by simp, rfl⟩
theorem cmp_s (x y : ByteArray) (w : World) : Calls Try.prog 31 #[.string x, .string y] w fun e w' => e = .returned (.int .i64 (cmpS x y)) ∧ w = w' := by
  obtain ⟨r, hr⟩ : ∃ r, r = cmpS x y := ⟨_, rfl⟩
  rw [← hr]
  unfold cmpS at hr
  cases h1 : Op.bytesLess x.toList y.toList with
  | true =>
    rw [h1, if_pos rfl] at hr
    subst hr
    go_enter Try.func31, Try.ntmps31
    go_wp2_with fail
    refine (nan_s x w).mono ?_
    rintro e w1 ⟨rfl, rfl⟩
    go_wp2_with fail
    refine (nan_s y w).mono ?_
    rintro e w1 ⟨rfl, rfl⟩
    go_wp2
    go_ret
    exact ⟨rfl, rfl⟩
  | false =>
    rw [h1, if_neg (by decide)] at hr
    cases h2 : Op.bytesLess y.toList x.toList with
    | true =>
      rw [h2, if_pos rfl] at hr
      subst hr
      have h3 : (x.toList == y.toList) = false := by
        refine beq_eq_false_iff_ne.2 (fun e => ?_)
        rw [e, bl_irrefl] at h2
        cases h2
      clear h2
      go_enter Try.func31, Try.ntmps31
      go_wp2_with fail
      refine (nan_s x w).mono ?_
      rintro e w1 ⟨rfl, rfl⟩
      go_wp2_with fail
      refine (nan_s y w).mono ?_
      rintro e w1 ⟨rfl, rfl⟩
      go_wp2
      go_ret
      exact ⟨rfl, rfl⟩
    | false =>
      rw [h2, if_neg (by decide)] at hr
      subst hr
      have h3 : (x.toList == y.toList) = true := by rw [bl_tri _ _ h1 h2]; simp
      clear h2
      go_enter Try.func31, Try.ntmps31
      go_wp2_with fail
      refine (nan_s x w).mono ?_
      rintro e w1 ⟨rfl, rfl⟩
      go_wp2_with fail
      refine (nan_s y w).mono ?_
      rintro e w1 ⟨rfl, rfl⟩
      go_wp2
      go_ret
      exact ⟨rfl, rfl⟩
theorem part_1 (a b : Fx) (w : World) : Calls Try.prog 23 #[a.v, b.v] w fun e w' => e = .returned (.int .i64 (cmpI a.at_ b.at_)) ∧ Gr w w' := by
  unfold Fx.v
  go_enter Try.func23, Try.ntmps23
  go_wp2_with fail
  refine (cmp_u a.at_ b.at_ _).mono ?_
  rintro e w1 ⟨rfl, rfl⟩
  go_wp2
  go_ret
  exact ⟨rfl, ((Gr.refl _).alloc _).alloc _⟩
theorem part_2 (a b : Fx) (w : World) : Calls Try.prog 25 #[a.v, b.v] w fun e w' => e = .returned (.int .i64 (cmpI a.kind b.kind)) ∧ Gr w w' := by
  unfold Fx.v
  go_enter Try.func25, Try.ntmps25
  go_wp2_with fail
  refine (cmp_k a.kind b.kind _).mono ?_
  rintro e w1 ⟨rfl, rfl⟩
  go_wp2
  go_ret
  exact ⟨rfl, ((Gr.refl _).alloc _).alloc _⟩
theorem part_3 (a b : Fx) (w : World) : Calls Try.prog 27 #[a.v, b.v] w fun e w' => e = .returned (.int .i64 (cmpI a.tgt b.tgt)) ∧ Gr w w' := by
  unfold Fx.v
  go_enter Try.func27, Try.ntmps27
  go_wp2_with fail
  refine (cmp_u a.tgt b.tgt _).mono ?_
  rintro e w1 ⟨rfl, rfl⟩
  go_wp2
  go_ret
  exact ⟨rfl, ((Gr.refl _).alloc _).alloc _⟩
theorem part_4 (a b : Fx) (w : World) : Calls Try.prog 28 #[a.v, b.v] w fun e w' => e = .returned (.int .i64 (cmpI a.ord b.ord)) ∧ Gr w w' := by
  unfold Fx.v
  go_enter Try.func28, Try.ntmps28
  go_wp2_with fail
  refine (cmp_i a.ord b.ord _).mono ?_
  rintro e w1 ⟨rfl, rfl⟩
  go_wp2
  go_ret
  exact ⟨rfl, ((Gr.refl _).alloc _).alloc _⟩
theorem part_5 (a b : Fx) (w : World) : Calls Try.prog 30 #[a.v, b.v] w fun e w' => e = .returned (.int .i64 (cmpS a.sym b.sym)) ∧ Gr w w' := by
  unfold Fx.v
  go_enter Try.func30, Try.ntmps30
  go_wp2_with fail
  refine (cmp_s a.sym b.sym _).mono ?_
  rintro e w1 ⟨rfl, rfl⟩
  go_wp2
  go_ret
  exact ⟨rfl, ((Gr.refl _).alloc _).alloc _⟩
theorem part_6 (a b : Fx) (w : World) : Calls Try.prog 32 #[a.v, b.v] w fun e w' => e = .returned (.int .i64 (cmpI a.add b.add)) ∧ Gr w w' := by
  unfold Fx.v
  go_enter Try.func32, Try.ntmps32
  go_wp2_with fail
  refine (cmp_l a.add b.add _).mono ?_
  rintro e w1 ⟨rfl, rfl⟩
  go_wp2
  go_ret
  exact ⟨rfl, ((Gr.refl _).alloc _).alloc _⟩
theorem weight_any (a : Fx) (w : World) : Calls Try.prog 35 #[a.v] w fun e w' => e = .returned (.int .i64 (wt a.weak)) ∧ Gr w w' := by
  unfold Fx.v
  cases hw : a.weak with
  | true =>
    go_enter Try.func35, Try.ntmps35
    go_wp2
    go_ret
    exact ⟨rfl, (Gr.refl _).alloc _⟩
  | false =>
    go_enter Try.func35, Try.ntmps35
    go_wp2
    go_ret
    exact ⟨rfl, (Gr.refl _).alloc _⟩
end Go.Proofs.Ytgmlcmmphhmogaa
