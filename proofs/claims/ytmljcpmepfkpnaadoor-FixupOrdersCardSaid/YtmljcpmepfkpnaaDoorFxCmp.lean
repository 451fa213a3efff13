/- cmp.Compare, the parts of fixup.Order, clevisref12.Less, fixup.Order. -/
import Derived.Test.YtmljcpmepfkpnaaDoorFxOrd
namespace Go.Proofs.YtmljcpmepfkpnaaDoor
open Go.RowKit
set_option maxRecDepth 100000

theorem nan_u (x : Int) (w : World) : Calls Tryd.prog 29 #[.int .u64 x] w fun e w' => e = .returned (.bool false) ∧ w = w' := by
  have h : (x != x) = false := by simp
  go_enter Tryd.func29, Tryd.ntmps29
  go_wp2
  go_ret
  exact ⟨rfl, rfl⟩
theorem cmp_u (x y : Int) (w : World) : Calls Tryd.prog 11 #[.int .u64 x, .int .u64 y] w fun e w' => e = .returned (.int .i64 (cmpI x y)) ∧ w = w' := by
  obtain ⟨r, hr⟩ : ∃ r, r = cmpI x y := ⟨_, rfl⟩
  rw [← hr]
  unfold cmpI at hr
  go_enter Tryd.func11, Tryd.ntmps11
  go_wp2_with fail
  refine (nan_u x w).mono ?_
  rintro e w1 ⟨rfl, rfl⟩
  go_wp2_with fail
  refine (nan_u y w).mono ?_
  rintro e w1 ⟨rfl, rfl⟩
  by_cases h1 : x < y
  · rw [if_pos h1] at hr
    subst hr
    have d1 : decide (x < y) = true := by simpa using h1
    clear h1
    go_wp2
    go_ret
    exact ⟨rfl, rfl⟩
  · rw [if_neg h1] at hr
    have d1 : decide (x < y) = false := by simpa using h1
    by_cases h2 : y < x
    · rw [if_pos h2] at hr
      subst hr
      have d2 : decide (y < x) = true := by simpa using h2
      clear h1 h2
      go_wp2
      go_ret
      exact ⟨rfl, rfl⟩
    · rw [if_neg h2] at hr
      subst hr
      have d2 : decide (y < x) = false := by simpa using h2
      clear h1 h2
      go_wp2
      go_ret
      exact ⟨rfl, rfl⟩
theorem nan_k (x : Int) (w : World) : Calls Tryd.prog 30 #[.int .i64 x] w fun e w' => e = .returned (.bool false) ∧ w = w' := by
  have h : (x != x) = false := by simp
  go_enter Tryd.func30, Tryd.ntmps30
  go_wp2
  go_ret
  exact ⟨rfl, rfl⟩
theorem cmp_k (x y : Int) (w : World) : Calls Tryd.prog 13 #[.int .i64 x, .int .i64 y] w fun e w' => e = .returned (.int .i64 (cmpI x y)) ∧ w = w' := by
  obtain ⟨r, hr⟩ : ∃ r, r = cmpI x y := ⟨_, rfl⟩
  rw [← hr]
  unfold cmpI at hr
  go_enter Tryd.func13, Tryd.ntmps13
  go_wp2_with fail
  refine (nan_k x w).mono ?_
  rintro e w1 ⟨rfl, rfl⟩
  go_wp2_with fail
  refine (nan_k y w).mono ?_
  rintro e w1 ⟨rfl, rfl⟩
  by_cases h1 : x < y
  · rw [if_pos h1] at hr
    subst hr
    have d1 : decide (x < y) = true := by simpa using h1
    clear h1
    go_wp2
    go_ret
    exact ⟨rfl, rfl⟩
  · rw [if_neg h1] at hr
    have d1 : decide (x < y) = false := by simpa using h1
    by_cases h2 : y < x
    · rw [if_pos h2] at hr
      subst hr
      have d2 : decide (y < x) = true := by simpa using h2
      clear h1 h2
      go_wp2
      go_ret
      exact ⟨rfl, rfl⟩
    · rw [if_neg h2] at hr
      subst hr
      have d2 : decide (y < x) = false := by simpa using h2
      clear h1 h2
      go_wp2
      go_ret
      exact ⟨rfl, rfl⟩
theorem nan_i (x : Int) (w : World) : Calls Tryd.prog 31 #[.int .i64 x] w fun e w' => e = .returned (.bool false) ∧ w = w' := by
  have h : (x != x) = false := by simp
  go_enter Tryd.func31, Tryd.ntmps31
  go_wp2
  go_ret
  exact ⟨rfl, rfl⟩
theorem cmp_i (x y : Int) (w : World) : Calls Tryd.prog 16 #[.int .i64 x, .int .i64 y] w fun e w' => e = .returned (.int .i64 (cmpI x y)) ∧ w = w' := by
  obtain ⟨r, hr⟩ : ∃ r, r = cmpI x y := ⟨_, rfl⟩
  rw [← hr]
  unfold cmpI at hr
  go_enter Tryd.func16, Tryd.ntmps16
  go_wp2_with fail
  refine (nan_i x w).mono ?_
  rintro e w1 ⟨rfl, rfl⟩
  go_wp2_with fail
  refine (nan_i y w).mono ?_
  rintro e w1 ⟨rfl, rfl⟩
  by_cases h1 : x < y
  · rw [if_pos h1] at hr
    subst hr
    have d1 : decide (x < y) = true := by simpa using h1
    clear h1
    go_wp2
    go_ret
    exact ⟨rfl, rfl⟩
  · rw [if_neg h1] at hr
    have d1 : decide (x < y) = false := by simpa using h1
    by_cases h2 : y < x
    · rw [if_pos h2] at hr
      subst hr
      have d2 : decide (y < x) = true := by simpa using h2
      clear h1 h2
      go_wp2
      go_ret
      exact ⟨rfl, rfl⟩
    · rw [if_neg h2] at hr
      subst hr
      have d2 : decide (y < x) = false := by simpa using h2
      clear h1 h2
      go_wp2
      go_ret
      exact ⟨rfl, rfl⟩
theorem nan_l (x : Int) (w : World) : Calls Tryd.prog 33 #[.int .i64 x] w fun e w' => e = .returned (.bool false) ∧ w = w' := by
  have h : (x != x) = false := by simp
  go_enter Tryd.func33, Tryd.ntmps33
  go_wp2
  go_ret
  exact ⟨rfl, rfl⟩
theorem cmp_l (x y : Int) (w : World) : Calls Tryd.prog 20 #[.int .i64 x, .int .i64 y] w fun e w' => e = .returned (.int .i64 (cmpI x y)) ∧ w = w' := by
  obtain ⟨r, hr⟩ : ∃ r, r = cmpI x y := ⟨_, rfl⟩
  rw [← hr]
  unfold cmpI at hr
  go_enter Tryd.func20, Tryd.ntmps20
  go_wp2_with fail
  refine (nan_l x w).mono ?_
  rintro e w1 ⟨rfl, rfl⟩
  go_wp2_with fail
  refine (nan_l y w).mono ?_
  rintro e w1 ⟨rfl, rfl⟩
  by_cases h1 : x < y
  · rw [if_pos h1] at hr
    subst hr
    have d1 : decide (x < y) = true := by simpa using h1
    clear h1
    go_wp2
    go_ret
    exact ⟨rfl, rfl⟩
  · rw [if_neg h1] at hr
    have d1 : decide (x < y) = false := by simpa using h1
    by_cases h2 : y < x
    · rw [if_pos h2] at hr
      subst hr
      have d2 : decide (y < x) = true := by simpa using h2
      clear h1 h2
      go_wp2
      go_ret
      exact ⟨rfl, rfl⟩
    · rw [if_neg h2] at hr
      subst hr
      have d2 : decide (y < x) = false := by simpa using h2
      clear h1 h2
      go_wp2
      go_ret
      exact ⟨rfl, rfl⟩
theorem nan_s (x : ByteArray) (w : World) : Calls Tryd.prog 32 #[.string x] w fun e w' => e = .returned (.bool false) ∧ w = w' := by
  go_enter Tryd.func32, Tryd.ntmps32
  go_wp2
  go_ret
  exact ⟨by simp, rfl⟩
theorem cmp_s (x y : ByteArray) (w : World) : Calls Tryd.prog 18 #[.string x, .string y] w fun e w' => e = .returned (.int .i64 (cmpS x y)) ∧ w = w' := by
  obtain ⟨r, hr⟩ : ∃ r, r = cmpS x y := ⟨_, rfl⟩
  rw [← hr]
  unfold cmpS at hr
  cases h1 : Op.bytesLess x.toList y.toList with
  | true =>
    rw [h1, if_pos rfl] at hr
    subst hr
    go_enter Tryd.func18, Tryd.ntmps18
    go_wp2_with fail
    refine (nan_s x w).mono ?_
    rintro e w1 ⟨rfl, rfl⟩
    go_wp2_with fail
    refine (nan_s y w).mono ?_
    rintro e w1 ⟨rfl, rfl⟩
    go_wp2
    go_ret
    exact ⟨rfl, rfl⟩
  | false =>
    rw [h1, if_neg (by decide)] at hr
    cases h2 : Op.bytesLess y.toList x.toList with
    | true =>
      rw [h2, if_pos rfl] at hr
      subst hr
      have h3 : (x.toList == y.toList) = false := by
        refine beq_eq_false_iff_ne.2 (fun e => ?_)
        rw [e, bl_irrefl] at h2
        cases h2
      clear h2
      go_enter Tryd.func18, Tryd.ntmps18
      go_wp2_with fail
      refine (nan_s x w).mono ?_
      rintro e w1 ⟨rfl, rfl⟩
      go_wp2_with fail
      refine (nan_s y w).mono ?_
      rintro e w1 ⟨rfl, rfl⟩
      go_wp2
      go_ret
      exact ⟨rfl, rfl⟩
    | false =>
      rw [h2, if_neg (by decide)] at hr
      subst hr
      have h3 : (x.toList == y.toList) = true := by rw [bl_tri _ _ h1 h2]; simp
      clear h2
      go_enter Tryd.func18, Tryd.ntmps18
      go_wp2_with fail
      refine (nan_s x w).mono ?_
      rintro e w1 ⟨rfl, rfl⟩
      go_wp2_with fail
      refine (nan_s y w).mono ?_
      rintro e w1 ⟨rfl, rfl⟩
      go_wp2
      go_ret
      exact ⟨rfl, rfl⟩
theorem part_1 (a b : Fx) (w : World) : Calls Tryd.prog 10 #[a.v, b.v] w fun e w' => e = .returned (.int .i64 (cmpI a.at_ b.at_)) ∧ Chg [] w w' := by
  unfold Fx.v
  go_enter Tryd.func10, Tryd.ntmps10
  go_wp2_with fail
  refine (cmp_u a.at_ b.at_ _).mono ?_
  rintro e w1 ⟨rfl, rfl⟩
  go_wp2
  go_ret
  exact ⟨rfl, ((Chg.refl _ _).alloc _).alloc _⟩
theorem part_2 (a b : Fx) (w : World) : Calls Tryd.prog 12 #[a.v, b.v] w fun e w' => e = .returned (.int .i64 (cmpI a.kind b.kind)) ∧ Chg [] w w' := by
  unfold Fx.v
  go_enter Tryd.func12, Tryd.ntmps12
  go_wp2_with fail
  refine (cmp_k a.kind b.kind _).mono ?_
  rintro e w1 ⟨rfl, rfl⟩
  go_wp2
  go_ret
  exact ⟨rfl, ((Chg.refl _ _).alloc _).alloc _⟩
theorem part_3 (a b : Fx) (w : World) : Calls Tryd.prog 14 #[a.v, b.v] w fun e w' => e = .returned (.int .i64 (cmpI a.tgt b.tgt)) ∧ Chg [] w w' := by
  unfold Fx.v
  go_enter Tryd.func14, Tryd.ntmps14
  go_wp2_with fail
  refine (cmp_u a.tgt b.tgt _).mono ?_
  rintro e w1 ⟨rfl, rfl⟩
  go_wp2
  go_ret
  exact ⟨rfl, ((Chg.refl _ _).alloc _).alloc _⟩
theorem part_4 (a b : Fx) (w : World) : Calls Tryd.prog 15 #[a.v, b.v] w fun e w' => e = .returned (.int .i64 (cmpI a.ord b.ord)) ∧ Chg [] w w' := by
  unfold Fx.v
  go_enter Tryd.func15, Tryd.ntmps15
  go_wp2_with fail
  refine (cmp_i a.ord b.ord _).mono ?_
  rintro e w1 ⟨rfl, rfl⟩
  go_wp2
  go_ret
  exact ⟨rfl, ((Chg.refl _ _).alloc _).alloc _⟩
theorem part_5 (a b : Fx) (w : World) : Calls Tryd.prog 17 #[a.v, b.v] w fun e w' => e = .returned (.int .i64 (cmpS a.sym b.sym)) ∧ Chg [] w w' := by
  unfold Fx.v
  go_enter Tryd.func17, Tryd.ntmps17
  go_wp2_with fail
  refine (cmp_s a.sym b.sym _).mono ?_
  rintro e w1 ⟨rfl, rfl⟩
  go_wp2
  go_ret
  exact ⟨rfl, ((Chg.refl _ _).alloc _).alloc _⟩
theorem part_6 (a b : Fx) (w : World) : Calls Tryd.prog 19 #[a.v, b.v] w fun e w' => e = .returned (.int .i64 (cmpI a.add b.add)) ∧ Chg [] w w' := by
  unfold Fx.v
  go_enter Tryd.func19, Tryd.ntmps19
  go_wp2_with fail
  refine (cmp_l a.add b.add _).mono ?_
  rintro e w1 ⟨rfl, rfl⟩
  go_wp2
  go_ret
  exact ⟨rfl, ((Chg.refl _ _).alloc _).alloc _⟩
theorem weight_any (a : Fx) (w : World) : Calls Tryd.prog 22 #[a.v] w fun e w' => e = .returned (.int .i64 (wt a.weak)) ∧ Chg [] w w' := by
  unfold Fx.v
  cases hw : a.weak with
  | true =>
    go_enter Tryd.func22, Tryd.ntmps22
    go_wp2
    go_ret
    exact ⟨rfl, (Chg.refl _ _).alloc _⟩
  | false =>
    go_enter Tryd.func22, Tryd.ntmps22
    go_wp2
    go_ret
    exact ⟨rfl, (Chg.refl _ _).alloc _⟩
end Go.Proofs.YtmljcpmepfkpnaaDoor
