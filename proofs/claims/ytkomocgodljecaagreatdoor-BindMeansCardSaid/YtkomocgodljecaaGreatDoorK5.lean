/- Lemmas, laid together: part 5 of 41. Conditions: none but each lemma's own. -/
import Derived.Test.YtkomocgodljecaaGreatDoorK4
import Derived.Sort.Grow
/- cmp.Compare, the parts of fixup.Order, clevisref12.Less, fixup.Order. -/
namespace Go.Proofs.YtkomocgodljecaaGreatDoor
open Go.RowKit
set_option maxRecDepth 100000

/-- Draws, and blocks behind a world, alone. -/
def Gr (a b : World) : Prop := ∃ q os, b = Go.Sort.grow (a.drewN q) os
theorem Gr.refl (a : World) : Gr a a := ⟨0, #[], by rw [Go.Sort.grow_empty]; rfl⟩
theorem Gr.trans {a b c : World} (h : Gr a b) (k : Gr b c) : Gr a c := by
  obtain ⟨q, os, rfl⟩ := h
  obtain ⟨r, os', rfl⟩ := k
  refine ⟨q + r, os ++ os', ?_⟩
  rw [show (Go.Sort.grow (a.drewN q) os).drewN r = Go.Sort.grow (a.drewN (q + r)) os from by simp [Go.Sort.grow, World.drewN, Nat.add_assoc], Go.Sort.grow_grow]
theorem Gr.alloc {a b : World} (h : Gr a b) (o : Obj) : Gr a (b.alloc o) := h.trans ⟨0, #[o], by rw [Go.Sort.alloc_eq_grow]; rfl⟩
theorem Gr.chg {a b : World} (h : Gr a b) : Chg [] a b := by
  obtain ⟨q, os, rfl⟩ := h
  refine ⟨rfl, rfl, rfl, ?_, fun k hk _ => ?_⟩
  · simp [Go.Sort.grow, World.drewN]
  · show (a.heap ++ os)[k]? = _
    rw [Array.getElem?_append_left hk]
theorem Gr.drew {a b : World} (h : Gr a b) : Gr a b.drew := h.trans ⟨1, #[], by rw [Go.Sort.grow_empty]; rfl⟩

theorem nan_u (x : Int) (w : World) : Calls Tryz.prog 110 #[.int .u64 x] w fun e w' => e = .returned (.bool false) ∧ w = w' := by
  have h : (x != x) = false := by simp
  go_enter Tryz.func110, Tryz.ntmps110
  go_wp2
  go_ret
  exact ⟨rfl, rfl⟩
theorem cmp_u (x y : Int) (w : World) : Calls Tryz.prog 80 #[.int .u64 x, .int .u64 y] w fun e w' => e = .returned (.int .i64 (cmpI x y)) ∧ w = w' := by
  obtain ⟨r, hr⟩ : ∃ r, r = cmpI x y := ⟨_, rfl⟩
  rw [← hr]
  unfold cmpI at hr
  go_enter Tryz.func80, Tryz.ntmps80
  go_wp2_with fail
  refine (nan_u x w).mono ?_
  rintro e w1 ⟨rfl, rfl⟩
  go_wp2_with fail
  refine (nan_u y w).mono ?_
  rintro e w1 ⟨rfl, rfl⟩
  by_cases h1 : x < y
  · rw [if_pos h1] at hr
    subst hr
    have d1 : decide (x < y) = true := by simpa using h1
    clear h1
    go_wp2
    go_ret
    exact ⟨rfl, rfl⟩
  · rw [if_neg h1] at hr
    have d1 : decide (x < y) = false := by simpa using h1
    by_cases h2 : y < x
    · rw [if_pos h2] at hr
      subst hr
      have d2 : decide (y < x) = true := by simpa using h2
      clear h1 h2
      go_wp2
      go_ret
      exact ⟨rfl, rfl⟩
    · rw [if_neg h2] at hr
      subst hr
      have d2 : decide (y < x) = false := by simpa using h2
      clear h1 h2
      go_wp2
      go_ret
      exact ⟨rfl, rfl⟩
theorem nan_k (x : Int) (w : World) : Calls Tryz.prog 111 #[.int .i64 x] w fun e w' => e = .returned (.bool false) ∧ w = w' := by
  have h : (x != x) = false := by simp
  go_enter Tryz.func111, Tryz.ntmps111
  go_wp2
  go_ret
  exact ⟨rfl, rfl⟩
theorem cmp_k (x y : Int) (w : World) : Calls Tryz.prog 82 #[.int .i64 x, .int .i64 y] w fun e w' => e = .returned (.int .i64 (cmpI x y)) ∧ w = w' := by
  obtain ⟨r, hr⟩ : ∃ r, r = cmpI x y := ⟨_, rfl⟩
  rw [← hr]
  unfold cmpI at hr
  go_enter Tryz.func82, Tryz.ntmps82
  go_wp2_with fail
  refine (nan_k x w).mono ?_
  rintro e w1 ⟨rfl, rfl⟩
  go_wp2_with fail
  refine (nan_k y w).mono ?_
  rintro e w1 ⟨rfl, rfl⟩
  by_cases h1 : x < y
  · rw [if_pos h1] at hr
    subst hr
    have d1 : decide (x < y) = true := by simpa using h1
    clear h1
    go_wp2
    go_ret
    exact ⟨rfl, rfl⟩
  · rw [if_neg h1] at hr
    have d1 : decide (x < y) = false := by simpa using h1
    by_cases h2 : y < x
    · rw [if_pos h2] at hr
      subst hr
      have d2 : decide (y < x) = true := by simpa using h2
      clear h1 h2
      go_wp2
      go_ret
      exact ⟨rfl, rfl⟩
    · rw [if_neg h2] at hr
      subst hr
      have d2 : decide (y < x) = false := by simpa using h2
      clear h1 h2
      go_wp2
      go_ret
      exact ⟨rfl, rfl⟩
theorem nan_i (x : Int) (w : World) : Calls Tryz.prog 112 #[.int .i64 x] w fun e w' => e = .returned (.bool false) ∧ w = w' := by
  have h : (x != x) = false := by simp
  go_enter Tryz.func112, Tryz.ntmps112
  go_wp2
  go_ret
  exact ⟨rfl, rfl⟩
theorem cmp_i (x y : Int) (w : World) : Calls Tryz.prog 85 #[.int .i64 x, .int .i64 y] w fun e w' => e = .returned (.int .i64 (cmpI x y)) ∧ w = w' := by
  obtain ⟨r, hr⟩ : ∃ r, r = cmpI x y := ⟨_, rfl⟩
  rw [← hr]
  unfold cmpI at hr
  go_enter Tryz.func85, Tryz.ntmps85
  go_wp2_with fail
  refine (nan_i x w).mono ?_
  rintro e w1 ⟨rfl, rfl⟩
  go_wp2_with fail
  refine (nan_i y w).mono ?_
  rintro e w1 ⟨rfl, rfl⟩
  by_cases h1 : x < y
  · rw [if_pos h1] at hr
    subst hr
    have d1 : decide (x < y) = true := by simpa using h1
    clear h1
    go_wp2
    go_ret
    exact ⟨rfl, rfl⟩
  · rw [if_neg h1] at hr
    have d1 : decide (x < y) = false := by simpa using h1
    by_cases h2 : y < x
    · rw [if_pos h2] at hr
      subst hr
      have d2 : decide (y < x) = true := by simpa using h2
      clear h1 h2
      go_wp2
      go_ret
      exact ⟨rfl, rfl⟩
    · rw [if_neg h2] at hr
      subst hr
      have d2 : decide (y < x) = false := by simpa using h2
      clear h1 h2
      go_wp2
      go_ret
      exact ⟨rfl, rfl⟩
theorem nan_l (x : Int) (w : World) : Calls Tryz.prog 114 #[.int .i64 x] w fun e w' => e = .returned (.bool false) ∧ w = w' := by
  have h : (x != x) = false := by simp
  go_enter Tryz.func114, Tryz.ntmps114
  go_wp2
  go_ret
  exact ⟨rfl, rfl⟩
theorem cmp_l (x y : Int) (w : World) : Calls Tryz.prog 89 #[.int .i64 x, .int .i64 y] w fun e w' => e = .returned (.int .i64 (cmpI x y)) ∧ w = w' := by
  obtain ⟨r, hr⟩ : ∃ r, r = cmpI x y := ⟨_, rfl⟩
  rw [← hr]
  unfold cmpI at hr
  go_enter Tryz.func89, Tryz.ntmps89
  go_wp2_with fail
  refine (nan_l x w).mono ?_
  rintro e w1 ⟨rfl, rfl⟩
  go_wp2_with fail
  refine (nan_l y w).mono ?_
  rintro e w1 ⟨rfl, rfl⟩
  by_cases h1 : x < y
  · rw [if_pos h1] at hr
    subst hr
    have d1 : decide (x < y) = true := by simpa using h1
    clear h1
    go_wp2
    go_ret
    exact ⟨rfl, rfl⟩
  · rw [if_neg h1] at hr
    have d1 : decide (x < y) = false := by simpa using h1
    by_cases h2 : y < x
    · rw [if_pos h2] at hr
      subst hr
      have d2 : decide (y < x) = true := by simpa using h2
      clear h1 h2
      go_wp2
      go_ret
      exact ⟨rfl, rfl⟩
    · rw [if_neg h2] at hr
      subst hr
      have d2 : decide (y < x) = false := by simpa using h2
      clear h1 h2
      go_wp2
      go_ret
      exact ⟨rfl, rfl⟩
theorem nan_s (x : ByteArray) (w : World) : Calls Tryz.prog 113 #[.string x] w fun e w' => e = .returned (.bool false) ∧ w = w' := by
  go_enter Tryz.func113, Tryz.ntmps113
  go_wp2
  go_ret
  exact ⟨by simp, rfl⟩
theorem cmp_s (x y : ByteArray) (w : World) : Calls Tryz.prog 87 #[.string x, .string y] w fun e w' => e = .returned (.int .i64 (cmpS x y)) ∧ w = w' := by
  obtain ⟨r, hr⟩ : ∃ r, r = cmpS x y := ⟨_, rfl⟩
  rw [← hr]
  unfold cmpS at hr
  cases h1 : Op.bytesLess x.toList y.toList with
  | true =>
    rw [h1, if_pos rfl] at hr
    subst hr
    go_enter Tryz.func87, Tryz.ntmps87
    go_wp2_with fail
    refine (nan_s x w).mono ?_
    rintro e w1 ⟨rfl, rfl⟩
    go_wp2_with fail
    refine (nan_s y w).mono ?_
    rintro e w1 ⟨rfl, rfl⟩
    go_wp2
    go_ret
    exact ⟨rfl, rfl⟩
  | false =>
    rw [h1, if_neg (by decide)] at hr
    cases h2 : Op.bytesLess y.toList x.toList with
    | true =>
      rw [h2, if_pos rfl] at hr
      subst hr
      have h3 : (x.toList == y.toList) = false := by
        refine beq_eq_false_iff_ne.2 (fun e => ?_)
        rw [e, bl_irrefl] at h2
        cases h2
      clear h2
      go_enter Tryz.func87, Tryz.ntmps87
      go_wp2_with fail
      refine (nan_s x w).mono ?_
      rintro e w1 ⟨rfl, rfl⟩
      go_wp2_with fail
      refine (nan_s y w).mono ?_
      rintro e w1 ⟨rfl, rfl⟩
      go_wp2
      go_ret
      exact ⟨rfl, rfl⟩
    | false =>
      rw [h2, if_neg (by decide)] at hr
      subst hr
      have h3 : (x.toList == y.toList) = true := by rw [bl_tri _ _ h1 h2]; simp
      clear h2
      go_enter Tryz.func87, Tryz.ntmps87
      go_wp2_with fail
      refine (nan_s x w).mono ?_
      rintro e w1 ⟨rfl, rfl⟩
      go_wp2_with fail
      refine (nan_s y w).mono ?_
      rintro e w1 ⟨rfl, rfl⟩
      go_wp2
      go_ret
      exact ⟨rfl, rfl⟩
theorem part_1 (a b : Fx) (w : World) : Calls Tryz.prog 79 #[a.v, b.v] w fun e w' => e = .returned (.int .i64 (cmpI a.at_ b.at_)) ∧ Gr w w' := by
  unfold Fx.v
  go_enter Tryz.func79, Tryz.ntmps79
  go_wp2_with fail
  refine (cmp_u a.at_ b.at_ _).mono ?_
  rintro e w1 ⟨rfl, rfl⟩
  go_wp2
  go_ret
  exact ⟨rfl, ((Gr.refl _).alloc _).alloc _⟩
theorem part_2 (a b : Fx) (w : World) : Calls Tryz.prog 81 #[a.v, b.v] w fun e w' => e = .returned (.int .i64 (cmpI a.kind b.kind)) ∧ Gr w w' := by
  unfold Fx.v
  go_enter Tryz.func81, Tryz.ntmps81
  go_wp2_with fail
  refine (cmp_k a.kind b.kind _).mono ?_
  rintro e w1 ⟨rfl, rfl⟩
  go_wp2
  go_ret
  exact ⟨rfl, ((Gr.refl _).alloc _).alloc _⟩
theorem part_3 (a b : Fx) (w : World) : Calls Tryz.prog 83 #[a.v, b.v] w fun e w' => e = .returned (.int .i64 (cmpI a.tgt b.tgt)) ∧ Gr w w' := by
  unfold Fx.v
  go_enter Tryz.func83, Tryz.ntmps83
  go_wp2_with fail
  refine (cmp_u a.tgt b.tgt _).mono ?_
  rintro e w1 ⟨rfl, rfl⟩
  go_wp2
  go_ret
  exact ⟨rfl, ((Gr.refl _).alloc _).alloc _⟩
theorem part_4 (a b : Fx) (w : World) : Calls Tryz.prog 84 #[a.v, b.v] w fun e w' => e = .returned (.int .i64 (cmpI a.ord b.ord)) ∧ Gr w w' := by
  unfold Fx.v
  go_enter Tryz.func84, Tryz.ntmps84
  go_wp2_with fail
  refine (cmp_i a.ord b.ord _).mono ?_
  rintro e w1 ⟨rfl, rfl⟩
  go_wp2
  go_ret
  exact ⟨rfl, ((Gr.refl _).alloc _).alloc _⟩
theorem part_5 (a b : Fx) (w : World) : Calls Tryz.prog 86 #[a.v, b.v] w fun e w' => e = .returned (.int .i64 (cmpS a.sym b.sym)) ∧ Gr w w' := by
  unfold Fx.v
  go_enter Tryz.func86, Tryz.ntmps86
  go_wp2_with fail
  refine (cmp_s a.sym b.sym _).mono ?_
  rintro e w1 ⟨rfl, rfl⟩
  go_wp2
  go_ret
  exact ⟨rfl, ((Gr.refl _).alloc _).alloc _⟩
theorem part_6 (a b : Fx) (w : World) : Calls Tryz.prog 88 #[a.v, b.v] w fun e w' => e = .returned (.int .i64 (cmpI a.add b.add)) ∧ Gr w w' := by
  unfold Fx.v
  go_enter Tryz.func88, Tryz.ntmps88
  go_wp2_with fail
  refine (cmp_l a.add b.add _).mono ?_
  rintro e w1 ⟨rfl, rfl⟩
  go_wp2
  go_ret
  exact ⟨rfl, ((Gr.refl _).alloc _).alloc _⟩
theorem weight_any (a : Fx) (w : World) : Calls Tryz.prog 91 #[a.v] w fun e w' => e = .returned (.int .i64 (wt a.weak)) ∧ Gr w w' := by
  unfold Fx.v
  cases hw : a.weak with
  | true =>
    go_enter Tryz.func91, Tryz.ntmps91
    go_wp2
    go_ret
    exact ⟨rfl, (Gr.refl _).alloc _⟩
  | false =>
    go_enter Tryz.func91, Tryz.ntmps91
    go_wp2
    go_ret
    exact ⟨rfl, (Gr.refl _).alloc _⟩
end Go.Proofs.YtkomocgodljecaaGreatDoor
