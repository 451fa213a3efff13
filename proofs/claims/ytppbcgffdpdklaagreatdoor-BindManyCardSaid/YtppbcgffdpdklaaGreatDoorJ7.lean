/- Lemmas, laid together: part 7 of 39. Conditions: none but each lemma's own. -/
import Derived.Test.YtppbcgffdpdklaaGreatDoorJ6
import Derived.Sort.Grow
/- The order of fixups (plain): comparisons, one behind the other. -/
namespace Go.Proofs.YtppbcgffdpdklaaGreatDoor
open Go.RowKit
set_option maxRecDepth 100000

/-- Which of two comes first. -/
structure IsCmp {α : Type} (c : α → α → Int) : Prop where
  anti : ∀ a b, c a b = - c b a
  one : ∀ a b, c a b = -1 ∨ c a b = 0 ∨ c a b = 1
  left : ∀ a b d, c a b = 0 → c a d = c b d
  trans : ∀ a b d, c a b ≤ 0 → c b d ≤ 0 → c a d ≤ 0
theorem IsCmp.right {α : Type} {c : α → α → Int} (h : IsCmp c) (a b d : α) (e : c a b = 0) : c d a = c d b := by
  rw [h.anti d a, h.anti d b, h.left a b d e]
def th (x y : Int) : Int := if x = 0 then y else x
theorem IsCmp.lex {α : Type} {c d : α → α → Int} (hc : IsCmp c) (hd : IsCmp d) : IsCmp fun a b => th (c a b) (d a b) := by
  refine ⟨fun a b => ?_, fun a b => ?_, fun a b x => ?_, fun a b x => ?_⟩
  · have h1 := hc.anti a b
    have h2 := hd.anti a b
    unfold th
    by_cases h : c a b = 0
    · rw [if_pos h, if_pos (by omega)]; exact h2
    · rw [if_neg h, if_neg (by omega)]; exact h1
  · have h1 := hc.one a b
    have h2 := hd.one a b
    unfold th
    split <;> assumption
  · unfold th
    intro h
    by_cases h0 : c a b = 0
    · rw [if_pos h0] at h
      rw [hc.left a b x h0, hd.left a b x h]
    · rw [if_neg h0] at h; exact absurd h h0
  · unfold th
    intro h1 h2
    have o1 := hc.one a b
    have o2 := hc.one b x
    have o3 := hc.one a x
    by_cases h0 : c a b = 0
    · rw [if_pos h0] at h1
      have e := hc.left a b x h0
      by_cases h3 : c b x = 0
      · rw [if_pos h3] at h2
        rw [if_pos (by omega)]
        exact hd.trans a b x h1 h2
      · rw [if_neg h3] at h2
        rw [if_neg (by omega)]
        omega
    · rw [if_neg h0] at h1
      by_cases h3 : c b x = 0
      · have e := hc.right b x a h3
        rw [if_neg (by omega)]
        omega
      · rw [if_neg h3] at h2
        have ht := hc.trans a b x h1 h2
        by_cases h4 : c a x = 0
        · have e := hc.left a x b h4
          have e2 := hc.anti x b
          omega
        · rw [if_neg h4]; exact ht
theorem IsCmp.by {α β : Type} {c : β → β → Int} (h : IsCmp c) (f : α → β) : IsCmp fun a b => c (f a) (f b) :=
  ⟨fun _ _ => h.anti _ _, fun _ _ => h.one _ _, fun _ _ _ => h.left _ _ _, fun _ _ _ => h.trans _ _ _⟩
def cmpI (x y : Int) : Int := if x < y then -1 else if y < x then 1 else 0
theorem cmpI_is : IsCmp cmpI := by
  refine ⟨fun a b => ?_, fun a b => ?_, fun a b d => ?_, fun a b d => ?_⟩ <;> unfold cmpI <;> (repeat' split) <;> omega
theorem cmpI_eq {x y : Int} : cmpI x y = 0 ↔ x = y := by unfold cmpI; (repeat' split) <;> omega
theorem bl_irrefl : ∀ l : List UInt8, Op.bytesLess l l = false
  | [] => rfl
  | a :: r => by simp [Op.bytesLess, bl_irrefl r]
theorem bl_asymm : ∀ l m : List UInt8, Op.bytesLess l m = true → Op.bytesLess m l = false
  | _, [], h => by simp [Op.bytesLess] at h
  | [], _ :: _, _ => by simp [Op.bytesLess]
  | a :: l, b :: m, h => by
    simp only [Op.bytesLess, Bool.or_eq_true, Bool.and_eq_true, decide_eq_true_eq, beq_iff_eq, Bool.or_eq_false_iff, decide_eq_false_iff_not, Bool.and_eq_false_iff, beq_eq_false_iff_ne] at h ⊢
    simp only [UInt8.lt_iff_toNat_lt, ← UInt8.toNat_inj, ne_eq] at h ⊢
    rcases h with h | ⟨h1, h2⟩
    · exact ⟨by omega, .inl (by omega)⟩
    · exact ⟨by omega, .inr (bl_asymm l m h2)⟩
theorem bl_tri : ∀ l m : List UInt8, Op.bytesLess l m = false → Op.bytesLess m l = false → l = m
  | [], [], _, _ => rfl
  | a :: l, [], _, h => by simp [Op.bytesLess] at h
  | [], _ :: _, h, _ => by simp [Op.bytesLess] at h
  | a :: l, b :: m, h, k => by
    simp only [Op.bytesLess, Bool.or_eq_false_iff, decide_eq_false_iff_not, Bool.and_eq_false_iff, beq_eq_false_iff_ne] at h k
    simp only [UInt8.lt_iff_toNat_lt, ← UInt8.toNat_inj, ne_eq] at h k
    have hab : a = b := UInt8.toNat_inj.1 (by omega)
    subst hab
    have h2 : Op.bytesLess l m = false := by rcases h.2 with h | h; · exact absurd rfl h
                                             · exact h
    have k2 : Op.bytesLess m l = false := by rcases k.2 with h | h; · exact absurd rfl h
                                             · exact h
    rw [bl_tri l m h2 k2]
theorem bl_trans : ∀ l m r : List UInt8, Op.bytesLess l m = true → Op.bytesLess m r = true → Op.bytesLess l r = true
  | _, [], _, h, _ => by simp [Op.bytesLess] at h
  | _, _ :: _, [], _, h => by simp [Op.bytesLess] at h
  | [], _ :: _, _ :: _, _, _ => by simp [Op.bytesLess]
  | a :: l, b :: m, c :: r, h, k => by
    simp only [Op.bytesLess, Bool.or_eq_true, Bool.and_eq_true, decide_eq_true_eq, beq_iff_eq] at h k ⊢
    simp only [UInt8.lt_iff_toNat_lt, ← UInt8.toNat_inj] at h k ⊢
    rcases h with h | ⟨h1, h2⟩
    · exact .inl (by rcases k with k | ⟨k, _⟩ <;> omega)
    · rcases k with k | ⟨k1, k2⟩
      · exact .inl (by omega)
      · exact .inr ⟨by omega, bl_trans l m r h2 k2⟩
def cmpS (x y : ByteArray) : Int := if Op.bytesLess x.toList y.toList then -1 else if Op.bytesLess y.toList x.toList then 1 else 0
theorem cmpS_is : IsCmp cmpS := by
  refine ⟨fun a b => ?_, fun a b => ?_, fun a b d => ?_, fun a b d => ?_⟩
  · unfold cmpS
    have h1 := bl_asymm a.toList b.toList
    have h2 := bl_asymm b.toList a.toList
    cases e1 : Op.bytesLess a.toList b.toList <;> cases e2 : Op.bytesLess b.toList a.toList <;> simp_all
  · unfold cmpS
    (repeat' split) <;> simp
  · unfold cmpS
    intro h
    have h3 := bl_tri a.toList b.toList
    have : a.toList = b.toList := by
      cases e1 : Op.bytesLess a.toList b.toList <;> cases e2 : Op.bytesLess b.toList a.toList <;> simp_all
    rw [this]
  · unfold cmpS
    intro h k
    cases e1 : Op.bytesLess b.toList a.toList with
    | true =>
      have := bl_asymm _ _ e1
      rw [this, e1] at h
      simp at h
    | false =>
      cases e2 : Op.bytesLess d.toList b.toList with
      | true =>
        have := bl_asymm _ _ e2
        rw [this, e2] at k
        simp at k
      | false =>
        have e3 : Op.bytesLess d.toList a.toList = false := by
          cases e : Op.bytesLess d.toList a.toList with
          | false => rfl
          | true =>
            cases e4 : Op.bytesLess a.toList b.toList with
            | true => rw [bl_trans _ _ _ e e4] at e2; cases e2
            | false => rw [bl_tri _ _ e4 e1] at e; rw [e] at e2; cases e2
        rw [e3]
        split <;> simp
theorem cmpS_eq {x y : ByteArray} : cmpS x y = 0 ↔ x = y := by
  constructor
  · intro h
    have : x.toList = y.toList := by
      refine bl_tri _ _ ?_ ?_ <;> unfold cmpS at h
      · cases e1 : Op.bytesLess x.toList y.toList <;> simp_all
      · cases e1 : Op.bytesLess x.toList y.toList <;> cases e2 : Op.bytesLess y.toList x.toList <;> simp_all
    rw [Lib.toList_data, Lib.toList_data] at this
    exact ByteArray.ext (Array.toList_inj.1 this)
  · rintro rfl
    unfold cmpS
    simp [bl_irrefl]

structure Fx where
  at_ : Int
  kind : Int
  tgt : Int
  ord : Int
  sym : ByteArray
  add : Int
  weak : Bool
def Fx.v (f : Fx) : Value := .agg #[.int .u64 f.at_, .int .i64 f.kind, .int .u64 f.tgt, .int .i64 f.ord, .string f.sym, .int .i64 f.add, .bool f.weak]
def wt (b : Bool) : Int := if b then 1 else 0
def ordF (a b : Fx) : Int := th (cmpI a.at_ b.at_) (th (cmpI a.kind b.kind) (th (cmpI a.tgt b.tgt) (th (cmpI a.ord b.ord) (th (cmpS a.sym b.sym) (th (cmpI a.add b.add) (cmpI (wt a.weak) (wt b.weak)))))))
theorem ordF_is : IsCmp ordF :=
  (cmpI_is.by Fx.at_).lex ((cmpI_is.by Fx.kind).lex ((cmpI_is.by Fx.tgt).lex ((cmpI_is.by Fx.ord).lex ((cmpS_is.by Fx.sym).lex ((cmpI_is.by Fx.add).lex (cmpI_is.by fun a : Fx => wt a.weak))))))
theorem th_eq {x y : Int} : th x y = 0 ↔ x = 0 ∧ y = 0 := by unfold th; split <;> omega
theorem wt_eq {x y : Bool} : wt x = wt y ↔ x = y := by cases x <;> cases y <;> decide
theorem ordF_eq {a b : Fx} : ordF a b = 0 ↔ a = b := by
  unfold ordF
  rw [th_eq, th_eq, th_eq, th_eq, th_eq, th_eq, cmpI_eq, cmpI_eq, cmpI_eq, cmpI_eq, cmpS_eq, cmpI_eq, cmpI_eq, wt_eq]
  cases a; cases b
  simp
end Go.Proofs.YtppbcgffdpdklaaGreatDoor
/- cmp.Compare, the parts of fixup.Order, clevisref12.Less, fixup.Order. -/
namespace Go.Proofs.YtppbcgffdpdklaaGreatDoor
open Go.RowKit
set_option maxRecDepth 100000

/-- Draws, and blocks behind a world, alone. -/
def Gr (a b : World) : Prop := ∃ q os, b = Go.Sort.grow (a.drewN q) os
theorem Gr.refl (a : World) : Gr a a := ⟨0, #[], by rw [Go.Sort.grow_empty]; rfl⟩
theorem Gr.trans {a b c : World} (h : Gr a b) (k : Gr b c) : Gr a c := by
  obtain ⟨q, os, rfl⟩ := h
  obtain ⟨r, os', rfl⟩ := k
  refine ⟨q + r, os ++ os', ?_⟩
  rw [show (Go.Sort.grow (a.drewN q) os).drewN r = Go.Sort.grow (a.drewN (q + r)) os from by simp [Go.Sort.grow, World.drewN, Nat.add_assoc], Go.Sort.grow_grow]
theorem Gr.alloc {a b : World} (h : Gr a b) (o : Obj) : Gr a (b.alloc o) := h.trans ⟨0, #[o], by rw [Go.Sort.alloc_eq_grow]; rfl⟩
theorem Gr.chg {a b : World} (h : Gr a b) : Chg [] a b := by
  obtain ⟨q, os, rfl⟩ := h
  refine ⟨rfl, rfl, rfl, ?_, fun k hk _ => ?_⟩
  · simp [Go.Sort.grow, World.drewN]
  · show (a.heap ++ os)[k]? = _
    rw [Array.getElem?_append_left hk]
theorem Gr.drew {a b : World} (h : Gr a b) : Gr a b.drew := h.trans ⟨1, #[], by rw [Go.Sort.grow_empty]; rfl⟩

theorem nan_u (x : Int) (w : World) : Calls Tryz.prog 95 #[.int .u64 x] w fun e w' => e = .returned (.bool false) ∧ w = w' := by
  have h : (x != x) = false := by simp
  go_enter Tryz.func95, Tryz.ntmps95
  go_wp2
  go_ret
  exact ⟨rfl, rfl⟩
theorem cmp_u (x y : Int) (w : World) : Calls Tryz.prog 67 #[.int .u64 x, .int .u64 y] w fun e w' => e = .returned (.int .i64 (cmpI x y)) ∧ w = w' := by
  obtain ⟨r, hr⟩ : ∃ r, r = cmpI x y := ⟨_, rfl⟩
  rw [← hr]
  unfold cmpI at hr
  go_enter Tryz.func67, Tryz.ntmps67
  go_wp2_with fail
  refine (nan_u x w).mono ?_
  rintro e w1 ⟨rfl, rfl⟩
  go_wp2_with fail
  refine (nan_u y w).mono ?_
  rintro e w1 ⟨rfl, rfl⟩
  by_cases h1 : x < y
  · rw [if_pos h1] at hr
    subst hr
    have d1 : decide (x < y) = true := by simpa using h1
    clear h1
    go_wp2
    go_ret
    exact ⟨rfl, rfl⟩
  · rw [if_neg h1] at hr
    have d1 : decide (x < y) = false := by simpa using h1
    by_cases h2 : y < x
    · rw [if_pos h2] at hr
      subst hr
      have d2 : decide (y < x) = true := by simpa using h2
      clear h1 h2
      go_wp2
      go_ret
      exact ⟨rfl, rfl⟩
    · rw [if_neg h2] at hr
      subst hr
      have d2 : decide (y < x) = false := by simpa using h2
      clear h1 h2
      go_wp2
      go_ret
      exact ⟨rfl, rfl⟩
theorem nan_k (x : Int) (w : World) : Calls Tryz.prog 96 #[.int .i64 x] w fun e w' => e = .returned (.bool false) ∧ w = w' := by
  have h : (x != x) = false := by simp
  go_enter Tryz.func96, Tryz.ntmps96
  go_wp2
  go_ret
  exact ⟨rfl, rfl⟩
theorem cmp_k (x y : Int) (w : World) : Calls Tryz.prog 69 #[.int .i64 x, .int .i64 y] w fun e w' => e = .returned (.int .i64 (cmpI x y)) ∧ w = w' := by
  obtain ⟨r, hr⟩ : ∃ r, r = cmpI x y := ⟨_, rfl⟩
  rw [← hr]
  unfold cmpI at hr
  go_enter Tryz.func69, Tryz.ntmps69
  go_wp2_with fail
  refine (nan_k x w).mono ?_
  rintro e w1 ⟨rfl, rfl⟩
  go_wp2_with fail
  refine (nan_k y w).mono ?_
  rintro e w1 ⟨rfl, rfl⟩
  by_cases h1 : x < y
  · rw [if_pos h1] at hr
    subst hr
    have d1 : decide (x < y) = true := by simpa using h1
    clear h1
    go_wp2
    go_ret
    exact ⟨rfl, rfl⟩
  · rw [if_neg h1] at hr
    have d1 : decide (x < y) = false := by simpa using h1
    by_cases h2 : y < x
    · rw [if_pos h2] at hr
      subst hr
      have d2 : decide (y < x) = true := by simpa using h2
      clear h1 h2
      go_wp2
      go_ret
      exact ⟨rfl, rfl⟩
    · rw [if_neg h2] at hr
      subst hr
      have d2 : decide (y < x) = false := by simpa using h2
      clear h1 h2
      go_wp2
      go_ret
      exact ⟨rfl, rfl⟩
theorem nan_i (x : Int) (w : World) : Calls Tryz.prog 97 #[.int .i64 x] w fun e w' => e = .returned (.bool false) ∧ w = w' := by
  have h : (x != x) = false := by simp
  go_enter Tryz.func97, Tryz.ntmps97
  go_wp2
  go_ret
  exact ⟨rfl, rfl⟩
theorem cmp_i (x y : Int) (w : World) : Calls Tryz.prog 72 #[.int .i64 x, .int .i64 y] w fun e w' => e = .returned (.int .i64 (cmpI x y)) ∧ w = w' := by
  obtain ⟨r, hr⟩ : ∃ r, r = cmpI x y := ⟨_, rfl⟩
  rw [← hr]
  unfold cmpI at hr
  go_enter Tryz.func72, Tryz.ntmps72
  go_wp2_with fail
  refine (nan_i x w).mono ?_
  rintro e w1 ⟨rfl, rfl⟩
  go_wp2_with fail
  refine (nan_i y w).mono ?_
  rintro e w1 ⟨rfl, rfl⟩
  by_cases h1 : x < y
  · rw [if_pos h1] at hr
    subst hr
    have d1 : decide (x < y) = true := by simpa using h1
    clear h1
    go_wp2
    go_ret
    exact ⟨rfl, rfl⟩
  · rw [if_neg h1] at hr
    have d1 : decide (x < y) = false := by simpa using h1
    by_cases h2 : y < x
    · rw [if_pos h2] at hr
      subst hr
      have d2 : decide (y < x) = true := by simpa using h2
      clear h1 h2
      go_wp2
      go_ret
      exact ⟨rfl, rfl⟩
    · rw [if_neg h2] at hr
      subst hr
      have d2 : decide (y < x) = false := by simpa using h2
      clear h1 h2
      go_wp2
      go_ret
      exact ⟨rfl, rfl⟩
theorem nan_l (x : Int) (w : World) : Calls Tryz.prog 99 #[.int .i64 x] w fun e w' => e = .returned (.bool false) ∧ w = w' := by
  have h : (x != x) = false := by simp
  go_enter Tryz.func99, Tryz.ntmps99
  go_wp2
  go_ret
  exact ⟨rfl, rfl⟩
theorem cmp_l (x y : Int) (w : World) : Calls Tryz.prog 76 #[.int .i64 x, .int .i64 y] w fun e w' => e = .returned (.int .i64 (cmpI x y)) ∧ w = w' := by
  obtain ⟨r, hr⟩ : ∃ r, r = cmpI x y := ⟨_, rfl⟩
  rw [← hr]
  unfold cmpI at hr
  go_enter Tryz.func76, Tryz.ntmps76
  go_wp2_with fail
  refine (nan_l x w).mono ?_
  rintro e w1 ⟨rfl, rfl⟩
  go_wp2_with fail
  refine (nan_l y w).mono ?_
  rintro e w1 ⟨rfl, rfl⟩
  by_cases h1 : x < y
  · rw [if_pos h1] at hr
    subst hr
    have d1 : decide (x < y) = true := by simpa using h1
    clear h1
    go_wp2
    go_ret
    exact ⟨rfl, rfl⟩
  · rw [if_neg h1] at hr
    have d1 : decide (x < y) = false := by simpa using h1
    by_cases h2 : y < x
    · rw [if_pos h2] at hr
      subst hr
      have d2 : decide (y < x) = true := by simpa using h2
      clear h1 h2
      go_wp2
      go_ret
      exact ⟨rfl, rfl⟩
    · rw [if_neg h2] at hr
      subst hr
      have d2 : decide (y < x) = false := by simpa using h2
      clear h1 h2
      go_wp2
      go_ret
      exact ⟨rfl, rfl⟩
theorem nan_s (x : ByteArray) (w : World) : Calls Tryz.prog 98 #[.string x] w fun e w' => e = .returned (.bool false) ∧ w = w' := by
  go_enter Tryz.func98, Tryz.ntmps98
  go_wp2
  go_ret
  exact ⟨by simp, rfl⟩
theorem cmp_s (x y : ByteArray) (w : World) : Calls Tryz.prog 74 #[.string x, .string y] w fun e w' => e = .returned (.int .i64 (cmpS x y)) ∧ w = w' := by
  obtain ⟨r, hr⟩ : ∃ r, r = cmpS x y := ⟨_, rfl⟩
  rw [← hr]
  unfold cmpS at hr
  cases h1 : Op.bytesLess x.toList y.toList with
  | true =>
    rw [h1, if_pos rfl] at hr
    subst hr
    go_enter Tryz.func74, Tryz.ntmps74
    go_wp2_with fail
    refine (nan_s x w).mono ?_
    rintro e w1 ⟨rfl, rfl⟩
    go_wp2_with fail
    refine (nan_s y w).mono ?_
    rintro e w1 ⟨rfl, rfl⟩
    go_wp2
    go_ret
    exact ⟨rfl, rfl⟩
  | false =>
    rw [h1, if_neg (by decide)] at hr
    cases h2 : Op.bytesLess y.toList x.toList with
    | true =>
      rw [h2, if_pos rfl] at hr
      subst hr
      have h3 : (x.toList == y.toList) = false := by
        refine beq_eq_false_iff_ne.2 (fun e => ?_)
        rw [e, bl_irrefl] at h2
        cases h2
      clear h2
      go_enter Tryz.func74, Tryz.ntmps74
      go_wp2_with fail
      refine (nan_s x w).mono ?_
      rintro e w1 ⟨rfl, rfl⟩
      go_wp2_with fail
      refine (nan_s y w).mono ?_
      rintro e w1 ⟨rfl, rfl⟩
      go_wp2
      go_ret
      exact ⟨rfl, rfl⟩
    | false =>
      rw [h2, if_neg (by decide)] at hr
      subst hr
      have h3 : (x.toList == y.toList) = true := by rw [bl_tri _ _ h1 h2]; simp
      clear h2
      go_enter Tryz.func74, Tryz.ntmps74
      go_wp2_with fail
      refine (nan_s x w).mono ?_
      rintro e w1 ⟨rfl, rfl⟩
      go_wp2_with fail
      refine (nan_s y w).mono ?_
      rintro e w1 ⟨rfl, rfl⟩
      go_wp2
      go_ret
      exact ⟨rfl, rfl⟩
theorem part_1 (a b : Fx) (w : World) : Calls Tryz.prog 66 #[a.v, b.v] w fun e w' => e = .returned (.int .i64 (cmpI a.at_ b.at_)) ∧ Gr w w' := by
  unfold Fx.v
  go_enter Tryz.func66, Tryz.ntmps66
  go_wp2_with fail
  refine (cmp_u a.at_ b.at_ _).mono ?_
  rintro e w1 ⟨rfl, rfl⟩
  go_wp2
  go_ret
  exact ⟨rfl, ((Gr.refl _).alloc _).alloc _⟩
theorem part_2 (a b : Fx) (w : World) : Calls Tryz.prog 68 #[a.v, b.v] w fun e w' => e = .returned (.int .i64 (cmpI a.kind b.kind)) ∧ Gr w w' := by
  unfold Fx.v
  go_enter Tryz.func68, Tryz.ntmps68
  go_wp2_with fail
  refine (cmp_k a.kind b.kind _).mono ?_
  rintro e w1 ⟨rfl, rfl⟩
  go_wp2
  go_ret
  exact ⟨rfl, ((Gr.refl _).alloc _).alloc _⟩
theorem part_3 (a b : Fx) (w : World) : Calls Tryz.prog 70 #[a.v, b.v] w fun e w' => e = .returned (.int .i64 (cmpI a.tgt b.tgt)) ∧ Gr w w' := by
  unfold Fx.v
  go_enter Tryz.func70, Tryz.ntmps70
  go_wp2_with fail
  refine (cmp_u a.tgt b.tgt _).mono ?_
  rintro e w1 ⟨rfl, rfl⟩
  go_wp2
  go_ret
  exact ⟨rfl, ((Gr.refl _).alloc _).alloc _⟩
theorem part_4 (a b : Fx) (w : World) : Calls Tryz.prog 71 #[a.v, b.v] w fun e w' => e = .returned (.int .i64 (cmpI a.ord b.ord)) ∧ Gr w w' := by
  unfold Fx.v
  go_enter Tryz.func71, Tryz.ntmps71
  go_wp2_with fail
  refine (cmp_i a.ord b.ord _).mono ?_
  rintro e w1 ⟨rfl, rfl⟩
  go_wp2
  go_ret
  exact ⟨rfl, ((Gr.refl _).alloc _).alloc _⟩
theorem part_5 (a b : Fx) (w : World) : Calls Tryz.prog 73 #[a.v, b.v] w fun e w' => e = .returned (.int .i64 (cmpS a.sym b.sym)) ∧ Gr w w' := by
  unfold Fx.v
  go_enter Tryz.func73, Tryz.ntmps73
  go_wp2_with fail
  refine (cmp_s a.sym b.sym _).mono ?_
  rintro e w1 ⟨rfl, rfl⟩
  go_wp2
  go_ret
  exact ⟨rfl, ((Gr.refl _).alloc _).alloc _⟩
theorem part_6 (a b : Fx) (w : World) : Calls Tryz.prog 75 #[a.v, b.v] w fun e w' => e = .returned (.int .i64 (cmpI a.add b.add)) ∧ Gr w w' := by
  unfold Fx.v
  go_enter Tryz.func75, Tryz.ntmps75
  go_wp2_with fail
  refine (cmp_l a.add b.add _).mono ?_
  rintro e w1 ⟨rfl, rfl⟩
  go_wp2
  go_ret
  exact ⟨rfl, ((Gr.refl _).alloc _).alloc _⟩
theorem weight_any (a : Fx) (w : World) : Calls Tryz.prog 78 #[a.v] w fun e w' => e = .returned (.int .i64 (wt a.weak)) ∧ Gr w w' := by
  unfold Fx.v
  cases hw : a.weak with
  | true =>
    go_enter Tryz.func78, Tryz.ntmps78
    go_wp2
    go_ret
    exact ⟨rfl, (Gr.refl _).alloc _⟩
  | false =>
    go_enter Tryz.func78, Tryz.ntmps78
    go_wp2
    go_ret
    exact ⟨rfl, (Gr.refl _).alloc _⟩
end Go.Proofs.YtppbcgffdpdklaaGreatDoor
