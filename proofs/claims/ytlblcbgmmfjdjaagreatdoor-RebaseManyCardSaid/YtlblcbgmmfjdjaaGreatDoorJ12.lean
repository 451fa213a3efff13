/- Lemmas, laid together: part 12 of 35. Conditions: none but each lemma's own. -/
import Derived.Test.YtlblcbgmmfjdjaaGreatDoorJ11
import Derived.Sort.Grow
/- Plain: the state of one who goes over a stream of rebases. -/
namespace Go.Proofs.YtlblcbgmmfjdjaaGreatDoor
open Go.RowKit
set_option maxRecDepth 100000

structure RS where
  at_ : Nat
  is_ : Bool
  typ : Int
  out : List Fx
def rebF (a t : Int) : Fx := ⟨a, 1, t, 0, ⟨#[]⟩, 0, false⟩
/-- Further by n; one rebase; one and further; so many. -/
def furR (s : RS) (n : Nat) : RS × Int := if s.at_ + n < 18446744073709551616 then ({ s with at_ := s.at_ + n }, 0) else (s, 4)
def oneR (wr : Nat → Bool) (wd : Nat → Int) (s : RS) : RS × Int := if wr s.at_ then furR { s with out := s.out ++ [rebF s.at_ (wd s.at_)] } 8 else (s, 19)
def roundR (wr : Nat → Bool) (wd : Nat → Int) (skip : Nat) (s : RS) : RS × Int := if (oneR wr wd s).2 = 0 then furR (oneR wr wd s).1 skip else oneR wr wd s
def timesR (wr : Nat → Bool) (wd : Nat → Int) (skip : Nat) : Nat → RS → RS × Int
  | 0, s => (s, 0)
  | n + 1, s => if (roundR wr wd skip s).2 = 0 then timesR wr wd skip n (roundR wr wd skip s).1 else roundR wr wd skip s
def manyR (wr : Nat → Bool) (wd : Nat → Int) (n : Nat) (skip : Nat) (s : RS) : RS × Int :=
  if n = 0 then (s, 0) else if 20000 < s.out.length + n then (s, 11) else timesR wr wd skip n s
def readyR (s : RS) (op : Nat) : Bool := if 5 ≤ op ∧ op ≤ 8 then decide (s.typ = 1) && s.is_ else if op = 3 ∨ op = 4 then s.is_ else decide (op ≤ 8)
def numsR (op : Nat) : Nat := if op = 8 then 2 else if op = 2 ∨ op = 3 ∨ op = 6 ∨ op = 7 then 1 else 0
/-- One opcode, its numbers read: pl is the place of a segment's offset (or why there is none). -/
def doR (wr : Nat → Bool) (wd : Nat → Int) (pl : Nat → Nat → Int × Int) (op imm n0 n1 : Nat) (s : RS) : RS × Int :=
  if op = 1 then ({ s with typ := (imm : Int) }, 0)
  else if op = 2 then (if (pl imm n0).2 = 0 then ({ s with at_ := (pl imm n0).1.toNat, is_ := true }, 0) else (s, (pl imm n0).2))
  else if op = 3 then furR s n0
  else if op = 4 then furR s (8 * imm)
  else if op = 5 then manyR wr wd imm 0 s
  else if op = 6 then manyR wr wd n0 0 s
  else if op = 7 then manyR wr wd 1 n0 s
  else manyR wr wd n0 n1 s
def stepR (wr : Nat → Bool) (wd : Nat → Int) (pl : Nat → Nat → Int × Int) (op imm n0 n1 : Nat) (short : Bool) (s : RS) : RS × Int :=
  if short then (s, 3) else if readyR s op then doR wr wd pl op imm n0 n1 s else (s, 14)
/-- So many rebases 8 apart, from a place on, of nothing. -/
def rebs (a : Int) (n : Nat) : List Fx := (List.range n).map fun k : Nat => rebF (a + 8 * (k : Int)) 0
theorem rebs_len (a : Int) (n : Nat) : (rebs a n).length = n := by simp [rebs]
theorem rebs_snoc (a : Int) (n : Nat) : rebs a (n + 1) = rebs a n ++ [rebF (a + 8 * n) 0] := by simp [rebs, List.range_succ]
theorem times_flat (wr : Nat → Bool) (k0 : Nat) : ∀ (n k : Nat) (typ : Int), k + n ≤ k0 → (∀ j, j < k0 → wr (8 * j) = true) → k0 ≤ 100000 →
    timesR wr (fun _ => 0) 0 n ⟨8 * k, true, typ, rebs 0 k⟩ = (⟨8 * (k + n), true, typ, rebs 0 (k + n)⟩, 0)
  | 0, k, typ, _, _, _ => rfl
  | n + 1, k, typ, h, hw, hb => by
    have h1 : roundR wr (fun _ => 0) 0 ⟨8 * k, true, typ, rebs 0 k⟩ = (⟨8 * (k + 1), true, typ, rebs 0 (k + 1)⟩, 0) := by
      have hone : oneR wr (fun _ => 0) ⟨8 * k, true, typ, rebs 0 k⟩ = (⟨8 * (k + 1), true, typ, rebs 0 (k + 1)⟩, 0) := by
        unfold oneR
        rw [if_pos (hw k (by omega))]
        unfold furR
        rw [if_pos (by dsimp only; omega), rebs_snoc]
        simp only [Int.zero_add]
        congr 2
      unfold roundR
      rw [hone, if_pos rfl]
      unfold furR
      rw [if_pos (by dsimp only; omega)]
      simp only [Nat.add_zero]
    unfold timesR
    rw [h1, if_pos rfl, times_flat wr k0 n (k + 1) typ (by omega) hw hb, show k + 1 + n = k + (n + 1) by omega]
end Go.Proofs.YtlblcbgmmfjdjaaGreatDoor
/- cmp.Compare, the parts of fixup.Order, clevisref12.Less, fixup.Order. -/
namespace Go.Proofs.YtlblcbgmmfjdjaaGreatDoor
open Go.RowKit
set_option maxRecDepth 100000

/-- Draws, and blocks behind a world, alone. -/
def Gr (a b : World) : Prop := ∃ q os, b = Go.Sort.grow (a.drewN q) os
theorem Gr.refl (a : World) : Gr a a := ⟨0, #[], by rw [Go.Sort.grow_empty]; rfl⟩
theorem Gr.trans {a b c : World} (h : Gr a b) (k : Gr b c) : Gr a c := by
  obtain ⟨q, os, rfl⟩ := h
  obtain ⟨r, os', rfl⟩ := k
  refine ⟨q + r, os ++ os', ?_⟩
  rw [show (Go.Sort.grow (a.drewN q) os).drewN r = Go.Sort.grow (a.drewN (q + r)) os from by simp [Go.Sort.grow, World.drewN, Nat.add_assoc], Go.Sort.grow_grow]
theorem Gr.alloc {a b : World} (h : Gr a b) (o : Obj) : Gr a (b.alloc o) := h.trans ⟨0, #[o], by rw [Go.Sort.alloc_eq_grow]; rfl⟩
theorem Gr.chg {a b : World} (h : Gr a b) : Chg [] a b := by
  obtain ⟨q, os, rfl⟩ := h
  refine ⟨rfl, rfl, rfl, ?_, fun k hk _ => ?_⟩
  · simp [Go.Sort.grow, World.drewN]
  · show (a.heap ++ os)[k]? = _
    rw [Array.getElem?_append_left hk]
theorem Gr.drew {a b : World} (h : Gr a b) : Gr a b.drew := h.trans ⟨1, #[], by rw [Go.Sort.grow_empty]; rfl⟩

theorem nan_u (x : Int) (w : World) : Calls Tryz.prog 83 #[.int .u64 x] w fun e w' => e = .returned (.bool false) ∧ w = w' := by
  have h : (x != x) = false := by simp
  go_enter Tryz.func83, Tryz.ntmps83
  go_wp2
  go_ret
  exact ⟨rfl, rfl⟩
theorem cmp_u (x y : Int) (w : World) : Calls Tryz.prog 55 #[.int .u64 x, .int .u64 y] w fun e w' => e = .returned (.int .i64 (cmpI x y)) ∧ w = w' := by
  obtain ⟨r, hr⟩ : ∃ r, r = cmpI x y := ⟨_, rfl⟩
  rw [← hr]
  unfold cmpI at hr
  go_enter Tryz.func55, Tryz.ntmps55
  go_wp2_with fail
  refine (nan_u x w).mono ?_
  rintro e w1 ⟨rfl, rfl⟩
  go_wp2_with fail
  refine (nan_u y w).mono ?_
  rintro e w1 ⟨rfl, rfl⟩
  by_cases h1 : x < y
  · rw [if_pos h1] at hr
    subst hr
    have d1 : decide (x < y) = true := by simpa using h1
    clear h1
    go_wp2
    go_ret
    exact ⟨rfl, rfl⟩
  · rw [if_neg h1] at hr
    have d1 : decide (x < y) = false := by simpa using h1
    by_cases h2 : y < x
    · rw [if_pos h2] at hr
      subst hr
      have d2 : decide (y < x) = true := by simpa using h2
      clear h1 h2
      go_wp2
      go_ret
      exact ⟨rfl, rfl⟩
    · rw [if_neg h2] at hr
      subst hr
      have d2 : decide (y < x) = false := by simpa using h2
      clear h1 h2
      go_wp2
      go_ret
      exact ⟨rfl, rfl⟩
theorem nan_k (x : Int) (w : World) : Calls Tryz.prog 84 #[.int .i64 x] w fun e w' => e = .returned (.bool false) ∧ w = w' := by
  have h : (x != x) = false := by simp
  go_enter Tryz.func84, Tryz.ntmps84
  go_wp2
  go_ret
  exact ⟨rfl, rfl⟩
theorem cmp_k (x y : Int) (w : World) : Calls Tryz.prog 57 #[.int .i64 x, .int .i64 y] w fun e w' => e = .returned (.int .i64 (cmpI x y)) ∧ w = w' := by
  obtain ⟨r, hr⟩ : ∃ r, r = cmpI x y := ⟨_, rfl⟩
  rw [← hr]
  unfold cmpI at hr
  go_enter Tryz.func57, Tryz.ntmps57
  go_wp2_with fail
  refine (nan_k x w).mono ?_
  rintro e w1 ⟨rfl, rfl⟩
  go_wp2_with fail
  refine (nan_k y w).mono ?_
  rintro e w1 ⟨rfl, rfl⟩
  by_cases h1 : x < y
  · rw [if_pos h1] at hr
    subst hr
    have d1 : decide (x < y) = true := by simpa using h1
    clear h1
    go_wp2
    go_ret
    exact ⟨rfl, rfl⟩
  · rw [if_neg h1] at hr
    have d1 : decide (x < y) = false := by simpa using h1
    by_cases h2 : y < x
    · rw [if_pos h2] at hr
      subst hr
      have d2 : decide (y < x) = true := by simpa using h2
      clear h1 h2
      go_wp2
      go_ret
      exact ⟨rfl, rfl⟩
    · rw [if_neg h2] at hr
      subst hr
      have d2 : decide (y < x) = false := by simpa using h2
      clear h1 h2
      go_wp2
      go_ret
      exact ⟨rfl, rfl⟩
theorem nan_i (x : Int) (w : World) : Calls Tryz.prog 85 #[.int .i64 x] w fun e w' => e = .returned (.bool false) ∧ w = w' := by
  have h : (x != x) = false := by simp
  go_enter Tryz.func85, Tryz.ntmps85
  go_wp2
  go_ret
  exact ⟨rfl, rfl⟩
theorem cmp_i (x y : Int) (w : World) : Calls Tryz.prog 60 #[.int .i64 x, .int .i64 y] w fun e w' => e = .returned (.int .i64 (cmpI x y)) ∧ w = w' := by
  obtain ⟨r, hr⟩ : ∃ r, r = cmpI x y := ⟨_, rfl⟩
  rw [← hr]
  unfold cmpI at hr
  go_enter Tryz.func60, Tryz.ntmps60
  go_wp2_with fail
  refine (nan_i x w).mono ?_
  rintro e w1 ⟨rfl, rfl⟩
  go_wp2_with fail
  refine (nan_i y w).mono ?_
  rintro e w1 ⟨rfl, rfl⟩
  by_cases h1 : x < y
  · rw [if_pos h1] at hr
    subst hr
    have d1 : decide (x < y) = true := by simpa using h1
    clear h1
    go_wp2
    go_ret
    exact ⟨rfl, rfl⟩
  · rw [if_neg h1] at hr
    have d1 : decide (x < y) = false := by simpa using h1
    by_cases h2 : y < x
    · rw [if_pos h2] at hr
      subst hr
      have d2 : decide (y < x) = true := by simpa using h2
      clear h1 h2
      go_wp2
      go_ret
      exact ⟨rfl, rfl⟩
    · rw [if_neg h2] at hr
      subst hr
      have d2 : decide (y < x) = false := by simpa using h2
      clear h1 h2
      go_wp2
      go_ret
      exact ⟨rfl, rfl⟩
theorem nan_l (x : Int) (w : World) : Calls Tryz.prog 87 #[.int .i64 x] w fun e w' => e = .returned (.bool false) ∧ w = w' := by
  have h : (x != x) = false := by simp
  go_enter Tryz.func87, Tryz.ntmps87
  go_wp2
  go_ret
  exact ⟨rfl, rfl⟩
theorem cmp_l (x y : Int) (w : World) : Calls Tryz.prog 64 #[.int .i64 x, .int .i64 y] w fun e w' => e = .returned (.int .i64 (cmpI x y)) ∧ w = w' := by
  obtain ⟨r, hr⟩ : ∃ r, r = cmpI x y := ⟨_, rfl⟩
  rw [← hr]
  unfold cmpI at hr
  go_enter Tryz.func64, Tryz.ntmps64
  go_wp2_with fail
  refine (nan_l x w).mono ?_
  rintro e w1 ⟨rfl, rfl⟩
  go_wp2_with fail
  refine (nan_l y w).mono ?_
  rintro e w1 ⟨rfl, rfl⟩
  by_cases h1 : x < y
  · rw [if_pos h1] at hr
    subst hr
    have d1 : decide (x < y) = true := by simpa using h1
    clear h1
    go_wp2
    go_ret
    exact ⟨rfl, rfl⟩
  · rw [if_neg h1] at hr
    have d1 : decide (x < y) = false := by simpa using h1
    by_cases h2 : y < x
    · rw [if_pos h2] at hr
      subst hr
      have d2 : decide (y < x) = true := by simpa using h2
      clear h1 h2
      go_wp2
      go_ret
      exact ⟨rfl, rfl⟩
    · rw [if_neg h2] at hr
      subst hr
      have d2 : decide (y < x) = false := by simpa using h2
      clear h1 h2
      go_wp2
      go_ret
      exact ⟨rfl, rfl⟩
theorem nan_s (x : ByteArray) (w : World) : Calls Tryz.prog 86 #[.string x] w fun e w' => e = .returned (.bool false) ∧ w = w' := by
  go_enter Tryz.func86, Tryz.ntmps86
  go_wp2
  go_ret
  exact ⟨by simp, rfl⟩
theorem cmp_s (x y : ByteArray) (w : World) : Calls Tryz.prog 62 #[.string x, .string y] w fun e w' => e = .returned (.int .i64 (cmpS x y)) ∧ w = w' := by
  obtain ⟨r, hr⟩ : ∃ r, r = cmpS x y := ⟨_, rfl⟩
  rw [← hr]
  unfold cmpS at hr
  cases h1 : Op.bytesLess x.toList y.toList with
  | true =>
    rw [h1, if_pos rfl] at hr
    subst hr
    go_enter Tryz.func62, Tryz.ntmps62
    go_wp2_with fail
    refine (nan_s x w).mono ?_
    rintro e w1 ⟨rfl, rfl⟩
    go_wp2_with fail
    refine (nan_s y w).mono ?_
    rintro e w1 ⟨rfl, rfl⟩
    go_wp2
    go_ret
    exact ⟨rfl, rfl⟩
  | false =>
    rw [h1, if_neg (by decide)] at hr
    cases h2 : Op.bytesLess y.toList x.toList with
    | true =>
      rw [h2, if_pos rfl] at hr
      subst hr
      have h3 : (x.toList == y.toList) = false := by
        refine beq_eq_false_iff_ne.2 (fun e => ?_)
        rw [e, bl_irrefl] at h2
        cases h2
      clear h2
      go_enter Tryz.func62, Tryz.ntmps62
      go_wp2_with fail
      refine (nan_s x w).mono ?_
      rintro e w1 ⟨rfl, rfl⟩
      go_wp2_with fail
      refine (nan_s y w).mono ?_
      rintro e w1 ⟨rfl, rfl⟩
      go_wp2
      go_ret
      exact ⟨rfl, rfl⟩
    | false =>
      rw [h2, if_neg (by decide)] at hr
      subst hr
      have h3 : (x.toList == y.toList) = true := by rw [bl_tri _ _ h1 h2]; simp
      clear h2
      go_enter Tryz.func62, Tryz.ntmps62
      go_wp2_with fail
      refine (nan_s x w).mono ?_
      rintro e w1 ⟨rfl, rfl⟩
      go_wp2_with fail
      refine (nan_s y w).mono ?_
      rintro e w1 ⟨rfl, rfl⟩
      go_wp2
      go_ret
      exact ⟨rfl, rfl⟩
theorem part_1 (a b : Fx) (w : World) : Calls Tryz.prog 54 #[a.v, b.v] w fun e w' => e = .returned (.int .i64 (cmpI a.at_ b.at_)) ∧ Gr w w' := by
  unfold Fx.v
  go_enter Tryz.func54, Tryz.ntmps54
  go_wp2_with fail
  refine (cmp_u a.at_ b.at_ _).mono ?_
  rintro e w1 ⟨rfl, rfl⟩
  go_wp2
  go_ret
  exact ⟨rfl, ((Gr.refl _).alloc _).alloc _⟩
theorem part_2 (a b : Fx) (w : World) : Calls Tryz.prog 56 #[a.v, b.v] w fun e w' => e = .returned (.int .i64 (cmpI a.kind b.kind)) ∧ Gr w w' := by
  unfold Fx.v
  go_enter Tryz.func56, Tryz.ntmps56
  go_wp2_with fail
  refine (cmp_k a.kind b.kind _).mono ?_
  rintro e w1 ⟨rfl, rfl⟩
  go_wp2
  go_ret
  exact ⟨rfl, ((Gr.refl _).alloc _).alloc _⟩
theorem part_3 (a b : Fx) (w : World) : Calls Tryz.prog 58 #[a.v, b.v] w fun e w' => e = .returned (.int .i64 (cmpI a.tgt b.tgt)) ∧ Gr w w' := by
  unfold Fx.v
  go_enter Tryz.func58, Tryz.ntmps58
  go_wp2_with fail
  refine (cmp_u a.tgt b.tgt _).mono ?_
  rintro e w1 ⟨rfl, rfl⟩
  go_wp2
  go_ret
  exact ⟨rfl, ((Gr.refl _).alloc _).alloc _⟩
theorem part_4 (a b : Fx) (w : World) : Calls Tryz.prog 59 #[a.v, b.v] w fun e w' => e = .returned (.int .i64 (cmpI a.ord b.ord)) ∧ Gr w w' := by
  unfold Fx.v
  go_enter Tryz.func59, Tryz.ntmps59
  go_wp2_with fail
  refine (cmp_i a.ord b.ord _).mono ?_
  rintro e w1 ⟨rfl, rfl⟩
  go_wp2
  go_ret
  exact ⟨rfl, ((Gr.refl _).alloc _).alloc _⟩
theorem part_5 (a b : Fx) (w : World) : Calls Tryz.prog 61 #[a.v, b.v] w fun e w' => e = .returned (.int .i64 (cmpS a.sym b.sym)) ∧ Gr w w' := by
  unfold Fx.v
  go_enter Tryz.func61, Tryz.ntmps61
  go_wp2_with fail
  refine (cmp_s a.sym b.sym _).mono ?_
  rintro e w1 ⟨rfl, rfl⟩
  go_wp2
  go_ret
  exact ⟨rfl, ((Gr.refl _).alloc _).alloc _⟩
theorem part_6 (a b : Fx) (w : World) : Calls Tryz.prog 63 #[a.v, b.v] w fun e w' => e = .returned (.int .i64 (cmpI a.add b.add)) ∧ Gr w w' := by
  unfold Fx.v
  go_enter Tryz.func63, Tryz.ntmps63
  go_wp2_with fail
  refine (cmp_l a.add b.add _).mono ?_
  rintro e w1 ⟨rfl, rfl⟩
  go_wp2
  go_ret
  exact ⟨rfl, ((Gr.refl _).alloc _).alloc _⟩
theorem weight_any (a : Fx) (w : World) : Calls Tryz.prog 66 #[a.v] w fun e w' => e = .returned (.int .i64 (wt a.weak)) ∧ Gr w w' := by
  unfold Fx.v
  cases hw : a.weak with
  | true =>
    go_enter Tryz.func66, Tryz.ntmps66
    go_wp2
    go_ret
    exact ⟨rfl, (Gr.refl _).alloc _⟩
  | false =>
    go_enter Tryz.func66, Tryz.ntmps66
    go_wp2
    go_ret
    exact ⟨rfl, (Gr.refl _).alloc _⟩
end Go.Proofs.YtlblcbgmmfjdjaaGreatDoor
