/- Lemmas, laid together: part 29 of 40. Conditions: none but each lemma's own. -/
import Derived.Test.YtkomocgodljecaaGreatDoorJ26
import Derived.Lib.IndexAny
/- clevisref12.May, of any fixup. -/
namespace Go.Proofs.YtkomocgodljecaaGreatDoor
open Go.RowKit
set_option maxRecDepth 100000

theorem mayFx_reb {f : Fx} (h : f.kind = 1) : mayFx f = (decide (f.ord = 0) && (decide (f.sym.toList = []) && (decide (f.add = 0) && !f.weak))) := by
  have h3 : decide (f.sym = ⟨#[]⟩) = decide (f.sym.toList = []) := decide_eq_decide.2 ⟨fun e => by rw [e, Lib.toList_data], fun e => by
    rw [Lib.toList_data] at e
    exact ByteArray.ext (Array.toList_inj.1 (e.trans rfl))⟩
  unfold mayFx
  rw [if_pos h, ← h3]
  obtain ⟨a1, a2, a3, a4, a5, a6, a7⟩ := f
  subst h
  cases a7 <;> simp [Bool.decide_and]
theorem mayFx_no {f : Fx} (h : ¬ f.kind = 1) (h2 : ¬ f.kind = 2) : mayFx f = false := by
  unfold mayFx
  rw [if_neg h, if_neg h2]
theorem mayFx_two {f : Fx} (h : f.kind = 2) : mayFx f = (decide (f.tgt = 0 ∧ -3 ≤ f.ord ∧ f.ord ≤ 64 ∧ f.sym.toList ≠ [] ∧ f.sym.size ≤ 255) && !f.sym.data.toList.contains 0) := by
  unfold mayFx
  rw [if_neg (by omega), if_pos h, Lib.contains_iff_indexByte]
set_option maxHeartbeats 4000000 in
theorem RMay12_any (f : Fx) (w : World) : Calls Tryz.prog 44 #[fxl.val f] w fun e w' => e = .returned (.bool (mayFx f)) ∧ Chg [] w w' := by
  cases k1 : (f.kind == 1) with
  | true =>
    have q1 : f.kind = 1 := by simpa using k1
    cases k2 : (f.ord == 0) with
    | false =>
      have q2 : ¬ f.ord = 0 := by simpa using k2
      have hm : mayFx f = false := by rw [mayFx_reb q1, decide_eq_false q2, Bool.false_and]
      rw [hm]
      clear hm
      go_enter Tryz.func44, Tryz.ntmps44
      go_wp2_with ((with_reducible refine Lay.bxL (L := fxl) 53 f ?_ ?_); exact rfl; intro W1 bx ebx cbx xbx; replace ebx := Lib.hid ebx; replace cbx := Lib.hid cbx; replace xbx := Lib.hid xbx; refine Hid.out ?_)
      refine Lib.hid ?_
      have x1 : W1.cell? ⟨bx, 1, none⟩ = some (.int .i64 f.kind) := by have := xbx.out.in 1 (by decide); rw [Nat.zero_add] at this; exact this
      have x2 : W1.cell? ⟨bx, 2, none⟩ = some (.int .u64 f.tgt) := by have := xbx.out.in 2 (by decide); rw [Nat.zero_add] at this; exact this
      have x3 : W1.cell? ⟨bx, 3, none⟩ = some (.int .i64 f.ord) := by have := xbx.out.in 3 (by decide); rw [Nat.zero_add] at this; exact this
      have x4 : W1.cell? ⟨bx, 4, none⟩ = some (.string f.sym) := by have := xbx.out.in 4 (by decide); rw [Nat.zero_add] at this; exact this
      have x5 : W1.cell? ⟨bx, 5, none⟩ = some (.int .i64 f.add) := by have := xbx.out.in 5 (by decide); rw [Nat.zero_add] at this; exact this
      have x6 : W1.cell? ⟨bx, 6, none⟩ = some (.bool f.weak) := by have := xbx.out.in 6 (by decide); rw [Nat.zero_add] at this; exact this
      go_wp2
      go_ret
      exact ⟨rfl, cbx.out⟩
    | true =>
    have q2 : f.ord = 0 := by simpa using k2
    by_cases q3 : f.sym.toList = []
    case neg =>
      have hm : mayFx f = false := by rw [mayFx_reb q1, decide_eq_false q3, Bool.false_and, Bool.and_false]
      rw [hm]
      clear hm
      go_enter Tryz.func44, Tryz.ntmps44
      go_wp2_with ((with_reducible refine Lay.bxL (L := fxl) 53 f ?_ ?_); exact rfl; intro W1 bx ebx cbx xbx; replace ebx := Lib.hid ebx; replace cbx := Lib.hid cbx; replace xbx := Lib.hid xbx; refine Hid.out ?_)
      refine Lib.hid ?_
      have x1 : W1.cell? ⟨bx, 1, none⟩ = some (.int .i64 f.kind) := by have := xbx.out.in 1 (by decide); rw [Nat.zero_add] at this; exact this
      have x2 : W1.cell? ⟨bx, 2, none⟩ = some (.int .u64 f.tgt) := by have := xbx.out.in 2 (by decide); rw [Nat.zero_add] at this; exact this
      have x3 : W1.cell? ⟨bx, 3, none⟩ = some (.int .i64 f.ord) := by have := xbx.out.in 3 (by decide); rw [Nat.zero_add] at this; exact this
      have x4 : W1.cell? ⟨bx, 4, none⟩ = some (.string f.sym) := by have := xbx.out.in 4 (by decide); rw [Nat.zero_add] at this; exact this
      have x5 : W1.cell? ⟨bx, 5, none⟩ = some (.int .i64 f.add) := by have := xbx.out.in 5 (by decide); rw [Nat.zero_add] at this; exact this
      have x6 : W1.cell? ⟨bx, 6, none⟩ = some (.bool f.weak) := by have := xbx.out.in 6 (by decide); rw [Nat.zero_add] at this; exact this
      go_wp2
      go_ret
      exact ⟨rfl, cbx.out⟩
    cases k4 : (f.add == 0) with
    | false =>
      have q4 : ¬ f.add = 0 := by simpa using k4
      have hm : mayFx f = false := by rw [mayFx_reb q1, decide_eq_false q4, Bool.false_and, Bool.and_false, Bool.and_false]
      rw [hm]
      clear hm
      go_enter Tryz.func44, Tryz.ntmps44
      go_wp2_with ((with_reducible refine Lay.bxL (L := fxl) 53 f ?_ ?_); exact rfl; intro W1 bx ebx cbx xbx; replace ebx := Lib.hid ebx; replace cbx := Lib.hid cbx; replace xbx := Lib.hid xbx; refine Hid.out ?_)
      refine Lib.hid ?_
      have x1 : W1.cell? ⟨bx, 1, none⟩ = some (.int .i64 f.kind) := by have := xbx.out.in 1 (by decide); rw [Nat.zero_add] at this; exact this
      have x2 : W1.cell? ⟨bx, 2, none⟩ = some (.int .u64 f.tgt) := by have := xbx.out.in 2 (by decide); rw [Nat.zero_add] at this; exact this
      have x3 : W1.cell? ⟨bx, 3, none⟩ = some (.int .i64 f.ord) := by have := xbx.out.in 3 (by decide); rw [Nat.zero_add] at this; exact this
      have x4 : W1.cell? ⟨bx, 4, none⟩ = some (.string f.sym) := by have := xbx.out.in 4 (by decide); rw [Nat.zero_add] at this; exact this
      have x5 : W1.cell? ⟨bx, 5, none⟩ = some (.int .i64 f.add) := by have := xbx.out.in 5 (by decide); rw [Nat.zero_add] at this; exact this
      have x6 : W1.cell? ⟨bx, 6, none⟩ = some (.bool f.weak) := by have := xbx.out.in 6 (by decide); rw [Nat.zero_add] at this; exact this
      go_wp2
      go_ret
      exact ⟨rfl, cbx.out⟩
    | true =>
      have q4 : f.add = 0 := by simpa using k4
      have hm : mayFx f = (!f.weak) := by rw [mayFx_reb q1, decide_eq_true q2, decide_eq_true q3, decide_eq_true q4, Bool.true_and, Bool.true_and, Bool.true_and]
      rw [hm]
      clear hm
      go_enter Tryz.func44, Tryz.ntmps44
      go_wp2_with ((with_reducible refine Lay.bxL (L := fxl) 53 f ?_ ?_); exact rfl; intro W1 bx ebx cbx xbx; replace ebx := Lib.hid ebx; replace cbx := Lib.hid cbx; replace xbx := Lib.hid xbx; refine Hid.out ?_)
      refine Lib.hid ?_
      have x1 : W1.cell? ⟨bx, 1, none⟩ = some (.int .i64 f.kind) := by have := xbx.out.in 1 (by decide); rw [Nat.zero_add] at this; exact this
      have x2 : W1.cell? ⟨bx, 2, none⟩ = some (.int .u64 f.tgt) := by have := xbx.out.in 2 (by decide); rw [Nat.zero_add] at this; exact this
      have x3 : W1.cell? ⟨bx, 3, none⟩ = some (.int .i64 f.ord) := by have := xbx.out.in 3 (by decide); rw [Nat.zero_add] at this; exact this
      have x4 : W1.cell? ⟨bx, 4, none⟩ = some (.string f.sym) := by have := xbx.out.in 4 (by decide); rw [Nat.zero_add] at this; exact this
      have x5 : W1.cell? ⟨bx, 5, none⟩ = some (.int .i64 f.add) := by have := xbx.out.in 5 (by decide); rw [Nat.zero_add] at this; exact this
      have x6 : W1.cell? ⟨bx, 6, none⟩ = some (.bool f.weak) := by have := xbx.out.in 6 (by decide); rw [Nat.zero_add] at this; exact this
      go_wp2
      go_ret
      exact ⟨rfl, cbx.out⟩
  | false =>
    have q1 : ¬ f.kind = 1 := by simpa using k1
    have k1b : (f.kind != 1) = true := by simp only [bne, k1]; rfl
    cases k2 : (f.kind == 2) with
    | false =>
      have q2 : ¬ f.kind = 2 := by simpa using k2
      have k2b : (f.kind != 2) = true := by simp only [bne, k2]; rfl
      have hm : mayFx f = false := by exact mayFx_no q1 q2
      rw [hm]
      clear hm
      go_enter Tryz.func44, Tryz.ntmps44
      go_wp2_with ((with_reducible refine Lay.bxL (L := fxl) 53 f ?_ ?_); exact rfl; intro W1 bx ebx cbx xbx; replace ebx := Lib.hid ebx; replace cbx := Lib.hid cbx; replace xbx := Lib.hid xbx; refine Hid.out ?_)
      refine Lib.hid ?_
      have x1 : W1.cell? ⟨bx, 1, none⟩ = some (.int .i64 f.kind) := by have := xbx.out.in 1 (by decide); rw [Nat.zero_add] at this; exact this
      have x2 : W1.cell? ⟨bx, 2, none⟩ = some (.int .u64 f.tgt) := by have := xbx.out.in 2 (by decide); rw [Nat.zero_add] at this; exact this
      have x3 : W1.cell? ⟨bx, 3, none⟩ = some (.int .i64 f.ord) := by have := xbx.out.in 3 (by decide); rw [Nat.zero_add] at this; exact this
      have x4 : W1.cell? ⟨bx, 4, none⟩ = some (.string f.sym) := by have := xbx.out.in 4 (by decide); rw [Nat.zero_add] at this; exact this
      have x5 : W1.cell? ⟨bx, 5, none⟩ = some (.int .i64 f.add) := by have := xbx.out.in 5 (by decide); rw [Nat.zero_add] at this; exact this
      have x6 : W1.cell? ⟨bx, 6, none⟩ = some (.bool f.weak) := by have := xbx.out.in 6 (by decide); rw [Nat.zero_add] at this; exact this
      go_wp2
      go_ret
      exact ⟨rfl, cbx.out⟩
    | true =>
    have q2 : f.kind = 2 := by simpa using k2
    have k2b : (f.kind != 2) = false := by simp only [bne, k2]; rfl
    have hmf := mayFx_two q2
    cases k3 : (f.tgt == 0) with
    | false =>
      have q3 : ¬ f.tgt = 0 := by simpa using k3
      have k3b : (f.tgt != 0) = true := by simp only [bne, k3]; rfl
      have hm : mayFx f = false := by rw [hmf, decide_eq_false (fun h => q3 h.1), Bool.false_and]
      rw [hm]
      clear hm
      go_enter Tryz.func44, Tryz.ntmps44
      go_wp2_with ((with_reducible refine Lay.bxL (L := fxl) 53 f ?_ ?_); exact rfl; intro W1 bx ebx cbx xbx; replace ebx := Lib.hid ebx; replace cbx := Lib.hid cbx; replace xbx := Lib.hid xbx; refine Hid.out ?_)
      refine Lib.hid ?_
      have x1 : W1.cell? ⟨bx, 1, none⟩ = some (.int .i64 f.kind) := by have := xbx.out.in 1 (by decide); rw [Nat.zero_add] at this; exact this
      have x2 : W1.cell? ⟨bx, 2, none⟩ = some (.int .u64 f.tgt) := by have := xbx.out.in 2 (by decide); rw [Nat.zero_add] at this; exact this
      have x3 : W1.cell? ⟨bx, 3, none⟩ = some (.int .i64 f.ord) := by have := xbx.out.in 3 (by decide); rw [Nat.zero_add] at this; exact this
      have x4 : W1.cell? ⟨bx, 4, none⟩ = some (.string f.sym) := by have := xbx.out.in 4 (by decide); rw [Nat.zero_add] at this; exact this
      have x5 : W1.cell? ⟨bx, 5, none⟩ = some (.int .i64 f.add) := by have := xbx.out.in 5 (by decide); rw [Nat.zero_add] at this; exact this
      have x6 : W1.cell? ⟨bx, 6, none⟩ = some (.bool f.weak) := by have := xbx.out.in 6 (by decide); rw [Nat.zero_add] at this; exact this
      go_wp2
      go_ret
      exact ⟨rfl, cbx.out⟩
    | true =>
    have q3 : f.tgt = 0 := by simpa using k3
    have k3b : (f.tgt != 0) = false := by simp only [bne, k3]; rfl
    by_cases q4 : f.ord < -3
    · have k4 : decide (f.ord < -3) = true := decide_eq_true q4
      have hm : mayFx f = false := by rw [hmf, decide_eq_false (fun h => absurd h.2.1 (by omega)), Bool.false_and]
      rw [hm]
      clear hm
      go_enter Tryz.func44, Tryz.ntmps44
      go_wp2_with ((with_reducible refine Lay.bxL (L := fxl) 53 f ?_ ?_); exact rfl; intro W1 bx ebx cbx xbx; replace ebx := Lib.hid ebx; replace cbx := Lib.hid cbx; replace xbx := Lib.hid xbx; refine Hid.out ?_)
      refine Lib.hid ?_
      have x1 : W1.cell? ⟨bx, 1, none⟩ = some (.int .i64 f.kind) := by have := xbx.out.in 1 (by decide); rw [Nat.zero_add] at this; exact this
      have x2 : W1.cell? ⟨bx, 2, none⟩ = some (.int .u64 f.tgt) := by have := xbx.out.in 2 (by decide); rw [Nat.zero_add] at this; exact this
      have x3 : W1.cell? ⟨bx, 3, none⟩ = some (.int .i64 f.ord) := by have := xbx.out.in 3 (by decide); rw [Nat.zero_add] at this; exact this
      have x4 : W1.cell? ⟨bx, 4, none⟩ = some (.string f.sym) := by have := xbx.out.in 4 (by decide); rw [Nat.zero_add] at this; exact this
      have x5 : W1.cell? ⟨bx, 5, none⟩ = some (.int .i64 f.add) := by have := xbx.out.in 5 (by decide); rw [Nat.zero_add] at this; exact this
      have x6 : W1.cell? ⟨bx, 6, none⟩ = some (.bool f.weak) := by have := xbx.out.in 6 (by decide); rw [Nat.zero_add] at this; exact this
      go_wp2
      go_ret
      exact ⟨rfl, cbx.out⟩
    have k4 : decide (f.ord < -3) = false := decide_eq_false q4
    by_cases q5 : 64 < f.ord
    · have k5 : decide (64 < f.ord) = true := decide_eq_true q5
      have hm : mayFx f = false := by rw [hmf, decide_eq_false (fun h => absurd h.2.2.1 (by omega)), Bool.false_and]
      rw [hm]
      clear hm
      go_enter Tryz.func44, Tryz.ntmps44
      go_wp2_with ((with_reducible refine Lay.bxL (L := fxl) 53 f ?_ ?_); exact rfl; intro W1 bx ebx cbx xbx; replace ebx := Lib.hid ebx; replace cbx := Lib.hid cbx; replace xbx := Lib.hid xbx; refine Hid.out ?_)
      refine Lib.hid ?_
      have x1 : W1.cell? ⟨bx, 1, none⟩ = some (.int .i64 f.kind) := by have := xbx.out.in 1 (by decide); rw [Nat.zero_add] at this; exact this
      have x2 : W1.cell? ⟨bx, 2, none⟩ = some (.int .u64 f.tgt) := by have := xbx.out.in 2 (by decide); rw [Nat.zero_add] at this; exact this
      have x3 : W1.cell? ⟨bx, 3, none⟩ = some (.int .i64 f.ord) := by have := xbx.out.in 3 (by decide); rw [Nat.zero_add] at this; exact this
      have x4 : W1.cell? ⟨bx, 4, none⟩ = some (.string f.sym) := by have := xbx.out.in 4 (by decide); rw [Nat.zero_add] at this; exact this
      have x5 : W1.cell? ⟨bx, 5, none⟩ = some (.int .i64 f.add) := by have := xbx.out.in 5 (by decide); rw [Nat.zero_add] at this; exact this
      have x6 : W1.cell? ⟨bx, 6, none⟩ = some (.bool f.weak) := by have := xbx.out.in 6 (by decide); rw [Nat.zero_add] at this; exact this
      go_wp2
      go_ret
      exact ⟨rfl, cbx.out⟩
    have k5 : decide (64 < f.ord) = false := decide_eq_false q5
    have hsz : f.sym.toList.length = f.sym.size := by rw [Lib.toList_data, Array.length_toList]; rfl
    by_cases z1 : f.sym.size = 0
    · have k6 : decide ((f.sym.size : Int) < 1) = true := by simp; omega
      have hm : mayFx f = false := by rw [hmf, decide_eq_false (fun h => h.2.2.2.1 (List.eq_nil_of_length_eq_zero (by omega))), Bool.false_and]
      rw [hm]
      clear hm
      go_enter Tryz.func44, Tryz.ntmps44
      go_wp2_with ((with_reducible refine Lay.bxL (L := fxl) 53 f ?_ ?_); exact rfl; intro W1 bx ebx cbx xbx; replace ebx := Lib.hid ebx; replace cbx := Lib.hid cbx; replace xbx := Lib.hid xbx; refine Hid.out ?_)
      refine Lib.hid ?_
      have x1 : W1.cell? ⟨bx, 1, none⟩ = some (.int .i64 f.kind) := by have := xbx.out.in 1 (by decide); rw [Nat.zero_add] at this; exact this
      have x2 : W1.cell? ⟨bx, 2, none⟩ = some (.int .u64 f.tgt) := by have := xbx.out.in 2 (by decide); rw [Nat.zero_add] at this; exact this
      have x3 : W1.cell? ⟨bx, 3, none⟩ = some (.int .i64 f.ord) := by have := xbx.out.in 3 (by decide); rw [Nat.zero_add] at this; exact this
      have x4 : W1.cell? ⟨bx, 4, none⟩ = some (.string f.sym) := by have := xbx.out.in 4 (by decide); rw [Nat.zero_add] at this; exact this
      have x5 : W1.cell? ⟨bx, 5, none⟩ = some (.int .i64 f.add) := by have := xbx.out.in 5 (by decide); rw [Nat.zero_add] at this; exact this
      have x6 : W1.cell? ⟨bx, 6, none⟩ = some (.bool f.weak) := by have := xbx.out.in 6 (by decide); rw [Nat.zero_add] at this; exact this
      go_wp2
      go_ret
      exact ⟨rfl, cbx.out⟩
    have k6 : decide ((f.sym.size : Int) < 1) = false := by simp; omega
    by_cases z2 : f.sym.size ≤ 255
    case neg =>
      have k7 : decide ((255 : Int) < (f.sym.size : Int)) = true := by simp; omega
      have hm : mayFx f = false := by rw [hmf, decide_eq_false (fun h => z2 h.2.2.2.2), Bool.false_and]
      rw [hm]
      clear hm
      go_enter Tryz.func44, Tryz.ntmps44
      go_wp2_with ((with_reducible refine Lay.bxL (L := fxl) 53 f ?_ ?_); exact rfl; intro W1 bx ebx cbx xbx; replace ebx := Lib.hid ebx; replace cbx := Lib.hid cbx; replace xbx := Lib.hid xbx; refine Hid.out ?_)
      refine Lib.hid ?_
      have x1 : W1.cell? ⟨bx, 1, none⟩ = some (.int .i64 f.kind) := by have := xbx.out.in 1 (by decide); rw [Nat.zero_add] at this; exact this
      have x2 : W1.cell? ⟨bx, 2, none⟩ = some (.int .u64 f.tgt) := by have := xbx.out.in 2 (by decide); rw [Nat.zero_add] at this; exact this
      have x3 : W1.cell? ⟨bx, 3, none⟩ = some (.int .i64 f.ord) := by have := xbx.out.in 3 (by decide); rw [Nat.zero_add] at this; exact this
      have x4 : W1.cell? ⟨bx, 4, none⟩ = some (.string f.sym) := by have := xbx.out.in 4 (by decide); rw [Nat.zero_add] at this; exact this
      have x5 : W1.cell? ⟨bx, 5, none⟩ = some (.int .i64 f.add) := by have := xbx.out.in 5 (by decide); rw [Nat.zero_add] at this; exact this
      have x6 : W1.cell? ⟨bx, 6, none⟩ = some (.bool f.weak) := by have := xbx.out.in 6 (by decide); rw [Nat.zero_add] at this; exact this
      go_wp2
      go_ret
      exact ⟨rfl, cbx.out⟩
    have k7 : decide ((255 : Int) < (f.sym.size : Int)) = false := by simp; omega
    rw [decide_eq_true ⟨q3, by omega, by omega, fun e => z1 (by rw [← hsz, e]; rfl), z2⟩, Bool.true_and] at hmf
    rw [hmf]
    clear hmf hsz
    obtain ⟨sym, hsy⟩ : ∃ s, s = f.sym := ⟨_, rfl⟩
    rw [← hsy] at z1 z2 k6 k7 ⊢
    obtain ⟨R, hR⟩ : ∃ R, R = sym.data.toList.contains 0 := ⟨_, rfl⟩
    rw [← hR]
    have hgz : ∀ k (h : k < sym.size), sym.data.toList[k]? = some sym[k] := fun k h => by
      rw [Array.getElem?_toList]
      exact Array.getElem?_eq_getElem h
    have HR := Lib.hid hR
    have Hgz := Lib.hid hgz
    clear hR hgz
    go_enter Tryz.func44, Tryz.ntmps44
    go_wp2_with ((with_reducible refine Lay.bxL (L := fxl) 53 f ?_ ?_); exact rfl; intro W1 bx ebx cbx xbx; replace ebx := Lib.hid ebx; replace cbx := Lib.hid cbx; replace xbx := Lib.hid xbx; refine Hid.out ?_)
    refine Lib.hid ?_
    have x1 : W1.cell? ⟨bx, 1, none⟩ = some (.int .i64 f.kind) := by have := xbx.out.in 1 (by decide); rw [Nat.zero_add] at this; exact this
    have x2 : W1.cell? ⟨bx, 2, none⟩ = some (.int .u64 f.tgt) := by have := xbx.out.in 2 (by decide); rw [Nat.zero_add] at this; exact this
    have x3 : W1.cell? ⟨bx, 3, none⟩ = some (.int .i64 f.ord) := by have := xbx.out.in 3 (by decide); rw [Nat.zero_add] at this; exact this
    have x4 : W1.cell? ⟨bx, 4, none⟩ = some (.string f.sym) := by have := xbx.out.in 4 (by decide); rw [Nat.zero_add] at this; exact this
    have x5 : W1.cell? ⟨bx, 5, none⟩ = some (.int .i64 f.add) := by have := xbx.out.in 5 (by decide); rw [Nat.zero_add] at this; exact this
    have x6 : W1.cell? ⟨bx, 6, none⟩ = some (.bool f.weak) := by have := xbx.out.in 6 (by decide); rw [Nat.zero_add] at this; exact this
    rw [← hsy] at x4
    have Hsy := Lib.hid hsy
    have Z1 := Lib.hid z1
    clear hsy z1
    go_wp2_with fail
    go_loopw [3] (fun s3 wr => ∃ k : Nat, k ≤ sym.size ∧ s3 = .int .i64 (k : Int) ∧ wr = W1 ∧ ∀ j, j < k → sym.data.toList[j]? ≠ some 0) (fun s3 _ => sym.size - (intOf s3).toNat)
    case atStart => exact ⟨0, Nat.zero_le _, rfl, rfl, fun j hj => absurd hj (Nat.not_lt_zero _)⟩
    case round =>
      obtain ⟨k, hk, rfl, rfl, hno⟩ := hrel
      have Hno := Lib.hid hno
      clear hno
      by_cases hlt : k < sym.size
      · clear x1 x2 x3 x5 x6
        cases hz : (((sym[k]).toNat : Int) == 0) with
        | true =>
          have HQ : Hid (R = true) := by
            refine Lib.hid ?_
            have h0 : sym[k].toNat = 0 := by simpa using hz
            rw [HR.out, List.contains_iff_exists_mem_beq]
            exact ⟨0, List.mem_of_getElem? (by rw [Hgz.out k hlt, ← UInt8.toNat_inj.1 (show sym[k].toNat = (0 : UInt8).toNat from h0)]), rfl⟩
          go_wp2
          go_ret
          exact ⟨by rw [HQ.out]; rfl, cbx.out⟩
        | false =>
          have HNX : Hid (∀ j, j < k + 1 → sym.data.toList[j]? ≠ some 0) := by
            refine Lib.hid ?_
            intro j hj
            by_cases e : j = k
            · subst e
              rw [Hgz.out j hlt]
              intro e2
              rw [Option.some.inj e2] at hz
              exact absurd hz (by decide)
            · exact Hno.out j (by omega)
          go_wp2
          go_roundw
          case rel => exact ⟨k + 1, hlt, by go_num, by first | rfl | trivial, HNX.out⟩
          case measure => simp [intOf]; omega
      · obtain rfl : k = sym.size := by omega
        have HQ : Hid (R = false) := by
          refine Lib.hid ?_
          rw [HR.out, ← Bool.not_eq_true, List.contains_iff_exists_mem_beq]
          rintro ⟨x, hx, he⟩
          obtain ⟨j, hj, rfl⟩ := List.mem_iff_getElem.1 hx
          have := Hno.out j (by rw [Array.length_toList] at hj; exact hj)
          rw [List.getElem?_eq_getElem hj] at this
          have h0 : (0 : UInt8) = sym.data.toList[j] := by simpa using he
          exact this (congrArg some h0.symm)
        go_wp2
        go_ret
        exact ⟨by rw [HQ.out]; rfl, cbx.out⟩
end Go.Proofs.YtkomocgodljecaaGreatDoor
