/- clevisref12.May answers. -/
import Derived.Test.YtgmlcmmphhmogaaDm6
namespace Go.Proofs.Ytgmlcmmphhmogaa
open Go.RowKit
set_option maxRecDepth 100000

set_option maxHeartbeats 2000000 in
theorem rmay12_some (f : Fx) (w : World) : Calls Try.prog 4 #[fxl.val f] w fun e w' => (∃ b : Bool, e = .returned (.bool b)) ∧ Chg [] w w' := by
  cases k1 : (f.kind == 1) with
  | true =>
    cases k2 : (f.ord == 0) with
    | false =>
      go_enter Try.func4, Try.ntmps4
      go_wp2_with ((with_reducible refine Lay.bxL (L := fxl) 25 f ?_ ?_); exact rfl; intro W1 bx ebx cbx xbx; replace ebx := Lib.hid ebx; replace cbx := Lib.hid cbx; replace xbx := Lib.hid xbx; refine Hid.out ?_)
      refine Lib.hid ?_
      have x1 : W1.cell? ⟨bx, 1, none⟩ = some (.int .i64 f.kind) := by have := xbx.out.in 1 (by decide); rw [Nat.zero_add] at this; exact this
      have x2 : W1.cell? ⟨bx, 2, none⟩ = some (.int .u64 f.tgt) := by have := xbx.out.in 2 (by decide); rw [Nat.zero_add] at this; exact this
      have x3 : W1.cell? ⟨bx, 3, none⟩ = some (.int .i64 f.ord) := by have := xbx.out.in 3 (by decide); rw [Nat.zero_add] at this; exact this
      have x4 : W1.cell? ⟨bx, 4, none⟩ = some (.string f.sym) := by have := xbx.out.in 4 (by decide); rw [Nat.zero_add] at this; exact this
      have x5 : W1.cell? ⟨bx, 5, none⟩ = some (.int .i64 f.add) := by have := xbx.out.in 5 (by decide); rw [Nat.zero_add] at this; exact this
      have x6 : W1.cell? ⟨bx, 6, none⟩ = some (.bool f.weak) := by have := xbx.out.in 6 (by decide); rw [Nat.zero_add] at this; exact this
      go_wp2
      go_ret
      exact ⟨⟨_, rfl⟩, cbx.out⟩
    | true =>
    cases k3 : f.sym.toList.isEmpty with
    | false =>
      have k3b : ¬ f.sym.toList = [] := by intro e; rw [e] at k3; cases k3
      go_enter Try.func4, Try.ntmps4
      go_wp2_with ((with_reducible refine Lay.bxL (L := fxl) 25 f ?_ ?_); exact rfl; intro W1 bx ebx cbx xbx; replace ebx := Lib.hid ebx; replace cbx := Lib.hid cbx; replace xbx := Lib.hid xbx; refine Hid.out ?_)
      refine Lib.hid ?_
      have x1 : W1.cell? ⟨bx, 1, none⟩ = some (.int .i64 f.kind) := by have := xbx.out.in 1 (by decide); rw [Nat.zero_add] at this; exact this
      have x2 : W1.cell? ⟨bx, 2, none⟩ = some (.int .u64 f.tgt) := by have := xbx.out.in 2 (by decide); rw [Nat.zero_add] at this; exact this
      have x3 : W1.cell? ⟨bx, 3, none⟩ = some (.int .i64 f.ord) := by have := xbx.out.in 3 (by decide); rw [Nat.zero_add] at this; exact this
      have x4 : W1.cell? ⟨bx, 4, none⟩ = some (.string f.sym) := by have := xbx.out.in 4 (by decide); rw [Nat.zero_add] at this; exact this
      have x5 : W1.cell? ⟨bx, 5, none⟩ = some (.int .i64 f.add) := by have := xbx.out.in 5 (by decide); rw [Nat.zero_add] at this; exact this
      have x6 : W1.cell? ⟨bx, 6, none⟩ = some (.bool f.weak) := by have := xbx.out.in 6 (by decide); rw [Nat.zero_add] at this; exact this
      go_wp2
      go_ret
      exact ⟨⟨_, rfl⟩, cbx.out⟩
    | true =>
    have k3b : f.sym.toList = [] := List.isEmpty_iff.1 k3
    cases k4 : (f.add == 0) with
    | false =>
      go_enter Try.func4, Try.ntmps4
      go_wp2_with ((with_reducible refine Lay.bxL (L := fxl) 25 f ?_ ?_); exact rfl; intro W1 bx ebx cbx xbx; replace ebx := Lib.hid ebx; replace cbx := Lib.hid cbx; replace xbx := Lib.hid xbx; refine Hid.out ?_)
      refine Lib.hid ?_
      have x1 : W1.cell? ⟨bx, 1, none⟩ = some (.int .i64 f.kind) := by have := xbx.out.in 1 (by decide); rw [Nat.zero_add] at this; exact this
      have x2 : W1.cell? ⟨bx, 2, none⟩ = some (.int .u64 f.tgt) := by have := xbx.out.in 2 (by decide); rw [Nat.zero_add] at this; exact this
      have x3 : W1.cell? ⟨bx, 3, none⟩ = some (.int .i64 f.ord) := by have := xbx.out.in 3 (by decide); rw [Nat.zero_add] at this; exact this
      have x4 : W1.cell? ⟨bx, 4, none⟩ = some (.string f.sym) := by have := xbx.out.in 4 (by decide); rw [Nat.zero_add] at this; exact this
      have x5 : W1.cell? ⟨bx, 5, none⟩ = some (.int .i64 f.add) := by have := xbx.out.in 5 (by decide); rw [Nat.zero_add] at this; exact this
      have x6 : W1.cell? ⟨bx, 6, none⟩ = some (.bool f.weak) := by have := xbx.out.in 6 (by decide); rw [Nat.zero_add] at this; exact this
      go_wp2
      go_ret
      exact ⟨⟨_, rfl⟩, cbx.out⟩
    | true =>
      go_enter Try.func4, Try.ntmps4
      go_wp2_with ((with_reducible refine Lay.bxL (L := fxl) 25 f ?_ ?_); exact rfl; intro W1 bx ebx cbx xbx; replace ebx := Lib.hid ebx; replace cbx := Lib.hid cbx; replace xbx := Lib.hid xbx; refine Hid.out ?_)
      refine Lib.hid ?_
      have x1 : W1.cell? ⟨bx, 1, none⟩ = some (.int .i64 f.kind) := by have := xbx.out.in 1 (by decide); rw [Nat.zero_add] at this; exact this
      have x2 : W1.cell? ⟨bx, 2, none⟩ = some (.int .u64 f.tgt) := by have := xbx.out.in 2 (by decide); rw [Nat.zero_add] at this; exact this
      have x3 : W1.cell? ⟨bx, 3, none⟩ = some (.int .i64 f.ord) := by have := xbx.out.in 3 (by decide); rw [Nat.zero_add] at this; exact this
      have x4 : W1.cell? ⟨bx, 4, none⟩ = some (.string f.sym) := by have := xbx.out.in 4 (by decide); rw [Nat.zero_add] at this; exact this
      have x5 : W1.cell? ⟨bx, 5, none⟩ = some (.int .i64 f.add) := by have := xbx.out.in 5 (by decide); rw [Nat.zero_add] at this; exact this
      have x6 : W1.cell? ⟨bx, 6, none⟩ = some (.bool f.weak) := by have := xbx.out.in 6 (by decide); rw [Nat.zero_add] at this; exact this
      go_wp2
      go_ret
      exact ⟨⟨_, rfl⟩, cbx.out⟩
  | false =>
    have k1b : (f.kind != 1) = true := by simp only [bne, k1]; rfl
    cases k2 : (f.kind == 2) with
    | false =>
      have k2b : (f.kind != 2) = true := by simp only [bne, k2]; rfl
      go_enter Try.func4, Try.ntmps4
      go_wp2_with ((with_reducible refine Lay.bxL (L := fxl) 25 f ?_ ?_); exact rfl; intro W1 bx ebx cbx xbx; replace ebx := Lib.hid ebx; replace cbx := Lib.hid cbx; replace xbx := Lib.hid xbx; refine Hid.out ?_)
      refine Lib.hid ?_
      have x1 : W1.cell? ⟨bx, 1, none⟩ = some (.int .i64 f.kind) := by have := xbx.out.in 1 (by decide); rw [Nat.zero_add] at this; exact this
      have x2 : W1.cell? ⟨bx, 2, none⟩ = some (.int .u64 f.tgt) := by have := xbx.out.in 2 (by decide); rw [Nat.zero_add] at this; exact this
      have x3 : W1.cell? ⟨bx, 3, none⟩ = some (.int .i64 f.ord) := by have := xbx.out.in 3 (by decide); rw [Nat.zero_add] at this; exact this
      have x4 : W1.cell? ⟨bx, 4, none⟩ = some (.string f.sym) := by have := xbx.out.in 4 (by decide); rw [Nat.zero_add] at this; exact this
      have x5 : W1.cell? ⟨bx, 5, none⟩ = some (.int .i64 f.add) := by have := xbx.out.in 5 (by decide); rw [Nat.zero_add] at this; exact this
      have x6 : W1.cell? ⟨bx, 6, none⟩ = some (.bool f.weak) := by have := xbx.out.in 6 (by decide); rw [Nat.zero_add] at this; exact this
      go_wp2
      go_ret
      exact ⟨⟨_, rfl⟩, cbx.out⟩
    | true =>
    have k2b : (f.kind != 2) = false := by simp only [bne, k2]; rfl
    cases k3 : (f.tgt == 0) with
    | false =>
      have k3b : (f.tgt != 0) = true := by simp only [bne, k3]; rfl
      go_enter Try.func4, Try.ntmps4
      go_wp2_with ((with_reducible refine Lay.bxL (L := fxl) 25 f ?_ ?_); exact rfl; intro W1 bx ebx cbx xbx; replace ebx := Lib.hid ebx; replace cbx := Lib.hid cbx; replace xbx := Lib.hid xbx; refine Hid.out ?_)
      refine Lib.hid ?_
      have x1 : W1.cell? ⟨bx, 1, none⟩ = some (.int .i64 f.kind) := by have := xbx.out.in 1 (by decide); rw [Nat.zero_add] at this; exact this
      have x2 : W1.cell? ⟨bx, 2, none⟩ = some (.int .u64 f.tgt) := by have := xbx.out.in 2 (by decide); rw [Nat.zero_add] at this; exact this
      have x3 : W1.cell? ⟨bx, 3, none⟩ = some (.int .i64 f.ord) := by have := xbx.out.in 3 (by decide); rw [Nat.zero_add] at this; exact this
      have x4 : W1.cell? ⟨bx, 4, none⟩ = some (.string f.sym) := by have := xbx.out.in 4 (by decide); rw [Nat.zero_add] at this; exact this
      have x5 : W1.cell? ⟨bx, 5, none⟩ = some (.int .i64 f.add) := by have := xbx.out.in 5 (by decide); rw [Nat.zero_add] at this; exact this
      have x6 : W1.cell? ⟨bx, 6, none⟩ = some (.bool f.weak) := by have := xbx.out.in 6 (by decide); rw [Nat.zero_add] at this; exact this
      go_wp2
      go_ret
      exact ⟨⟨_, rfl⟩, cbx.out⟩
    | true =>
    have k3b : (f.tgt != 0) = false := by simp only [bne, k3]; rfl
    cases k4 : decide (f.ord < -3) with
    | true =>
      go_enter Try.func4, Try.ntmps4
      go_wp2_with ((with_reducible refine Lay.bxL (L := fxl) 25 f ?_ ?_); exact rfl; intro W1 bx ebx cbx xbx; replace ebx := Lib.hid ebx; replace cbx := Lib.hid cbx; replace xbx := Lib.hid xbx; refine Hid.out ?_)
      refine Lib.hid ?_
      have x1 : W1.cell? ⟨bx, 1, none⟩ = some (.int .i64 f.kind) := by have := xbx.out.in 1 (by decide); rw [Nat.zero_add] at this; exact this
      have x2 : W1.cell? ⟨bx, 2, none⟩ = some (.int .u64 f.tgt) := by have := xbx.out.in 2 (by decide); rw [Nat.zero_add] at this; exact this
      have x3 : W1.cell? ⟨bx, 3, none⟩ = some (.int .i64 f.ord) := by have := xbx.out.in 3 (by decide); rw [Nat.zero_add] at this; exact this
      have x4 : W1.cell? ⟨bx, 4, none⟩ = some (.string f.sym) := by have := xbx.out.in 4 (by decide); rw [Nat.zero_add] at this; exact this
      have x5 : W1.cell? ⟨bx, 5, none⟩ = some (.int .i64 f.add) := by have := xbx.out.in 5 (by decide); rw [Nat.zero_add] at this; exact this
      have x6 : W1.cell? ⟨bx, 6, none⟩ = some (.bool f.weak) := by have := xbx.out.in 6 (by decide); rw [Nat.zero_add] at this; exact this
      go_wp2
      go_ret
      exact ⟨⟨_, rfl⟩, cbx.out⟩
    | false =>
    cases k5 : decide (64 < f.ord) with
    | true =>
      go_enter Try.func4, Try.ntmps4
      go_wp2_with ((with_reducible refine Lay.bxL (L := fxl) 25 f ?_ ?_); exact rfl; intro W1 bx ebx cbx xbx; replace ebx := Lib.hid ebx; replace cbx := Lib.hid cbx; replace xbx := Lib.hid xbx; refine Hid.out ?_)
      refine Lib.hid ?_
      have x1 : W1.cell? ⟨bx, 1, none⟩ = some (.int .i64 f.kind) := by have := xbx.out.in 1 (by decide); rw [Nat.zero_add] at this; exact this
      have x2 : W1.cell? ⟨bx, 2, none⟩ = some (.int .u64 f.tgt) := by have := xbx.out.in 2 (by decide); rw [Nat.zero_add] at this; exact this
      have x3 : W1.cell? ⟨bx, 3, none⟩ = some (.int .i64 f.ord) := by have := xbx.out.in 3 (by decide); rw [Nat.zero_add] at this; exact this
      have x4 : W1.cell? ⟨bx, 4, none⟩ = some (.string f.sym) := by have := xbx.out.in 4 (by decide); rw [Nat.zero_add] at this; exact this
      have x5 : W1.cell? ⟨bx, 5, none⟩ = some (.int .i64 f.add) := by have := xbx.out.in 5 (by decide); rw [Nat.zero_add] at this; exact this
      have x6 : W1.cell? ⟨bx, 6, none⟩ = some (.bool f.weak) := by have := xbx.out.in 6 (by decide); rw [Nat.zero_add] at this; exact this
      go_wp2
      go_ret
      exact ⟨⟨_, rfl⟩, cbx.out⟩
    | false =>
    by_cases z1 : f.sym.size = 0
    · have k6 : decide ((f.sym.size : Int) < 1) = true := by simp; omega
      go_enter Try.func4, Try.ntmps4
      go_wp2_with ((with_reducible refine Lay.bxL (L := fxl) 25 f ?_ ?_); exact rfl; intro W1 bx ebx cbx xbx; replace ebx := Lib.hid ebx; replace cbx := Lib.hid cbx; replace xbx := Lib.hid xbx; refine Hid.out ?_)
      refine Lib.hid ?_
      have x1 : W1.cell? ⟨bx, 1, none⟩ = some (.int .i64 f.kind) := by have := xbx.out.in 1 (by decide); rw [Nat.zero_add] at this; exact this
      have x2 : W1.cell? ⟨bx, 2, none⟩ = some (.int .u64 f.tgt) := by have := xbx.out.in 2 (by decide); rw [Nat.zero_add] at this; exact this
      have x3 : W1.cell? ⟨bx, 3, none⟩ = some (.int .i64 f.ord) := by have := xbx.out.in 3 (by decide); rw [Nat.zero_add] at this; exact this
      have x4 : W1.cell? ⟨bx, 4, none⟩ = some (.string f.sym) := by have := xbx.out.in 4 (by decide); rw [Nat.zero_add] at this; exact this
      have x5 : W1.cell? ⟨bx, 5, none⟩ = some (.int .i64 f.add) := by have := xbx.out.in 5 (by decide); rw [Nat.zero_add] at this; exact this
      have x6 : W1.cell? ⟨bx, 6, none⟩ = some (.bool f.weak) := by have := xbx.out.in 6 (by decide); rw [Nat.zero_add] at this; exact this
      go_wp2
      go_ret
      exact ⟨⟨_, rfl⟩, cbx.out⟩
    have k6 : decide ((f.sym.size : Int) < 1) = false := by simp; omega
    by_cases z2 : f.sym.size ≤ 255
    case neg =>
      have k7 : decide ((255 : Int) < (f.sym.size : Int)) = true := by simp; omega
      go_enter Try.func4, Try.ntmps4
      go_wp2_with ((with_reducible refine Lay.bxL (L := fxl) 25 f ?_ ?_); exact rfl; intro W1 bx ebx cbx xbx; replace ebx := Lib.hid ebx; replace cbx := Lib.hid cbx; replace xbx := Lib.hid xbx; refine Hid.out ?_)
      refine Lib.hid ?_
      have x1 : W1.cell? ⟨bx, 1, none⟩ = some (.int .i64 f.kind) := by have := xbx.out.in 1 (by decide); rw [Nat.zero_add] at this; exact this
      have x2 : W1.cell? ⟨bx, 2, none⟩ = some (.int .u64 f.tgt) := by have := xbx.out.in 2 (by decide); rw [Nat.zero_add] at this; exact this
      have x3 : W1.cell? ⟨bx, 3, none⟩ = some (.int .i64 f.ord) := by have := xbx.out.in 3 (by decide); rw [Nat.zero_add] at this; exact this
      have x4 : W1.cell? ⟨bx, 4, none⟩ = some (.string f.sym) := by have := xbx.out.in 4 (by decide); rw [Nat.zero_add] at this; exact this
      have x5 : W1.cell? ⟨bx, 5, none⟩ = some (.int .i64 f.add) := by have := xbx.out.in 5 (by decide); rw [Nat.zero_add] at this; exact this
      have x6 : W1.cell? ⟨bx, 6, none⟩ = some (.bool f.weak) := by have := xbx.out.in 6 (by decide); rw [Nat.zero_add] at this; exact this
      go_wp2
      go_ret
      exact ⟨⟨_, rfl⟩, cbx.out⟩
    have k7 : decide ((255 : Int) < (f.sym.size : Int)) = false := by simp; omega
    obtain ⟨sym, hsy⟩ : ∃ s, s = f.sym := ⟨_, rfl⟩
    rw [← hsy] at z1 z2 k6 k7
    go_enter Try.func4, Try.ntmps4
    go_wp2_with ((with_reducible refine Lay.bxL (L := fxl) 25 f ?_ ?_); exact rfl; intro W1 bx ebx cbx xbx; replace ebx := Lib.hid ebx; replace cbx := Lib.hid cbx; replace xbx := Lib.hid xbx; refine Hid.out ?_)
    refine Lib.hid ?_
    have x1 : W1.cell? ⟨bx, 1, none⟩ = some (.int .i64 f.kind) := by have := xbx.out.in 1 (by decide); rw [Nat.zero_add] at this; exact this
    have x2 : W1.cell? ⟨bx, 2, none⟩ = some (.int .u64 f.tgt) := by have := xbx.out.in 2 (by decide); rw [Nat.zero_add] at this; exact this
    have x3 : W1.cell? ⟨bx, 3, none⟩ = some (.int .i64 f.ord) := by have := xbx.out.in 3 (by decide); rw [Nat.zero_add] at this; exact this
    have x4 : W1.cell? ⟨bx, 4, none⟩ = some (.string f.sym) := by have := xbx.out.in 4 (by decide); rw [Nat.zero_add] at this; exact this
    have x5 : W1.cell? ⟨bx, 5, none⟩ = some (.int .i64 f.add) := by have := xbx.out.in 5 (by decide); rw [Nat.zero_add] at this; exact this
    have x6 : W1.cell? ⟨bx, 6, none⟩ = some (.bool f.weak) := by have := xbx.out.in 6 (by decide); rw [Nat.zero_add] at this; exact this
    rw [← hsy] at x4
    have Hsy := Lib.hid hsy
    have Z1 := Lib.hid z1
    clear hsy z1
    go_wp2_with fail
    go_loopw [3] (fun s3 wr => ∃ k : Nat, k ≤ sym.size ∧ s3 = .int .i64 (k : Int) ∧ wr = W1) (fun s3 _ => sym.size - (intOf s3).toNat)
    case atStart => exact ⟨0, Nat.zero_le _, rfl, rfl⟩
    case round =>
      obtain ⟨k, hk, rfl, rfl⟩ := hrel
      by_cases hlt : k < sym.size
      · clear x1 x2 x3 x5 x6
        cases hz : (((sym[k]).toNat : Int) == 0) with
        | true =>
          go_wp2
          go_ret
          exact ⟨⟨_, rfl⟩, cbx.out⟩
        | false =>
          go_wp2
          go_roundw
          case rel => exact ⟨k + 1, hlt, by go_num, trivial⟩
          case measure => simp [intOf]; omega
      · obtain rfl : k = sym.size := by omega
        go_wp2
        go_ret
        exact ⟨⟨_, rfl⟩, cbx.out⟩
/-- makeSlice of so many fixups. -/
theorem makeF (n : Nat) (hn : n ≤ 100000) : ∃ o, ∀ w : World, (Instr.makeSlice 28 (.int .i64 (n : Int)) (.int .i64 (n : Int))).run Try.prog w = .ok (.slice (some ⟨w.heap.size, 0, none⟩) n n) (w.alloc o) ∧ FB (w.alloc o) w.heap.size (.slice (some ⟨w.heap.size, 0, none⟩) n n) (List.replicate n .zero) := by
  obtain ⟨i, z, hi, hz, hz1, hz2, hz3⟩ := Try.infoFxL.i
  have hz' : i.zero = some (.agg #[.int .u64 0, .int .i64 0, .int .u64 0, .int .i64 0, .string ⟨#[]⟩, .int .i64 0, .bool false]) := by
    have e : (Try.prog.info? 25).map (fun i => i.zero) = some (some (.agg #[.int .u64 0, .int .i64 0, .int .u64 0, .int .i64 0, .string ⟨#[]⟩, .int .i64 0, .bool false])) := by kernel_rfl
    rw [hi] at e
    simpa using e
  have hb : (i.bytes : Int) * (n : Int) ≤ 281474976710656 := by rw [hz2]; omega
  have hr := fun w => run_make (P := Try.prog) w 28 25 i _ Try.infoFxL.u hi hz' .i64 .i64 n n (by omega) (by omega) hb (by omega)
  simp only [Int.toNat_natCast] at hr
  refine ⟨_, fun w => ⟨hr w, Lay.Buf.of_heap (heap_alloc_eq w _) ?_ (by simp) (by simp; unfold maxLen; omega) (Nat.le_refl _)⟩⟩
  rw [hz1]
  show (madeCells #[Value.int .u64 0, .int .i64 0, .int .u64 0, .int .i64 0, .string ⟨#[]⟩, .int .i64 0, .bool false] (n * 7)).toList = _
  apply List.ext_getElem?
  intro j
  by_cases hj : j < n * 7
  · have h1 : j / 7 < n := by omega
    have h2 : j % 7 < 7 := Nat.mod_lt _ (by decide)
    have h3 : j / 7 * 7 + j % 7 = j := by omega
    have hv := Lay.vals_get (L := fxl) (List.replicate n .zero) (j / 7) (j % 7) (by rw [List.length_replicate]; exact h1) h2
    rw [show fxl.n = 7 from rfl, h3] at hv
    have hg : (List.replicate n Fx.zero).getD (j / 7) fxl.d = Fx.zero := by simp [List.getD_eq_getElem?_getD, h1]
    rw [hv, hg]
    simp [madeCells, hj]
    match hm : j % 7, h2 with
    | 0, _ => rfl
    | 1, _ => rfl
    | 2, _ => rfl
    | 3, _ => rfl
    | 4, _ => rfl
    | 5, _ => rfl
    | 6, _ => rfl
  · rw [List.getElem?_eq_none (by simp [madeCells]; omega), List.getElem?_eq_none (by rw [Lay.vals_len, List.length_replicate]; show n * 7 ≤ j; omega)]
end Go.Proofs.Ytgmlcmmphhmogaa
