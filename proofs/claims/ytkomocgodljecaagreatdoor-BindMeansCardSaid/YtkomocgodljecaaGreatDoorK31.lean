/- Lemmas, laid together: part 31 of 41. Conditions: none but each lemma's own. -/
import Derived.Test.YtkomocgodljecaaGreatDoorK30
/- fixup.May, of any fixup. -/
namespace Go.Proofs.YtkomocgodljecaaGreatDoor
open Go.RowKit
set_option maxRecDepth 100000

/-- May a fixup be? -/
def mayFx (f : Fx) : Bool :=
  if f.kind = 1 then decide (f = ⟨f.at_, 1, f.tgt, 0, ⟨#[]⟩, 0, false⟩)
  else if f.kind = 2 then decide (f.tgt = 0 ∧ -3 ≤ f.ord ∧ f.ord ≤ 64 ∧ f.sym.toList ≠ [] ∧ f.sym.size ≤ 255) && !decide (0 ≤ Lib.indexByte f.sym.data.toList 0)
  else false
set_option maxHeartbeats 4000000 in
theorem May_any (f : Fx) (w : World) : Calls Tryz.prog 38 #[fxl.val f] w fun e w' => e = .returned (.bool (mayFx f)) ∧ Chg [] w w' := by
  by_cases h1 : f.kind = 1
  · have he : mayFx f = decide (f = ⟨f.at_, 1, f.tgt, 0, ⟨#[]⟩, 0, false⟩) := by unfold mayFx; rw [if_pos h1]
    rw [he]
    have heq : ∀ W : World, (binOp .eql 53 (.agg (fxl.f f).toArray) (.agg #[.int .u64 f.at_, .int .i64 1, .int .u64 f.tgt, .int .i64 0, .string ⟨#[]⟩, .int .i64 0, .bool false])).run Tryz.prog W = .ok (.bool (decide (f = ⟨f.at_, 1, f.tgt, 0, ⟨#[]⟩, 0, false⟩))) W := fun W => fx_eql f ⟨f.at_, 1, f.tgt, 0, ⟨#[]⟩, 0, false⟩ W
    generalize decide (f = ⟨f.at_, 1, f.tgt, 0, ⟨#[]⟩, 0, false⟩) = q at *
    have He := Lib.hid he
    clear he
    go_enter Tryz.func38, Tryz.ntmps38
    go_wp2_with ((with_reducible refine Lay.bxL (L := fxl) 53 f ?_ ?_); exact rfl; intro W1 bx ebx cbx xbx; replace ebx := Lib.hid ebx; replace cbx := Lib.hid cbx; replace xbx := Lib.hid xbx; refine Hid.out ?_)
    refine Lib.hid ?_
    have x0 : W1.cell? ⟨bx, 0, none⟩ = some (.int .u64 f.at_) := by have := xbx.out.in 0 (by decide); rw [Nat.zero_add] at this; exact this
    have x1 : W1.cell? ⟨bx, 1, none⟩ = some (.int .i64 f.kind) := by have := xbx.out.in 1 (by decide); rw [Nat.zero_add] at this; exact this
    have x2 : W1.cell? ⟨bx, 2, none⟩ = some (.int .u64 f.tgt) := by have := xbx.out.in 2 (by decide); rw [Nat.zero_add] at this; exact this
    have x3 : W1.cell? ⟨bx, 3, none⟩ = some (.int .i64 f.ord) := by have := xbx.out.in 3 (by decide); rw [Nat.zero_add] at this; exact this
    have x4 : W1.cell? ⟨bx, 4, none⟩ = some (.string f.sym) := by have := xbx.out.in 4 (by decide); rw [Nat.zero_add] at this; exact this
    rw [h1] at x1
    go_wp2_with ((with_reducible refine Lay.ldL Tryz.tFx f (xbx.out.in) ?_ ?_); exact rfl; refine Hid.out ?_)
    refine Lib.hid ?_
    go_wp2
    go_ret
    exact ⟨rfl, cbx.out⟩
  by_cases h2 : f.kind = 2
  · have hu : mayFx f = (decide (f.tgt = 0 ∧ -3 ≤ f.ord ∧ f.ord ≤ 64 ∧ f.sym.toList ≠ [] ∧ f.sym.size ≤ 255) && !decide (0 ≤ Lib.indexByte f.sym.data.toList 0)) := by unfold mayFx; rw [if_neg h1, if_pos h2]
    by_cases c1 : f.tgt = 0
    · have k1 : (f.tgt == 0) = true := by simpa using c1
      by_cases c2 : -3 ≤ f.ord
      · have k2 : decide ((-3 : Int) ≤ f.ord) = true := by simpa using c2
        by_cases c3 : f.ord ≤ 64
        · have k3 : decide (f.ord ≤ (64 : Int)) = true := by simpa using c3
          by_cases c4 : f.sym.toList = []
          · have he : mayFx f = false := by rw [hu, decide_eq_false (fun h => h.2.2.2.1 c4), Bool.false_and]
            rw [he]
            have He := Lib.hid he
            have Hu := Lib.hid hu
            have H1 := Lib.hid h1
            clear he hu h1
            go_enter Tryz.func38, Tryz.ntmps38
            go_wp2_with ((with_reducible refine Lay.bxL (L := fxl) 53 f ?_ ?_); exact rfl; intro W1 bx ebx cbx xbx; replace ebx := Lib.hid ebx; replace cbx := Lib.hid cbx; replace xbx := Lib.hid xbx; refine Hid.out ?_)
            refine Lib.hid ?_
            have x0 : W1.cell? ⟨bx, 0, none⟩ = some (.int .u64 f.at_) := by have := xbx.out.in 0 (by decide); rw [Nat.zero_add] at this; exact this
            have x1 : W1.cell? ⟨bx, 1, none⟩ = some (.int .i64 f.kind) := by have := xbx.out.in 1 (by decide); rw [Nat.zero_add] at this; exact this
            have x2 : W1.cell? ⟨bx, 2, none⟩ = some (.int .u64 f.tgt) := by have := xbx.out.in 2 (by decide); rw [Nat.zero_add] at this; exact this
            have x3 : W1.cell? ⟨bx, 3, none⟩ = some (.int .i64 f.ord) := by have := xbx.out.in 3 (by decide); rw [Nat.zero_add] at this; exact this
            have x4 : W1.cell? ⟨bx, 4, none⟩ = some (.string f.sym) := by have := xbx.out.in 4 (by decide); rw [Nat.zero_add] at this; exact this
            rw [h2] at x1
            go_wp2
            go_ret
            exact ⟨rfl, cbx.out⟩
          · have k4 : f.sym.toList.isEmpty = false := by simpa using c4
            by_cases c5 : f.sym.size ≤ 255
            · have he : mayFx f = !decide (0 ≤ Lib.indexByte f.sym.data.toList 0) := by rw [hu, decide_eq_true ⟨c1, c2, c3, c4, c5⟩, Bool.true_and]
              rw [he]
              have k5 : decide ((f.sym.size : Int) ≤ 255) = true := by simp; omega
              have k6 : decide (f.sym.size ≤ 255) = true := by simpa using c5
              have HCO := Lib.hid (fun w => Tryz.strings_Contains_one f.sym 0 w)
              generalize decide (0 ≤ Lib.indexByte f.sym.data.toList 0) = q at *
              have He := Lib.hid he
              have Hu := Lib.hid hu
              have H1 := Lib.hid h1
              clear he hu h1
              go_enter Tryz.func38, Tryz.ntmps38
              go_wp2_with ((with_reducible refine Lay.bxL (L := fxl) 53 f ?_ ?_); exact rfl; intro W1 bx ebx cbx xbx; replace ebx := Lib.hid ebx; replace cbx := Lib.hid cbx; replace xbx := Lib.hid xbx; refine Hid.out ?_)
              refine Lib.hid ?_
              have x0 : W1.cell? ⟨bx, 0, none⟩ = some (.int .u64 f.at_) := by have := xbx.out.in 0 (by decide); rw [Nat.zero_add] at this; exact this
              have x1 : W1.cell? ⟨bx, 1, none⟩ = some (.int .i64 f.kind) := by have := xbx.out.in 1 (by decide); rw [Nat.zero_add] at this; exact this
              have x2 : W1.cell? ⟨bx, 2, none⟩ = some (.int .u64 f.tgt) := by have := xbx.out.in 2 (by decide); rw [Nat.zero_add] at this; exact this
              have x3 : W1.cell? ⟨bx, 3, none⟩ = some (.int .i64 f.ord) := by have := xbx.out.in 3 (by decide); rw [Nat.zero_add] at this; exact this
              have x4 : W1.cell? ⟨bx, 4, none⟩ = some (.string f.sym) := by have := xbx.out.in 4 (by decide); rw [Nat.zero_add] at this; exact this
              rw [h2] at x1
              go_wp2_with fail
              refine (HCO.out _).mono ?_
              rintro e W2 ⟨rfl, rfl⟩
              go_wp2
              go_ret
              exact ⟨rfl, cbx.out⟩
            · have he : mayFx f = false := by rw [hu, decide_eq_false (fun h => c5 h.2.2.2.2), Bool.false_and]
              rw [he]
              have k5 : decide ((f.sym.size : Int) ≤ 255) = false := by simp; omega
              have k6 : decide (f.sym.size ≤ 255) = false := by simpa using c5
              have He := Lib.hid he
              have Hu := Lib.hid hu
              have H1 := Lib.hid h1
              clear he hu h1
              go_enter Tryz.func38, Tryz.ntmps38
              go_wp2_with ((with_reducible refine Lay.bxL (L := fxl) 53 f ?_ ?_); exact rfl; intro W1 bx ebx cbx xbx; replace ebx := Lib.hid ebx; replace cbx := Lib.hid cbx; replace xbx := Lib.hid xbx; refine Hid.out ?_)
              refine Lib.hid ?_
              have x0 : W1.cell? ⟨bx, 0, none⟩ = some (.int .u64 f.at_) := by have := xbx.out.in 0 (by decide); rw [Nat.zero_add] at this; exact this
              have x1 : W1.cell? ⟨bx, 1, none⟩ = some (.int .i64 f.kind) := by have := xbx.out.in 1 (by decide); rw [Nat.zero_add] at this; exact this
              have x2 : W1.cell? ⟨bx, 2, none⟩ = some (.int .u64 f.tgt) := by have := xbx.out.in 2 (by decide); rw [Nat.zero_add] at this; exact this
              have x3 : W1.cell? ⟨bx, 3, none⟩ = some (.int .i64 f.ord) := by have := xbx.out.in 3 (by decide); rw [Nat.zero_add] at this; exact this
              have x4 : W1.cell? ⟨bx, 4, none⟩ = some (.string f.sym) := by have := xbx.out.in 4 (by decide); rw [Nat.zero_add] at this; exact this
              rw [h2] at x1
              go_wp2
              go_ret
              exact ⟨rfl, cbx.out⟩
        · have he : mayFx f = false := by rw [hu, decide_eq_false (fun h => c3 h.2.2.1), Bool.false_and]
          rw [he]
          have k3 : decide (f.ord ≤ (64 : Int)) = false := by simpa using c3
          have He := Lib.hid he
          have Hu := Lib.hid hu
          have H1 := Lib.hid h1
          clear he hu h1
          go_enter Tryz.func38, Tryz.ntmps38
          go_wp2_with ((with_reducible refine Lay.bxL (L := fxl) 53 f ?_ ?_); exact rfl; intro W1 bx ebx cbx xbx; replace ebx := Lib.hid ebx; replace cbx := Lib.hid cbx; replace xbx := Lib.hid xbx; refine Hid.out ?_)
          refine Lib.hid ?_
          have x0 : W1.cell? ⟨bx, 0, none⟩ = some (.int .u64 f.at_) := by have := xbx.out.in 0 (by decide); rw [Nat.zero_add] at this; exact this
          have x1 : W1.cell? ⟨bx, 1, none⟩ = some (.int .i64 f.kind) := by have := xbx.out.in 1 (by decide); rw [Nat.zero_add] at this; exact this
          have x2 : W1.cell? ⟨bx, 2, none⟩ = some (.int .u64 f.tgt) := by have := xbx.out.in 2 (by decide); rw [Nat.zero_add] at this; exact this
          have x3 : W1.cell? ⟨bx, 3, none⟩ = some (.int .i64 f.ord) := by have := xbx.out.in 3 (by decide); rw [Nat.zero_add] at this; exact this
          have x4 : W1.cell? ⟨bx, 4, none⟩ = some (.string f.sym) := by have := xbx.out.in 4 (by decide); rw [Nat.zero_add] at this; exact this
          rw [h2] at x1
          go_wp2
          go_ret
          exact ⟨rfl, cbx.out⟩
      · have he : mayFx f = false := by rw [hu, decide_eq_false (fun h => c2 h.2.1), Bool.false_and]
        rw [he]
        have k2 : decide ((-3 : Int) ≤ f.ord) = false := by simpa using c2
        have He := Lib.hid he
        have Hu := Lib.hid hu
        have H1 := Lib.hid h1
        clear he hu h1
        go_enter Tryz.func38, Tryz.ntmps38
        go_wp2_with ((with_reducible refine Lay.bxL (L := fxl) 53 f ?_ ?_); exact rfl; intro W1 bx ebx cbx xbx; replace ebx := Lib.hid ebx; replace cbx := Lib.hid cbx; replace xbx := Lib.hid xbx; refine Hid.out ?_)
        refine Lib.hid ?_
        have x0 : W1.cell? ⟨bx, 0, none⟩ = some (.int .u64 f.at_) := by have := xbx.out.in 0 (by decide); rw [Nat.zero_add] at this; exact this
        have x1 : W1.cell? ⟨bx, 1, none⟩ = some (.int .i64 f.kind) := by have := xbx.out.in 1 (by decide); rw [Nat.zero_add] at this; exact this
        have x2 : W1.cell? ⟨bx, 2, none⟩ = some (.int .u64 f.tgt) := by have := xbx.out.in 2 (by decide); rw [Nat.zero_add] at this; exact this
        have x3 : W1.cell? ⟨bx, 3, none⟩ = some (.int .i64 f.ord) := by have := xbx.out.in 3 (by decide); rw [Nat.zero_add] at this; exact this
        have x4 : W1.cell? ⟨bx, 4, none⟩ = some (.string f.sym) := by have := xbx.out.in 4 (by decide); rw [Nat.zero_add] at this; exact this
        rw [h2] at x1
        go_wp2
        go_ret
        exact ⟨rfl, cbx.out⟩
    · have he : mayFx f = false := by rw [hu, decide_eq_false (fun h => c1 h.1), Bool.false_and]
      rw [he]
      have k1 : (f.tgt == 0) = false := by simpa using c1
      have He := Lib.hid he
      have Hu := Lib.hid hu
      have H1 := Lib.hid h1
      clear he hu h1
      go_enter Tryz.func38, Tryz.ntmps38
      go_wp2_with ((with_reducible refine Lay.bxL (L := fxl) 53 f ?_ ?_); exact rfl; intro W1 bx ebx cbx xbx; replace ebx := Lib.hid ebx; replace cbx := Lib.hid cbx; replace xbx := Lib.hid xbx; refine Hid.out ?_)
      refine Lib.hid ?_
      have x0 : W1.cell? ⟨bx, 0, none⟩ = some (.int .u64 f.at_) := by have := xbx.out.in 0 (by decide); rw [Nat.zero_add] at this; exact this
      have x1 : W1.cell? ⟨bx, 1, none⟩ = some (.int .i64 f.kind) := by have := xbx.out.in 1 (by decide); rw [Nat.zero_add] at this; exact this
      have x2 : W1.cell? ⟨bx, 2, none⟩ = some (.int .u64 f.tgt) := by have := xbx.out.in 2 (by decide); rw [Nat.zero_add] at this; exact this
      have x3 : W1.cell? ⟨bx, 3, none⟩ = some (.int .i64 f.ord) := by have := xbx.out.in 3 (by decide); rw [Nat.zero_add] at this; exact this
      have x4 : W1.cell? ⟨bx, 4, none⟩ = some (.string f.sym) := by have := xbx.out.in 4 (by decide); rw [Nat.zero_add] at this; exact this
      rw [h2] at x1
      go_wp2
      go_ret
      exact ⟨rfl, cbx.out⟩
  have he : mayFx f = false := by unfold mayFx; rw [if_neg h1, if_neg h2]
  rw [he]
  have k1 : (f.kind == 1) = false := by simpa using h1
  have k2 : (f.kind == 2) = false := by simpa using h2
  have He := Lib.hid he
  clear he
  go_enter Tryz.func38, Tryz.ntmps38
  go_wp2_with ((with_reducible refine Lay.bxL (L := fxl) 53 f ?_ ?_); exact rfl; intro W1 bx ebx cbx xbx; replace ebx := Lib.hid ebx; replace cbx := Lib.hid cbx; replace xbx := Lib.hid xbx; refine Hid.out ?_)
  refine Lib.hid ?_
  have x1 : W1.cell? ⟨bx, 1, none⟩ = some (.int .i64 f.kind) := by have := xbx.out.in 1 (by decide); rw [Nat.zero_add] at this; exact this
  go_wp2
  go_ret
  exact ⟨rfl, cbx.out⟩
end Go.Proofs.YtkomocgodljecaaGreatDoor
