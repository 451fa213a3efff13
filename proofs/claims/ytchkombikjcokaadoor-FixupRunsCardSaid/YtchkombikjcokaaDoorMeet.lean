/- cursor.Meet and the document's. -/
import Derived.Test.YtchkombikjcokaaDoorMayS
namespace Go.Proofs.YtchkombikjcokaaDoor
open Go.RowKit
set_option maxRecDepth 100000

def T64 : Nat := 18446744073709551616
def meetN (o z p y : Nat) : Bool := decide (o + z < T64) && decide (p + y < T64) && decide (max o p < min (o + z) (p + y))
def spV (o z : Nat) : Value := .agg #[.int .u64 o, .int .u64 z]

theorem In_any (o z q : Nat) (hq : q < T64) (w : World) : Calls Tryd.prog 68 #[spV o z, .int .u64 q] w fun e w' => e = .returned (.bool (decide (o ≤ q) && decide (q - o < z))) ∧ Chg [] w w' := by
  unfold spV
  by_cases h : o ≤ q
  · have hsub : IntKind.u64.wrap ((q : Int) - o) = ((q - o : Nat) : Int) := by unfold T64 at hq; rw [IntKind.wrap_u64]; omega
    have hd : decide ((o : Int) ≤ q) = true := by rw [decide_eq_true_iff]; omega
    have hd' : decide (o ≤ q) = true := by rw [decide_eq_true_iff]; omega
    rw [hd', Bool.true_and]
    generalize q - o = r at hsub
    clear hq
    go_enter Tryd.func68, Tryd.ntmps68
    go_wp2
    go_ret
    refine ⟨?_, (Chg.refl _ _).alloc _⟩
    first
      | rfl
      | exact congrArg (fun b => Ending.returned (.bool b)) (by simp only [decide_eq_decide]; omega)
  · have hd : decide ((o : Int) ≤ q) = false := by rw [decide_eq_false_iff_not]; omega
    have hd' : decide (o ≤ q) = false := by rw [decide_eq_false_iff_not]; omega
    rw [hd', Bool.false_and]
    clear hq
    go_enter Tryd.func68, Tryd.ntmps68
    go_wp2
    go_ret
    exact ⟨rfl, (Chg.refl _ _).alloc _⟩
theorem RSum_any (x y : Nat) (hx : x < T64) (w : World) : Calls Tryd.prog 93 #[.int .u64 x, .int .u64 y] w fun e w' =>
    ∃ v, e = .returned (.tuple #[v, .bool (decide (x + y < T64))]) ∧ w' = w := by
  unfold T64 at hx ⊢
  have hsub : IntKind.u64.wrap (18446744073709551615 - (x : Int)) = 18446744073709551615 - (x : Int) := by rw [IntKind.wrap_u64]; omega
  by_cases h : x + y < 18446744073709551616
  · have hadd : IntKind.u64.wrap ((x : Int) + y) = ((x + y : Nat) : Int) := by rw [IntKind.wrap_u64]; omega
    have hd : decide (18446744073709551615 - (x : Int) < y) = false := by rw [decide_eq_false_iff_not]; omega
    rw [decide_eq_true h]
    clear h hx
    go_enter Tryd.func93, Tryd.ntmps93
    go_wp2
    go_ret2
    exact ⟨_, rfl, rfl⟩
  · have hd : decide (18446744073709551615 - (x : Int) < y) = true := by rw [decide_eq_true_iff]; omega
    rw [decide_eq_false h]
    clear h hx
    go_enter Tryd.func93, Tryd.ntmps93
    go_wp2
    go_ret2
    exact ⟨_, rfl, rfl⟩
theorem Whole_any (o z : Nat) (ho : o < T64) (w : World) : Calls Tryd.prog 67 #[spV o z] w fun e w' => e = .returned (.bool (decide (o + z < T64))) ∧ Chg [] w w' := by
  unfold spV
  have HS := Lib.hid (fun w => RSum_any o z ho w)
  generalize decide (o + z < T64) = p at HS
  clear ho
  go_enter Tryd.func67, Tryd.ntmps67
  go_wp2_with fail
  refine (HS.out _).mono ?_
  rintro e w1 ⟨v, rfl, rfl⟩
  go_wp2
  go_ret
  exact ⟨rfl, (Chg.refl _ _).alloc _⟩

theorem Meet_any (o z p y : Nat) (w : World) : Calls Tryd.prog 76 #[spV o z, spV p y] w fun e w' => e = .returned (.bool (meetN o z p y)) ∧ Chg [] w w' := by
  unfold spV
  have HA := Lib.hid (fun w => Add_any o z w)
  have HB := Lib.hid (fun w => Add_any p y w)
  by_cases h1 : o + z < 18446744073709551616
  · rw [if_pos h1, decide_eq_true h1] at HA
    by_cases h2 : p + y < 18446744073709551616
    · rw [if_pos h2, decide_eq_true h2] at HB
      have HE : Hid (meetN o z p y = decide (max o p < min (o + z) (p + y))) := Lib.hid (by unfold meetN T64; rw [decide_eq_true h1, decide_eq_true h2]; simp)
      rw [HE.out]
      clear h1 h2
      generalize o + z = u at *
      generalize p + y = v at *
      go_enter Tryd.func76, Tryd.ntmps76
      go_wp2_with fail
      refine (HA.out _).mono ?_
      rintro e w1 ⟨rfl, rfl⟩
      go_wp2_with fail
      refine (HB.out _).mono ?_
      rintro e w1 ⟨rfl, rfl⟩
      go_wp2
      all_goals
        go_ret
        exact ⟨congrArg (fun b => Ending.returned (.bool b)) (by first | rfl | (simp only [decide_eq_decide]; omega)), ((Chg.refl _ _).alloc _).alloc _⟩
    · rw [if_neg h2, decide_eq_false h2] at HB
      have HE : Hid (meetN o z p y = false) := Lib.hid (by unfold meetN T64; rw [decide_eq_false h2]; simp)
      rw [HE.out]
      clear h1 h2
      generalize o + z = u at *
      generalize p + y = v at *
      go_enter Tryd.func76, Tryd.ntmps76
      go_wp2_with fail
      refine (HA.out _).mono ?_
      rintro e w1 ⟨rfl, rfl⟩
      go_wp2_with fail
      refine (HB.out _).mono ?_
      rintro e w1 ⟨rfl, rfl⟩
      go_wp2
      all_goals
        go_ret
        exact ⟨congrArg (fun b => Ending.returned (.bool b)) (by first | rfl | (simp only [decide_eq_decide]; omega)), ((Chg.refl _ _).alloc _).alloc _⟩
  · rw [if_neg h1, decide_eq_false h1] at HA
    have HE : Hid (meetN o z p y = false) := Lib.hid (by unfold meetN T64; rw [decide_eq_false h1]; simp)
    rw [HE.out]
    clear h1
    generalize o + z = u at *
    by_cases h2 : p + y < 18446744073709551616
    · rw [if_pos h2, decide_eq_true h2] at HB
      clear h2
      generalize p + y = v at *
      go_enter Tryd.func76, Tryd.ntmps76
      go_wp2_with fail
      refine (HA.out _).mono ?_
      rintro e w1 ⟨rfl, rfl⟩
      go_wp2_with fail
      refine (HB.out _).mono ?_
      rintro e w1 ⟨rfl, rfl⟩
      go_wp2
      all_goals
        go_ret
        exact ⟨congrArg (fun b => Ending.returned (.bool b)) (by first | rfl | (simp only [decide_eq_decide]; omega)), ((Chg.refl _ _).alloc _).alloc _⟩
    · rw [if_neg h2, decide_eq_false h2] at HB
      clear h2
      generalize p + y = v at *
      go_enter Tryd.func76, Tryd.ntmps76
      go_wp2_with fail
      refine (HA.out _).mono ?_
      rintro e w1 ⟨rfl, rfl⟩
      go_wp2_with fail
      refine (HB.out _).mono ?_
      rintro e w1 ⟨rfl, rfl⟩
      go_wp2
      all_goals
        go_ret
        exact ⟨congrArg (fun b => Ending.returned (.bool b)) (by first | rfl | (simp only [decide_eq_decide]; omega)), ((Chg.refl _ _).alloc _).alloc _⟩

theorem meetN_eq (o z p y : Nat) : meetN o z p y = (decide (o + z < T64) && (decide (p + y < T64) && ((decide (o ≤ p) && decide (p - o < z)) && (decide (p ≤ p) && decide (p - p < y)) || (decide (o ≤ o) && decide (o - o < z)) && (decide (p ≤ o) && decide (o - p < y))))) := by
  unfold meetN
  rw [Bool.eq_iff_iff]
  simp only [Bool.and_eq_true, Bool.or_eq_true, decide_eq_true_eq]
  omega
set_option maxHeartbeats 2000000 in
theorem RMeet_any (o z p y : Nat) (ho : o < T64) (hp : p < T64) (w : World) : Calls Tryd.prog 46 #[spV o z, spV p y] w fun e w' => e = .returned (.bool (meetN o z p y)) ∧ Chg [] w w' := by
  rw [meetN_eq]
  have H1 := Lib.hid (fun w => Whole_any o z ho w)
  have H2 := Lib.hid (fun w => Whole_any p y hp w)
  have H3 := Lib.hid (fun w => In_any o z p hp w)
  have H4 := Lib.hid (fun w => In_any p y p hp w)
  have H5 := Lib.hid (fun w => In_any o z o ho w)
  have H6 := Lib.hid (fun w => In_any p y o ho w)
  generalize decide (o + z < T64) = p1 at *
  generalize decide (p + y < T64) = p2 at *
  generalize (decide (o ≤ p) && decide (p - o < z)) = p3 at *
  generalize (decide (p ≤ p) && decide (p - p < y)) = p4 at *
  generalize (decide (o ≤ o) && decide (o - o < z)) = p5 at *
  generalize (decide (p ≤ o) && decide (o - p < y)) = p6 at *
  clear ho hp
  unfold spV at *
  go_enter Tryd.func46, Tryd.ntmps46
  go_wp2_with fail
  obtain ⟨w0, hw0⟩ : ∃ q, q = (w.alloc (.cells #[.int .u64 o, .int .u64 z] 44)).alloc (.cells #[.int .u64 p, .int .u64 y] 44) := ⟨_, rfl⟩
  obtain ⟨r, hr⟩ : ∃ q, q = w.heap.size := ⟨_, rfl⟩
  obtain ⟨s, hs⟩ : ∃ q, q = w.heap.size + 1 := ⟨_, rfl⟩
  have HS : Hid (w0.heap[s]? = some (.cells #[.int .u64 p, .int .u64 y] 44 (0, 0))) := by
    refine Lib.hid ?_
    rw [hw0, hs, show w.heap.size + 1 = (w.alloc (.cells #[.int .u64 o, .int .u64 z] 44)).heap.size by simp]
    exact heap_alloc_eq _ _
  have HR : Hid (w0.heap[r]? = some (.cells #[.int .u64 o, .int .u64 z] 44 (0, 0))) := by
    refine Lib.hid ?_
    rw [hw0, hr]
    exact ((Chg.refl [] _).alloc _).heap (heap_alloc_eq _ _) (by simp)
  have HW : Hid (Chg [] w w0) := Lib.hid (by rw [hw0]; exact ((Chg.refl _ _).alloc _).alloc _)
  rw [← hs, ← hr, ← hw0]
  clear hw0 hr hs
  refine (H1.out w0).mono ?_
  rintro e w1 ⟨rfl, hch⟩
  have C1 := Lib.hid (hch)
  clear hch
  cases p1
  · skip
    have hr := (C1.out).heap HR.out (by simp)
    have c0 := cell_of_heap hr 0
    have c1 := cell_of_heap hr 1
    have hs := (C1.out).heap HS.out (by simp)
    have e0 := cell_of_heap hs 0
    have e1 := cell_of_heap hs 1
    simp at c0 c1 e0 e1
    clear hr hs
    go_wp2
    go_ret
    exact ⟨rfl, HW.out.then C1.out⟩
  · skip
    have hr := (C1.out).heap HR.out (by simp)
    have c0 := cell_of_heap hr 0
    have c1 := cell_of_heap hr 1
    have hs := (C1.out).heap HS.out (by simp)
    have e0 := cell_of_heap hs 0
    have e1 := cell_of_heap hs 1
    simp at c0 c1 e0 e1
    clear hr hs
    go_wp2_with fail
    refine (H2.out _).mono ?_
    rintro e w2 ⟨rfl, hch⟩
    clear c0 c1 e0 e1
    have C2 := Lib.hid (C1.out.then hch)
    clear hch
    cases p2
    · skip
      have hr := (C2.out).heap HR.out (by simp)
      have c0 := cell_of_heap hr 0
      have c1 := cell_of_heap hr 1
      have hs := (C2.out).heap HS.out (by simp)
      have e0 := cell_of_heap hs 0
      have e1 := cell_of_heap hs 1
      simp at c0 c1 e0 e1
      clear hr hs
      go_wp2
      go_ret
      exact ⟨rfl, HW.out.then C2.out⟩
    · skip
      have hr := (C2.out).heap HR.out (by simp)
      have c0 := cell_of_heap hr 0
      have c1 := cell_of_heap hr 1
      have hs := (C2.out).heap HS.out (by simp)
      have e0 := cell_of_heap hs 0
      have e1 := cell_of_heap hs 1
      simp at c0 c1 e0 e1
      clear hr hs
      go_wp2_with fail
      refine (H3.out _).mono ?_
      rintro e w3 ⟨rfl, hch⟩
      clear c0 c1 e0 e1
      have C3 := Lib.hid (C2.out.then hch)
      clear hch
      cases p3
      · skip
        have hr := (C3.out).heap HR.out (by simp)
        have c0 := cell_of_heap hr 0
        have c1 := cell_of_heap hr 1
        have hs := (C3.out).heap HS.out (by simp)
        have e0 := cell_of_heap hs 0
        have e1 := cell_of_heap hs 1
        simp at c0 c1 e0 e1
        clear hr hs
        go_wp2_with fail
        refine (H5.out _).mono ?_
        rintro e w5 ⟨rfl, hch⟩
        clear c0 c1 e0 e1
        have C5 := Lib.hid (C3.out.then hch)
        clear hch
        cases p5
        · skip
          have hr := (C5.out).heap HR.out (by simp)
          have c0 := cell_of_heap hr 0
          have c1 := cell_of_heap hr 1
          have hs := (C5.out).heap HS.out (by simp)
          have e0 := cell_of_heap hs 0
          have e1 := cell_of_heap hs 1
          simp at c0 c1 e0 e1
          clear hr hs
          go_wp2
          go_ret
          exact ⟨rfl, HW.out.then C5.out⟩
        · skip
          have hr := (C5.out).heap HR.out (by simp)
          have c0 := cell_of_heap hr 0
          have c1 := cell_of_heap hr 1
          have hs := (C5.out).heap HS.out (by simp)
          have e0 := cell_of_heap hs 0
          have e1 := cell_of_heap hs 1
          simp at c0 c1 e0 e1
          clear hr hs
          go_wp2_with fail
          refine (H6.out _).mono ?_
          rintro e w6 ⟨rfl, hch⟩
          clear c0 c1 e0 e1
          have C6 := Lib.hid (C5.out.then hch)
          clear hch
          cases p6
          · skip
            have hr := (C6.out).heap HR.out (by simp)
            have c0 := cell_of_heap hr 0
            have c1 := cell_of_heap hr 1
            have hs := (C6.out).heap HS.out (by simp)
            have e0 := cell_of_heap hs 0
            have e1 := cell_of_heap hs 1
            simp at c0 c1 e0 e1
            clear hr hs
            go_wp2
            go_ret
            exact ⟨rfl, HW.out.then C6.out⟩
          · skip
            have hr := (C6.out).heap HR.out (by simp)
            have c0 := cell_of_heap hr 0
            have c1 := cell_of_heap hr 1
            have hs := (C6.out).heap HS.out (by simp)
            have e0 := cell_of_heap hs 0
            have e1 := cell_of_heap hs 1
            simp at c0 c1 e0 e1
            clear hr hs
            go_wp2
            go_ret
            exact ⟨rfl, HW.out.then C6.out⟩
      · skip
        have hr := (C3.out).heap HR.out (by simp)
        have c0 := cell_of_heap hr 0
        have c1 := cell_of_heap hr 1
        have hs := (C3.out).heap HS.out (by simp)
        have e0 := cell_of_heap hs 0
        have e1 := cell_of_heap hs 1
        simp at c0 c1 e0 e1
        clear hr hs
        go_wp2_with fail
        refine (H4.out _).mono ?_
        rintro e w4 ⟨rfl, hch⟩
        clear c0 c1 e0 e1
        have C4 := Lib.hid (C3.out.then hch)
        clear hch
        cases p4
        · skip
          have hr := (C4.out).heap HR.out (by simp)
          have c0 := cell_of_heap hr 0
          have c1 := cell_of_heap hr 1
          have hs := (C4.out).heap HS.out (by simp)
          have e0 := cell_of_heap hs 0
          have e1 := cell_of_heap hs 1
          simp at c0 c1 e0 e1
          clear hr hs
          go_wp2_with fail
          refine (H5.out _).mono ?_
          rintro e w5 ⟨rfl, hch⟩
          clear c0 c1 e0 e1
          have C5 := Lib.hid (C4.out.then hch)
          clear hch
          cases p5
          · skip
            have hr := (C5.out).heap HR.out (by simp)
            have c0 := cell_of_heap hr 0
            have c1 := cell_of_heap hr 1
            have hs := (C5.out).heap HS.out (by simp)
            have e0 := cell_of_heap hs 0
            have e1 := cell_of_heap hs 1
            simp at c0 c1 e0 e1
            clear hr hs
            go_wp2
            go_ret
            exact ⟨rfl, HW.out.then C5.out⟩
          · skip
            have hr := (C5.out).heap HR.out (by simp)
            have c0 := cell_of_heap hr 0
            have c1 := cell_of_heap hr 1
            have hs := (C5.out).heap HS.out (by simp)
            have e0 := cell_of_heap hs 0
            have e1 := cell_of_heap hs 1
            simp at c0 c1 e0 e1
            clear hr hs
            go_wp2_with fail
            refine (H6.out _).mono ?_
            rintro e w6 ⟨rfl, hch⟩
            clear c0 c1 e0 e1
            have C6 := Lib.hid (C5.out.then hch)
            clear hch
            cases p6
            · skip
              have hr := (C6.out).heap HR.out (by simp)
              have c0 := cell_of_heap hr 0
              have c1 := cell_of_heap hr 1
              have hs := (C6.out).heap HS.out (by simp)
              have e0 := cell_of_heap hs 0
              have e1 := cell_of_heap hs 1
              simp at c0 c1 e0 e1
              clear hr hs
              go_wp2
              go_ret
              exact ⟨rfl, HW.out.then C6.out⟩
            · skip
              have hr := (C6.out).heap HR.out (by simp)
              have c0 := cell_of_heap hr 0
              have c1 := cell_of_heap hr 1
              have hs := (C6.out).heap HS.out (by simp)
              have e0 := cell_of_heap hs 0
              have e1 := cell_of_heap hs 1
              simp at c0 c1 e0 e1
              clear hr hs
              go_wp2
              go_ret
              exact ⟨rfl, HW.out.then C6.out⟩
        · skip
          have hr := (C4.out).heap HR.out (by simp)
          have c0 := cell_of_heap hr 0
          have c1 := cell_of_heap hr 1
          have hs := (C4.out).heap HS.out (by simp)
          have e0 := cell_of_heap hs 0
          have e1 := cell_of_heap hs 1
          simp at c0 c1 e0 e1
          clear hr hs
          go_wp2
          go_ret
          exact ⟨rfl, HW.out.then C4.out⟩
end Go.Proofs.YtchkombikjcokaaDoor
