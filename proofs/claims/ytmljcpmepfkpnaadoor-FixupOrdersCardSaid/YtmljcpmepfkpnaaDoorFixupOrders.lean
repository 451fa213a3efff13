/- clevislaw12.FixupOrders, walked; the plain law. -/
import Derived.Test.YtmljcpmepfkpnaaDoorFxWalk
namespace Go.Proofs.YtmljcpmepfkpnaaDoor
open Go.RowKit
set_option maxRecDepth 100000

theorem fx_ext {a b : Fx} (h1 : a.at_ = b.at_) (h2 : a.kind = b.kind) (h3 : a.tgt = b.tgt) (h4 : a.ord = b.ord) (h5 : a.sym.toList = b.sym.toList) (h6 : a.add = b.add) (h7 : a.weak = b.weak) : a = b := by
  obtain ⟨a1, a2, a3, a4, a5, a6, a7⟩ := a
  obtain ⟨b1, b2, b3, b4, b5, b6, b7⟩ := b
  simp only at h1 h2 h3 h4 h5 h6 h7
  rw [Lib.toList_data, Lib.toList_data] at h5
  have h5' : a5 = b5 := ByteArray.ext (Array.toList_inj.1 h5)
  subst h1 h2 h3 h4 h5' h6 h7
  rfl
set_option maxHeartbeats 8000000 in
theorem FixupOrders_walk (w : World) (ht : Tz w) (a b c : Fx) :
    Calls Tryd.prog 3 #[a.v, b.v, c.v] w fun e w' => e = .returned (.bool true) ∧ Chg [] w w' := by
  have HT := Lib.hid (ht)
  have LAB : Hid (∀ w : World, Calls Tryd.prog 4 #[.agg #[.int .u64 a.at_, .int .i64 a.kind, .int .u64 a.tgt, .int .i64 a.ord, .string a.sym, .int .i64 a.add, .bool a.weak], .agg #[.int .u64 b.at_, .int .i64 b.kind, .int .u64 b.tgt, .int .i64 b.ord, .string b.sym, .int .i64 b.add, .bool b.weak]] w fun e w' => e = .returned (.bool (decide (ordF a b < 0))) ∧ Chg [] w w') := Lib.hid (RLess_any a b)
  have LBA : Hid (∀ w : World, Calls Tryd.prog 4 #[.agg #[.int .u64 b.at_, .int .i64 b.kind, .int .u64 b.tgt, .int .i64 b.ord, .string b.sym, .int .i64 b.add, .bool b.weak], .agg #[.int .u64 a.at_, .int .i64 a.kind, .int .u64 a.tgt, .int .i64 a.ord, .string a.sym, .int .i64 a.add, .bool a.weak]] w fun e w' => e = .returned (.bool (decide (ordF b a < 0))) ∧ Chg [] w w') := Lib.hid (RLess_any b a)
  have OAB : Hid (∀ w : World, Calls Tryd.prog 5 #[.agg #[.int .u64 a.at_, .int .i64 a.kind, .int .u64 a.tgt, .int .i64 a.ord, .string a.sym, .int .i64 a.add, .bool a.weak], .agg #[.int .u64 b.at_, .int .i64 b.kind, .int .u64 b.tgt, .int .i64 b.ord, .string b.sym, .int .i64 b.add, .bool b.weak]] w fun e w' => e = .returned (.int .i64 (ordF a b)) ∧ Chg [] w w') := Lib.hid (Order_any a b)
  have OBA : Hid (∀ w : World, Calls Tryd.prog 5 #[.agg #[.int .u64 b.at_, .int .i64 b.kind, .int .u64 b.tgt, .int .i64 b.ord, .string b.sym, .int .i64 b.add, .bool b.weak], .agg #[.int .u64 a.at_, .int .i64 a.kind, .int .u64 a.tgt, .int .i64 a.ord, .string a.sym, .int .i64 a.add, .bool a.weak]] w fun e w' => e = .returned (.int .i64 (ordF b a)) ∧ Chg [] w w') := Lib.hid (Order_any b a)
  have OAA : Hid (∀ w : World, Calls Tryd.prog 5 #[.agg #[.int .u64 a.at_, .int .i64 a.kind, .int .u64 a.tgt, .int .i64 a.ord, .string a.sym, .int .i64 a.add, .bool a.weak], .agg #[.int .u64 a.at_, .int .i64 a.kind, .int .u64 a.tgt, .int .i64 a.ord, .string a.sym, .int .i64 a.add, .bool a.weak]] w fun e w' => e = .returned (.int .i64 (ordF a a)) ∧ Chg [] w w') := Lib.hid (Order_any a a)
  have OBC : Hid (∀ w : World, Calls Tryd.prog 5 #[.agg #[.int .u64 b.at_, .int .i64 b.kind, .int .u64 b.tgt, .int .i64 b.ord, .string b.sym, .int .i64 b.add, .bool b.weak], .agg #[.int .u64 c.at_, .int .i64 c.kind, .int .u64 c.tgt, .int .i64 c.ord, .string c.sym, .int .i64 c.add, .bool c.weak]] w fun e w' => e = .returned (.int .i64 (ordF b c)) ∧ Chg [] w w') := Lib.hid (Order_any b c)
  have OAC : Hid (∀ w : World, Calls Tryd.prog 5 #[.agg #[.int .u64 a.at_, .int .i64 a.kind, .int .u64 a.tgt, .int .i64 a.ord, .string a.sym, .int .i64 a.add, .bool a.weak], .agg #[.int .u64 c.at_, .int .i64 c.kind, .int .u64 c.tgt, .int .i64 c.ord, .string c.sym, .int .i64 c.add, .bool c.weak]] w fun e w' => e = .returned (.int .i64 (ordF a c)) ∧ Chg [] w w') := Lib.hid (Order_any a c)
  have OX : Hid (∀ (x1 x2 x3 x4 : Int) (x5 : ByteArray) (x6 : Int) (x7 : Bool) (w : World), Calls Tryd.prog 5 #[.agg #[.int .u64 x1, .int .i64 x2, .int .u64 x3, .int .i64 x4, .string x5, .int .i64 x6, .bool x7], .agg #[.int .u64 x1, .int .i64 x2, .int .u64 x3, .int .i64 x4, .string x5, .int .i64 x6, .bool x7]] w fun e w' => e = .returned (.int .i64 0) ∧ Chg [] w w') := Lib.hid (fun x1 x2 x3 x4 x5 x6 x7 w => by have := Order_any ⟨x1, x2, x3, x4, x5, x6, x7⟩ ⟨x1, x2, x3, x4, x5, x6, x7⟩ w; rw [ordF_eq.2 rfl] at this; exact this)
  have haa : ordF a a = 0 := ordF_eq.2 rfl
  have hba := ordF_is.anti b a
  have hone := ordF_is.one a b
  have hone2 := ordF_is.one b c
  have hone3 := ordF_is.one a c
  have htr := ordF_is.trans a b c
  have heq : ordF a b = 0 ↔ a = b := ordF_eq
  rw [haa] at OAA
  rw [hba] at OBA LBA
  generalize ordF a b = X at *
  generalize ordF b c = Y at *
  generalize ordF a c = Z at *
  clear haa hba
  have Htr := Lib.hid htr
  have Heq := Lib.hid heq
  clear htr heq
  unfold Fx.v
  go_enter Tryd.func3, Tryd.ntmps3
  go_upto_region 1 with fail
  obtain ⟨wA, hwA⟩ : ∃ x, x = w.alloc (.cells #[.int .u64 a.at_, .int .i64 a.kind, .int .u64 a.tgt, .int .i64 a.ord, .string a.sym, .int .i64 a.add, .bool a.weak] 25) := ⟨_, rfl⟩
  obtain ⟨wB, hwB⟩ : ∃ x, x = wA.alloc (.cells #[.int .u64 b.at_, .int .i64 b.kind, .int .u64 b.tgt, .int .i64 b.ord, .string b.sym, .int .i64 b.add, .bool b.weak] 25) := ⟨_, rfl⟩
  obtain ⟨w1, hw1⟩ : ∃ x, x = wB.alloc (.cells #[.int .u64 c.at_, .int .i64 c.kind, .int .u64 c.tgt, .int .i64 c.ord, .string c.sym, .int .i64 c.add, .bool c.weak] 25) := ⟨_, rfl⟩
  have ea : wA.heap.size = w.heap.size + 1 := by rw [hwA]; simp
  have eb : wB.heap.size = w.heap.size + 1 + 1 := by rw [hwB, ← ea]; simp
  rw [← hwA, ← hwB, ← hw1, ← eb, ← ea]
  obtain ⟨ra, hra⟩ : ∃ x, x = w.heap.size := ⟨_, rfl⟩
  obtain ⟨rb, hrb⟩ : ∃ x, x = wA.heap.size := ⟨_, rfl⟩
  obtain ⟨rc, hrc⟩ : ∃ x, x = wB.heap.size := ⟨_, rfl⟩
  rw [← hra, ← hrb, ← hrc]
  have cB1 : Chg [] wB w1 := by rw [hw1]; exact (Chg.refl _ _).alloc _
  have cAB : Chg [] wA wB := by rw [hwB]; exact (Chg.refl _ _).alloc _
  have HC1 : Hid (Chg [] w w1) := Lib.hid (by rw [hw1, hwB, hwA]; exact (((Chg.refl _ _).alloc _).alloc _).alloc _)
  have ha := (cAB.then cB1).heap (show wA.heap[ra]? = some (.cells #[.int .u64 a.at_, .int .i64 a.kind, .int .u64 a.tgt, .int .i64 a.ord, .string a.sym, .int .i64 a.add, .bool a.weak] 25 (0, 0)) from by rw [hwA, hra]; exact heap_alloc_eq _ _) (by simp)
  have hb := cB1.heap (show wB.heap[rb]? = some (.cells #[.int .u64 b.at_, .int .i64 b.kind, .int .u64 b.tgt, .int .i64 b.ord, .string b.sym, .int .i64 b.add, .bool b.weak] 25 (0, 0)) from by rw [hwB, hrb]; exact heap_alloc_eq _ _) (by simp)
  have hc : w1.heap[rc]? = some (.cells #[.int .u64 c.at_, .int .i64 c.kind, .int .u64 c.tgt, .int .i64 c.ord, .string c.sym, .int .i64 c.add, .bool c.weak] 25 (0, 0)) := by rw [hw1, hrc]; exact heap_alloc_eq _ _
  clear hwA hwB hw1 ea eb hra hrb hrc cB1 cAB
  have x0 := cell_of_heap ha 0
  have x1 := cell_of_heap ha 1
  have x2 := cell_of_heap ha 2
  have x3 := cell_of_heap ha 3
  have x4 := cell_of_heap ha 4
  have x5 := cell_of_heap ha 5
  have x6 := cell_of_heap ha 6
  have y0 := cell_of_heap hb 0
  have y1 := cell_of_heap hb 1
  have y2 := cell_of_heap hb 2
  have y3 := cell_of_heap hb 3
  have y4 := cell_of_heap hb 4
  have y5 := cell_of_heap hb 5
  have y6 := cell_of_heap hb 6
  have z0 := cell_of_heap hc 0
  have z1 := cell_of_heap hc 1
  have z2 := cell_of_heap hc 2
  have z3 := cell_of_heap hc 3
  have z4 := cell_of_heap hc 4
  have z5 := cell_of_heap hc 5
  have z6 := cell_of_heap hc 6
  simp at x0 x1 x2 x3 x4 x5 x6 y0 y1 y2 y3 y4 y5 y6 z0 z1 z2 z3 z4 z5 z6
  clear ha hb hc
  rcases hone with rfl | rfl | rfl
  · have hab : ¬ a = b := fun e => absurd (Heq.out.2 e) (by decide)
    have Hab := Lib.hid hab
    clear hab
    go_wp2_with fail
    refine ((LAB).out w1).mono ?_
    rintro e w2 ⟨rfl, hch⟩
    have HC2 := Lib.hid ((HC1).out.then hch)
    replace x0 := hch.cell x0 (by simp)
    replace x1 := hch.cell x1 (by simp)
    replace x2 := hch.cell x2 (by simp)
    replace x3 := hch.cell x3 (by simp)
    replace x4 := hch.cell x4 (by simp)
    replace x5 := hch.cell x5 (by simp)
    replace x6 := hch.cell x6 (by simp)
    replace y0 := hch.cell y0 (by simp)
    replace y1 := hch.cell y1 (by simp)
    replace y2 := hch.cell y2 (by simp)
    replace y3 := hch.cell y3 (by simp)
    replace y4 := hch.cell y4 (by simp)
    replace y5 := hch.cell y5 (by simp)
    replace y6 := hch.cell y6 (by simp)
    replace z0 := hch.cell z0 (by simp)
    replace z1 := hch.cell z1 (by simp)
    replace z2 := hch.cell z2 (by simp)
    replace z3 := hch.cell z3 (by simp)
    replace z4 := hch.cell z4 (by simp)
    replace z5 := hch.cell z5 (by simp)
    replace z6 := hch.cell z6 (by simp)
    clear hch
    go_wp2_with fail
    refine ((LBA).out w2).mono ?_
    rintro e w3 ⟨rfl, hch⟩
    have HC3 := Lib.hid ((HC2).out.then hch)
    replace x0 := hch.cell x0 (by simp)
    replace x1 := hch.cell x1 (by simp)
    replace x2 := hch.cell x2 (by simp)
    replace x3 := hch.cell x3 (by simp)
    replace x4 := hch.cell x4 (by simp)
    replace x5 := hch.cell x5 (by simp)
    replace x6 := hch.cell x6 (by simp)
    replace y0 := hch.cell y0 (by simp)
    replace y1 := hch.cell y1 (by simp)
    replace y2 := hch.cell y2 (by simp)
    replace y3 := hch.cell y3 (by simp)
    replace y4 := hch.cell y4 (by simp)
    replace y5 := hch.cell y5 (by simp)
    replace y6 := hch.cell y6 (by simp)
    replace z0 := hch.cell z0 (by simp)
    replace z1 := hch.cell z1 (by simp)
    replace z2 := hch.cell z2 (by simp)
    replace z3 := hch.cell z3 (by simp)
    replace z4 := hch.cell z4 (by simp)
    replace z5 := hch.cell z5 (by simp)
    replace z6 := hch.cell z6 (by simp)
    clear hch
    go_upto_region 6 with fail
    go_cut [0, 1, 40] from 8 to 40 (fun _ _ s40 wc => s40 = .bool false ∧ Chg [] w3 wc)
    case first =>
      have HC3 := Lib.hid (Chg.refl [] w3)
      go_wp2_with fail
      refine ((OAB).out w3).mono ?_
      rintro e w4 ⟨rfl, hch⟩
      have HC4 := Lib.hid ((HC3).out.then hch)
      replace x0 := hch.cell x0 (by simp)
      replace x1 := hch.cell x1 (by simp)
      replace x2 := hch.cell x2 (by simp)
      replace x3 := hch.cell x3 (by simp)
      replace x4 := hch.cell x4 (by simp)
      replace x5 := hch.cell x5 (by simp)
      replace x6 := hch.cell x6 (by simp)
      replace y0 := hch.cell y0 (by simp)
      replace y1 := hch.cell y1 (by simp)
      replace y2 := hch.cell y2 (by simp)
      replace y3 := hch.cell y3 (by simp)
      replace y4 := hch.cell y4 (by simp)
      replace y5 := hch.cell y5 (by simp)
      replace y6 := hch.cell y6 (by simp)
      replace z0 := hch.cell z0 (by simp)
      replace z1 := hch.cell z1 (by simp)
      replace z2 := hch.cell z2 (by simp)
      replace z3 := hch.cell z3 (by simp)
      replace z4 := hch.cell z4 (by simp)
      replace z5 := hch.cell z5 (by simp)
      replace z6 := hch.cell z6 (by simp)
      clear hch
      go_wp2_with fail
      refine ((OBA).out w4).mono ?_
      rintro e w5 ⟨rfl, hch⟩
      have HC5 := Lib.hid ((HC4).out.then hch)
      replace x0 := hch.cell x0 (by simp)
      replace x1 := hch.cell x1 (by simp)
      replace x2 := hch.cell x2 (by simp)
      replace x3 := hch.cell x3 (by simp)
      replace x4 := hch.cell x4 (by simp)
      replace x5 := hch.cell x5 (by simp)
      replace x6 := hch.cell x6 (by simp)
      replace y0 := hch.cell y0 (by simp)
      replace y1 := hch.cell y1 (by simp)
      replace y2 := hch.cell y2 (by simp)
      replace y3 := hch.cell y3 (by simp)
      replace y4 := hch.cell y4 (by simp)
      replace y5 := hch.cell y5 (by simp)
      replace y6 := hch.cell y6 (by simp)
      replace z0 := hch.cell z0 (by simp)
      replace z1 := hch.cell z1 (by simp)
      replace z2 := hch.cell z2 (by simp)
      replace z3 := hch.cell z3 (by simp)
      replace z4 := hch.cell z4 (by simp)
      replace z5 := hch.cell z5 (by simp)
      replace z6 := hch.cell z6 (by simp)
      clear hch
      go_wp2_with fail
      all_goals
        first
        | (exfalso; refine Hab.out (fx_ext ?_ ?_ ?_ ?_ ?_ ?_ ?_) <;> assumption)
        | (refine (OX.out _ _ _ _ _ _ _ w5).mono ?_
           rintro e w6 ⟨rfl, hch⟩
           replace HC5 := HC5.out.then hch
           clear hch
           go_wp2
           go_meet
           case rel => exact ⟨rfl, HC5⟩)
    case rest =>
      obtain ⟨rfl, hch⟩ := hcut
      have HCC := Lib.hid (HC3.out.then hch)
      replace x0 := hch.cell x0 (by simp)
      replace x1 := hch.cell x1 (by simp)
      replace x2 := hch.cell x2 (by simp)
      replace x3 := hch.cell x3 (by simp)
      replace x4 := hch.cell x4 (by simp)
      replace x5 := hch.cell x5 (by simp)
      replace x6 := hch.cell x6 (by simp)
      replace y0 := hch.cell y0 (by simp)
      replace y1 := hch.cell y1 (by simp)
      replace y2 := hch.cell y2 (by simp)
      replace y3 := hch.cell y3 (by simp)
      replace y4 := hch.cell y4 (by simp)
      replace y5 := hch.cell y5 (by simp)
      replace y6 := hch.cell y6 (by simp)
      replace z0 := hch.cell z0 (by simp)
      replace z1 := hch.cell z1 (by simp)
      replace z2 := hch.cell z2 (by simp)
      replace z3 := hch.cell z3 (by simp)
      replace z4 := hch.cell z4 (by simp)
      replace z5 := hch.cell z5 (by simp)
      replace z6 := hch.cell z6 (by simp)
      clear hch
      go_wp2_with fail
      refine ((OAB).out wc).mono ?_
      rintro e w6 ⟨rfl, hch⟩
      have HC6 := Lib.hid ((HCC).out.then hch)
      replace x0 := hch.cell x0 (by simp)
      replace x1 := hch.cell x1 (by simp)
      replace x2 := hch.cell x2 (by simp)
      replace x3 := hch.cell x3 (by simp)
      replace x4 := hch.cell x4 (by simp)
      replace x5 := hch.cell x5 (by simp)
      replace x6 := hch.cell x6 (by simp)
      replace y0 := hch.cell y0 (by simp)
      replace y1 := hch.cell y1 (by simp)
      replace y2 := hch.cell y2 (by simp)
      replace y3 := hch.cell y3 (by simp)
      replace y4 := hch.cell y4 (by simp)
      replace y5 := hch.cell y5 (by simp)
      replace y6 := hch.cell y6 (by simp)
      replace z0 := hch.cell z0 (by simp)
      replace z1 := hch.cell z1 (by simp)
      replace z2 := hch.cell z2 (by simp)
      replace z3 := hch.cell z3 (by simp)
      replace z4 := hch.cell z4 (by simp)
      replace z5 := hch.cell z5 (by simp)
      replace z6 := hch.cell z6 (by simp)
      clear hch
      go_wp2_with fail
      rcases hone2 with rfl | rfl | rfl
      · have hz : Z ≤ 0 := Htr.out (by decide) (by decide)
        have d1 : decide (Z ≤ 0) = true := by simpa using hz
        clear hz
        refine ((OBC).out w6).mono ?_
        rintro e w7 ⟨rfl, hch⟩
        have HC7 := Lib.hid ((HC6).out.then hch)
        replace x0 := hch.cell x0 (by simp)
        replace x1 := hch.cell x1 (by simp)
        replace x2 := hch.cell x2 (by simp)
        replace x3 := hch.cell x3 (by simp)
        replace x4 := hch.cell x4 (by simp)
        replace x5 := hch.cell x5 (by simp)
        replace x6 := hch.cell x6 (by simp)
        replace y0 := hch.cell y0 (by simp)
        replace y1 := hch.cell y1 (by simp)
        replace y2 := hch.cell y2 (by simp)
        replace y3 := hch.cell y3 (by simp)
        replace y4 := hch.cell y4 (by simp)
        replace y5 := hch.cell y5 (by simp)
        replace y6 := hch.cell y6 (by simp)
        replace z0 := hch.cell z0 (by simp)
        replace z1 := hch.cell z1 (by simp)
        replace z2 := hch.cell z2 (by simp)
        replace z3 := hch.cell z3 (by simp)
        replace z4 := hch.cell z4 (by simp)
        replace z5 := hch.cell z5 (by simp)
        replace z6 := hch.cell z6 (by simp)
        clear hch
        go_wp2_with fail
        refine ((OAC).out w7).mono ?_
        rintro e w8 ⟨rfl, hch⟩
        have HC8 := Lib.hid ((HC7).out.then hch)
        replace x0 := hch.cell x0 (by simp)
        replace x1 := hch.cell x1 (by simp)
        replace x2 := hch.cell x2 (by simp)
        replace x3 := hch.cell x3 (by simp)
        replace x4 := hch.cell x4 (by simp)
        replace x5 := hch.cell x5 (by simp)
        replace x6 := hch.cell x6 (by simp)
        replace y0 := hch.cell y0 (by simp)
        replace y1 := hch.cell y1 (by simp)
        replace y2 := hch.cell y2 (by simp)
        replace y3 := hch.cell y3 (by simp)
        replace y4 := hch.cell y4 (by simp)
        replace y5 := hch.cell y5 (by simp)
        replace y6 := hch.cell y6 (by simp)
        replace z0 := hch.cell z0 (by simp)
        replace z1 := hch.cell z1 (by simp)
        replace z2 := hch.cell z2 (by simp)
        replace z3 := hch.cell z3 (by simp)
        replace z4 := hch.cell z4 (by simp)
        replace z5 := hch.cell z5 (by simp)
        replace z6 := hch.cell z6 (by simp)
        clear hch
        go_wp2_with fail
        refine (known12 _ (HT.out.frame (HC8).out)).mono ?_
        rintro e wk ⟨rfl, hch⟩
        have HK := Lib.hid ((HC8).out.then hch)
        clear hch
        go_wp2
        go_ret
        exact ⟨rfl, HK.out⟩
      · have hz : Z ≤ 0 := Htr.out (by decide) (by decide)
        have d1 : decide (Z ≤ 0) = true := by simpa using hz
        clear hz
        refine ((OBC).out w6).mono ?_
        rintro e w7 ⟨rfl, hch⟩
        have HC7 := Lib.hid ((HC6).out.then hch)
        replace x0 := hch.cell x0 (by simp)
        replace x1 := hch.cell x1 (by simp)
        replace x2 := hch.cell x2 (by simp)
        replace x3 := hch.cell x3 (by simp)
        replace x4 := hch.cell x4 (by simp)
        replace x5 := hch.cell x5 (by simp)
        replace x6 := hch.cell x6 (by simp)
        replace y0 := hch.cell y0 (by simp)
        replace y1 := hch.cell y1 (by simp)
        replace y2 := hch.cell y2 (by simp)
        replace y3 := hch.cell y3 (by simp)
        replace y4 := hch.cell y4 (by simp)
        replace y5 := hch.cell y5 (by simp)
        replace y6 := hch.cell y6 (by simp)
        replace z0 := hch.cell z0 (by simp)
        replace z1 := hch.cell z1 (by simp)
        replace z2 := hch.cell z2 (by simp)
        replace z3 := hch.cell z3 (by simp)
        replace z4 := hch.cell z4 (by simp)
        replace z5 := hch.cell z5 (by simp)
        replace z6 := hch.cell z6 (by simp)
        clear hch
        go_wp2_with fail
        refine ((OAC).out w7).mono ?_
        rintro e w8 ⟨rfl, hch⟩
        have HC8 := Lib.hid ((HC7).out.then hch)
        replace x0 := hch.cell x0 (by simp)
        replace x1 := hch.cell x1 (by simp)
        replace x2 := hch.cell x2 (by simp)
        replace x3 := hch.cell x3 (by simp)
        replace x4 := hch.cell x4 (by simp)
        replace x5 := hch.cell x5 (by simp)
        replace x6 := hch.cell x6 (by simp)
        replace y0 := hch.cell y0 (by simp)
        replace y1 := hch.cell y1 (by simp)
        replace y2 := hch.cell y2 (by simp)
        replace y3 := hch.cell y3 (by simp)
        replace y4 := hch.cell y4 (by simp)
        replace y5 := hch.cell y5 (by simp)
        replace y6 := hch.cell y6 (by simp)
        replace z0 := hch.cell z0 (by simp)
        replace z1 := hch.cell z1 (by simp)
        replace z2 := hch.cell z2 (by simp)
        replace z3 := hch.cell z3 (by simp)
        replace z4 := hch.cell z4 (by simp)
        replace z5 := hch.cell z5 (by simp)
        replace z6 := hch.cell z6 (by simp)
        clear hch
        go_wp2_with fail
        refine (known12 _ (HT.out.frame (HC8).out)).mono ?_
        rintro e wk ⟨rfl, hch⟩
        have HK := Lib.hid ((HC8).out.then hch)
        clear hch
        go_wp2
        go_ret
        exact ⟨rfl, HK.out⟩
      · skip
        refine ((OBC).out w6).mono ?_
        rintro e w7 ⟨rfl, hch⟩
        have HC7 := Lib.hid ((HC6).out.then hch)
        replace x0 := hch.cell x0 (by simp)
        replace x1 := hch.cell x1 (by simp)
        replace x2 := hch.cell x2 (by simp)
        replace x3 := hch.cell x3 (by simp)
        replace x4 := hch.cell x4 (by simp)
        replace x5 := hch.cell x5 (by simp)
        replace x6 := hch.cell x6 (by simp)
        replace y0 := hch.cell y0 (by simp)
        replace y1 := hch.cell y1 (by simp)
        replace y2 := hch.cell y2 (by simp)
        replace y3 := hch.cell y3 (by simp)
        replace y4 := hch.cell y4 (by simp)
        replace y5 := hch.cell y5 (by simp)
        replace y6 := hch.cell y6 (by simp)
        replace z0 := hch.cell z0 (by simp)
        replace z1 := hch.cell z1 (by simp)
        replace z2 := hch.cell z2 (by simp)
        replace z3 := hch.cell z3 (by simp)
        replace z4 := hch.cell z4 (by simp)
        replace z5 := hch.cell z5 (by simp)
        replace z6 := hch.cell z6 (by simp)
        clear hch
        go_wp2_with fail
        refine (known12 _ (HT.out.frame (HC7).out)).mono ?_
        rintro e wk ⟨rfl, hch⟩
        have HK := Lib.hid ((HC7).out.then hch)
        clear hch
        go_wp2
        go_ret
        exact ⟨rfl, HK.out⟩
  · obtain rfl : a = b := Heq.out.1 rfl
    go_wp2_with fail
    refine ((LAB).out w1).mono ?_
    rintro e w2 ⟨rfl, hch⟩
    have HC2 := Lib.hid ((HC1).out.then hch)
    replace x0 := hch.cell x0 (by simp)
    replace x1 := hch.cell x1 (by simp)
    replace x2 := hch.cell x2 (by simp)
    replace x3 := hch.cell x3 (by simp)
    replace x4 := hch.cell x4 (by simp)
    replace x5 := hch.cell x5 (by simp)
    replace x6 := hch.cell x6 (by simp)
    replace y0 := hch.cell y0 (by simp)
    replace y1 := hch.cell y1 (by simp)
    replace y2 := hch.cell y2 (by simp)
    replace y3 := hch.cell y3 (by simp)
    replace y4 := hch.cell y4 (by simp)
    replace y5 := hch.cell y5 (by simp)
    replace y6 := hch.cell y6 (by simp)
    replace z0 := hch.cell z0 (by simp)
    replace z1 := hch.cell z1 (by simp)
    replace z2 := hch.cell z2 (by simp)
    replace z3 := hch.cell z3 (by simp)
    replace z4 := hch.cell z4 (by simp)
    replace z5 := hch.cell z5 (by simp)
    replace z6 := hch.cell z6 (by simp)
    clear hch
    go_wp2_with fail
    refine ((LBA).out w2).mono ?_
    rintro e w3 ⟨rfl, hch⟩
    have HC3 := Lib.hid ((HC2).out.then hch)
    replace x0 := hch.cell x0 (by simp)
    replace x1 := hch.cell x1 (by simp)
    replace x2 := hch.cell x2 (by simp)
    replace x3 := hch.cell x3 (by simp)
    replace x4 := hch.cell x4 (by simp)
    replace x5 := hch.cell x5 (by simp)
    replace x6 := hch.cell x6 (by simp)
    replace y0 := hch.cell y0 (by simp)
    replace y1 := hch.cell y1 (by simp)
    replace y2 := hch.cell y2 (by simp)
    replace y3 := hch.cell y3 (by simp)
    replace y4 := hch.cell y4 (by simp)
    replace y5 := hch.cell y5 (by simp)
    replace y6 := hch.cell y6 (by simp)
    replace z0 := hch.cell z0 (by simp)
    replace z1 := hch.cell z1 (by simp)
    replace z2 := hch.cell z2 (by simp)
    replace z3 := hch.cell z3 (by simp)
    replace z4 := hch.cell z4 (by simp)
    replace z5 := hch.cell z5 (by simp)
    replace z6 := hch.cell z6 (by simp)
    clear hch
    go_upto_region 6 with fail
    go_cut [0, 1, 40] from 8 to 40 (fun _ _ s40 wc => s40 = .bool false ∧ Chg [] w3 wc)
    case first =>
      have HC3 := Lib.hid (Chg.refl [] w3)
      go_wp2_with fail
      refine ((OAB).out w3).mono ?_
      rintro e w4 ⟨rfl, hch⟩
      have HC4 := Lib.hid ((HC3).out.then hch)
      replace x0 := hch.cell x0 (by simp)
      replace x1 := hch.cell x1 (by simp)
      replace x2 := hch.cell x2 (by simp)
      replace x3 := hch.cell x3 (by simp)
      replace x4 := hch.cell x4 (by simp)
      replace x5 := hch.cell x5 (by simp)
      replace x6 := hch.cell x6 (by simp)
      replace y0 := hch.cell y0 (by simp)
      replace y1 := hch.cell y1 (by simp)
      replace y2 := hch.cell y2 (by simp)
      replace y3 := hch.cell y3 (by simp)
      replace y4 := hch.cell y4 (by simp)
      replace y5 := hch.cell y5 (by simp)
      replace y6 := hch.cell y6 (by simp)
      replace z0 := hch.cell z0 (by simp)
      replace z1 := hch.cell z1 (by simp)
      replace z2 := hch.cell z2 (by simp)
      replace z3 := hch.cell z3 (by simp)
      replace z4 := hch.cell z4 (by simp)
      replace z5 := hch.cell z5 (by simp)
      replace z6 := hch.cell z6 (by simp)
      clear hch
      go_wp2_with fail
      refine ((OBA).out w4).mono ?_
      rintro e w5 ⟨rfl, hch⟩
      have HC5 := Lib.hid ((HC4).out.then hch)
      replace x0 := hch.cell x0 (by simp)
      replace x1 := hch.cell x1 (by simp)
      replace x2 := hch.cell x2 (by simp)
      replace x3 := hch.cell x3 (by simp)
      replace x4 := hch.cell x4 (by simp)
      replace x5 := hch.cell x5 (by simp)
      replace x6 := hch.cell x6 (by simp)
      replace y0 := hch.cell y0 (by simp)
      replace y1 := hch.cell y1 (by simp)
      replace y2 := hch.cell y2 (by simp)
      replace y3 := hch.cell y3 (by simp)
      replace y4 := hch.cell y4 (by simp)
      replace y5 := hch.cell y5 (by simp)
      replace y6 := hch.cell y6 (by simp)
      replace z0 := hch.cell z0 (by simp)
      replace z1 := hch.cell z1 (by simp)
      replace z2 := hch.cell z2 (by simp)
      replace z3 := hch.cell z3 (by simp)
      replace z4 := hch.cell z4 (by simp)
      replace z5 := hch.cell z5 (by simp)
      replace z6 := hch.cell z6 (by simp)
      clear hch
      go_wp2_with fail
      refine ((OAA).out w5).mono ?_
      rintro e w6 ⟨rfl, hch⟩
      have HC6 := Lib.hid ((HC5).out.then hch)
      replace x0 := hch.cell x0 (by simp)
      replace x1 := hch.cell x1 (by simp)
      replace x2 := hch.cell x2 (by simp)
      replace x3 := hch.cell x3 (by simp)
      replace x4 := hch.cell x4 (by simp)
      replace x5 := hch.cell x5 (by simp)
      replace x6 := hch.cell x6 (by simp)
      replace y0 := hch.cell y0 (by simp)
      replace y1 := hch.cell y1 (by simp)
      replace y2 := hch.cell y2 (by simp)
      replace y3 := hch.cell y3 (by simp)
      replace y4 := hch.cell y4 (by simp)
      replace y5 := hch.cell y5 (by simp)
      replace y6 := hch.cell y6 (by simp)
      replace z0 := hch.cell z0 (by simp)
      replace z1 := hch.cell z1 (by simp)
      replace z2 := hch.cell z2 (by simp)
      replace z3 := hch.cell z3 (by simp)
      replace z4 := hch.cell z4 (by simp)
      replace z5 := hch.cell z5 (by simp)
      replace z6 := hch.cell z6 (by simp)
      clear hch
      go_wp2
      go_meet
      case rel => exact ⟨rfl, HC6.out⟩
    case rest =>
      obtain ⟨rfl, hch⟩ := hcut
      have HCC := Lib.hid (HC3.out.then hch)
      replace x0 := hch.cell x0 (by simp)
      replace x1 := hch.cell x1 (by simp)
      replace x2 := hch.cell x2 (by simp)
      replace x3 := hch.cell x3 (by simp)
      replace x4 := hch.cell x4 (by simp)
      replace x5 := hch.cell x5 (by simp)
      replace x6 := hch.cell x6 (by simp)
      replace y0 := hch.cell y0 (by simp)
      replace y1 := hch.cell y1 (by simp)
      replace y2 := hch.cell y2 (by simp)
      replace y3 := hch.cell y3 (by simp)
      replace y4 := hch.cell y4 (by simp)
      replace y5 := hch.cell y5 (by simp)
      replace y6 := hch.cell y6 (by simp)
      replace z0 := hch.cell z0 (by simp)
      replace z1 := hch.cell z1 (by simp)
      replace z2 := hch.cell z2 (by simp)
      replace z3 := hch.cell z3 (by simp)
      replace z4 := hch.cell z4 (by simp)
      replace z5 := hch.cell z5 (by simp)
      replace z6 := hch.cell z6 (by simp)
      clear hch
      go_wp2_with fail
      refine ((OAB).out wc).mono ?_
      rintro e w6 ⟨rfl, hch⟩
      have HC6 := Lib.hid ((HCC).out.then hch)
      replace x0 := hch.cell x0 (by simp)
      replace x1 := hch.cell x1 (by simp)
      replace x2 := hch.cell x2 (by simp)
      replace x3 := hch.cell x3 (by simp)
      replace x4 := hch.cell x4 (by simp)
      replace x5 := hch.cell x5 (by simp)
      replace x6 := hch.cell x6 (by simp)
      replace y0 := hch.cell y0 (by simp)
      replace y1 := hch.cell y1 (by simp)
      replace y2 := hch.cell y2 (by simp)
      replace y3 := hch.cell y3 (by simp)
      replace y4 := hch.cell y4 (by simp)
      replace y5 := hch.cell y5 (by simp)
      replace y6 := hch.cell y6 (by simp)
      replace z0 := hch.cell z0 (by simp)
      replace z1 := hch.cell z1 (by simp)
      replace z2 := hch.cell z2 (by simp)
      replace z3 := hch.cell z3 (by simp)
      replace z4 := hch.cell z4 (by simp)
      replace z5 := hch.cell z5 (by simp)
      replace z6 := hch.cell z6 (by simp)
      clear hch
      go_wp2_with fail
      rcases hone2 with rfl | rfl | rfl
      · have hz : Z ≤ 0 := Htr.out (by decide) (by decide)
        have d1 : decide (Z ≤ 0) = true := by simpa using hz
        clear hz
        refine ((OBC).out w6).mono ?_
        rintro e w7 ⟨rfl, hch⟩
        have HC7 := Lib.hid ((HC6).out.then hch)
        replace x0 := hch.cell x0 (by simp)
        replace x1 := hch.cell x1 (by simp)
        replace x2 := hch.cell x2 (by simp)
        replace x3 := hch.cell x3 (by simp)
        replace x4 := hch.cell x4 (by simp)
        replace x5 := hch.cell x5 (by simp)
        replace x6 := hch.cell x6 (by simp)
        replace y0 := hch.cell y0 (by simp)
        replace y1 := hch.cell y1 (by simp)
        replace y2 := hch.cell y2 (by simp)
        replace y3 := hch.cell y3 (by simp)
        replace y4 := hch.cell y4 (by simp)
        replace y5 := hch.cell y5 (by simp)
        replace y6 := hch.cell y6 (by simp)
        replace z0 := hch.cell z0 (by simp)
        replace z1 := hch.cell z1 (by simp)
        replace z2 := hch.cell z2 (by simp)
        replace z3 := hch.cell z3 (by simp)
        replace z4 := hch.cell z4 (by simp)
        replace z5 := hch.cell z5 (by simp)
        replace z6 := hch.cell z6 (by simp)
        clear hch
        go_wp2_with fail
        refine ((OAC).out w7).mono ?_
        rintro e w8 ⟨rfl, hch⟩
        have HC8 := Lib.hid ((HC7).out.then hch)
        replace x0 := hch.cell x0 (by simp)
        replace x1 := hch.cell x1 (by simp)
        replace x2 := hch.cell x2 (by simp)
        replace x3 := hch.cell x3 (by simp)
        replace x4 := hch.cell x4 (by simp)
        replace x5 := hch.cell x5 (by simp)
        replace x6 := hch.cell x6 (by simp)
        replace y0 := hch.cell y0 (by simp)
        replace y1 := hch.cell y1 (by simp)
        replace y2 := hch.cell y2 (by simp)
        replace y3 := hch.cell y3 (by simp)
        replace y4 := hch.cell y4 (by simp)
        replace y5 := hch.cell y5 (by simp)
        replace y6 := hch.cell y6 (by simp)
        replace z0 := hch.cell z0 (by simp)
        replace z1 := hch.cell z1 (by simp)
        replace z2 := hch.cell z2 (by simp)
        replace z3 := hch.cell z3 (by simp)
        replace z4 := hch.cell z4 (by simp)
        replace z5 := hch.cell z5 (by simp)
        replace z6 := hch.cell z6 (by simp)
        clear hch
        go_wp2_with fail
        refine (known12 _ (HT.out.frame (HC8).out)).mono ?_
        rintro e wk ⟨rfl, hch⟩
        have HK := Lib.hid ((HC8).out.then hch)
        clear hch
        go_wp2
        go_ret
        exact ⟨rfl, HK.out⟩
      · have hz : Z ≤ 0 := Htr.out (by decide) (by decide)
        have d1 : decide (Z ≤ 0) = true := by simpa using hz
        clear hz
        refine ((OBC).out w6).mono ?_
        rintro e w7 ⟨rfl, hch⟩
        have HC7 := Lib.hid ((HC6).out.then hch)
        replace x0 := hch.cell x0 (by simp)
        replace x1 := hch.cell x1 (by simp)
        replace x2 := hch.cell x2 (by simp)
        replace x3 := hch.cell x3 (by simp)
        replace x4 := hch.cell x4 (by simp)
        replace x5 := hch.cell x5 (by simp)
        replace x6 := hch.cell x6 (by simp)
        replace y0 := hch.cell y0 (by simp)
        replace y1 := hch.cell y1 (by simp)
        replace y2 := hch.cell y2 (by simp)
        replace y3 := hch.cell y3 (by simp)
        replace y4 := hch.cell y4 (by simp)
        replace y5 := hch.cell y5 (by simp)
        replace y6 := hch.cell y6 (by simp)
        replace z0 := hch.cell z0 (by simp)
        replace z1 := hch.cell z1 (by simp)
        replace z2 := hch.cell z2 (by simp)
        replace z3 := hch.cell z3 (by simp)
        replace z4 := hch.cell z4 (by simp)
        replace z5 := hch.cell z5 (by simp)
        replace z6 := hch.cell z6 (by simp)
        clear hch
        go_wp2_with fail
        refine ((OAC).out w7).mono ?_
        rintro e w8 ⟨rfl, hch⟩
        have HC8 := Lib.hid ((HC7).out.then hch)
        replace x0 := hch.cell x0 (by simp)
        replace x1 := hch.cell x1 (by simp)
        replace x2 := hch.cell x2 (by simp)
        replace x3 := hch.cell x3 (by simp)
        replace x4 := hch.cell x4 (by simp)
        replace x5 := hch.cell x5 (by simp)
        replace x6 := hch.cell x6 (by simp)
        replace y0 := hch.cell y0 (by simp)
        replace y1 := hch.cell y1 (by simp)
        replace y2 := hch.cell y2 (by simp)
        replace y3 := hch.cell y3 (by simp)
        replace y4 := hch.cell y4 (by simp)
        replace y5 := hch.cell y5 (by simp)
        replace y6 := hch.cell y6 (by simp)
        replace z0 := hch.cell z0 (by simp)
        replace z1 := hch.cell z1 (by simp)
        replace z2 := hch.cell z2 (by simp)
        replace z3 := hch.cell z3 (by simp)
        replace z4 := hch.cell z4 (by simp)
        replace z5 := hch.cell z5 (by simp)
        replace z6 := hch.cell z6 (by simp)
        clear hch
        go_wp2_with fail
        refine (known12 _ (HT.out.frame (HC8).out)).mono ?_
        rintro e wk ⟨rfl, hch⟩
        have HK := Lib.hid ((HC8).out.then hch)
        clear hch
        go_wp2
        go_ret
        exact ⟨rfl, HK.out⟩
      · skip
        refine ((OBC).out w6).mono ?_
        rintro e w7 ⟨rfl, hch⟩
        have HC7 := Lib.hid ((HC6).out.then hch)
        replace x0 := hch.cell x0 (by simp)
        replace x1 := hch.cell x1 (by simp)
        replace x2 := hch.cell x2 (by simp)
        replace x3 := hch.cell x3 (by simp)
        replace x4 := hch.cell x4 (by simp)
        replace x5 := hch.cell x5 (by simp)
        replace x6 := hch.cell x6 (by simp)
        replace y0 := hch.cell y0 (by simp)
        replace y1 := hch.cell y1 (by simp)
        replace y2 := hch.cell y2 (by simp)
        replace y3 := hch.cell y3 (by simp)
        replace y4 := hch.cell y4 (by simp)
        replace y5 := hch.cell y5 (by simp)
        replace y6 := hch.cell y6 (by simp)
        replace z0 := hch.cell z0 (by simp)
        replace z1 := hch.cell z1 (by simp)
        replace z2 := hch.cell z2 (by simp)
        replace z3 := hch.cell z3 (by simp)
        replace z4 := hch.cell z4 (by simp)
        replace z5 := hch.cell z5 (by simp)
        replace z6 := hch.cell z6 (by simp)
        clear hch
        go_wp2_with fail
        refine (known12 _ (HT.out.frame (HC7).out)).mono ?_
        rintro e wk ⟨rfl, hch⟩
        have HK := Lib.hid ((HC7).out.then hch)
        clear hch
        go_wp2
        go_ret
        exact ⟨rfl, HK.out⟩
  · have hab : ¬ a = b := fun e => absurd (Heq.out.2 e) (by decide)
    have Hab := Lib.hid hab
    clear hab
    go_wp2_with fail
    refine ((LAB).out w1).mono ?_
    rintro e w2 ⟨rfl, hch⟩
    have HC2 := Lib.hid ((HC1).out.then hch)
    replace x0 := hch.cell x0 (by simp)
    replace x1 := hch.cell x1 (by simp)
    replace x2 := hch.cell x2 (by simp)
    replace x3 := hch.cell x3 (by simp)
    replace x4 := hch.cell x4 (by simp)
    replace x5 := hch.cell x5 (by simp)
    replace x6 := hch.cell x6 (by simp)
    replace y0 := hch.cell y0 (by simp)
    replace y1 := hch.cell y1 (by simp)
    replace y2 := hch.cell y2 (by simp)
    replace y3 := hch.cell y3 (by simp)
    replace y4 := hch.cell y4 (by simp)
    replace y5 := hch.cell y5 (by simp)
    replace y6 := hch.cell y6 (by simp)
    replace z0 := hch.cell z0 (by simp)
    replace z1 := hch.cell z1 (by simp)
    replace z2 := hch.cell z2 (by simp)
    replace z3 := hch.cell z3 (by simp)
    replace z4 := hch.cell z4 (by simp)
    replace z5 := hch.cell z5 (by simp)
    replace z6 := hch.cell z6 (by simp)
    clear hch
    go_wp2_with fail
    refine ((LBA).out w2).mono ?_
    rintro e w3 ⟨rfl, hch⟩
    have HC3 := Lib.hid ((HC2).out.then hch)
    replace x0 := hch.cell x0 (by simp)
    replace x1 := hch.cell x1 (by simp)
    replace x2 := hch.cell x2 (by simp)
    replace x3 := hch.cell x3 (by simp)
    replace x4 := hch.cell x4 (by simp)
    replace x5 := hch.cell x5 (by simp)
    replace x6 := hch.cell x6 (by simp)
    replace y0 := hch.cell y0 (by simp)
    replace y1 := hch.cell y1 (by simp)
    replace y2 := hch.cell y2 (by simp)
    replace y3 := hch.cell y3 (by simp)
    replace y4 := hch.cell y4 (by simp)
    replace y5 := hch.cell y5 (by simp)
    replace y6 := hch.cell y6 (by simp)
    replace z0 := hch.cell z0 (by simp)
    replace z1 := hch.cell z1 (by simp)
    replace z2 := hch.cell z2 (by simp)
    replace z3 := hch.cell z3 (by simp)
    replace z4 := hch.cell z4 (by simp)
    replace z5 := hch.cell z5 (by simp)
    replace z6 := hch.cell z6 (by simp)
    clear hch
    go_upto_region 6 with fail
    go_cut [0, 1, 40] from 8 to 40 (fun _ _ s40 wc => s40 = .bool false ∧ Chg [] w3 wc)
    case first =>
      have HC3 := Lib.hid (Chg.refl [] w3)
      go_wp2_with fail
      refine ((OAB).out w3).mono ?_
      rintro e w4 ⟨rfl, hch⟩
      have HC4 := Lib.hid ((HC3).out.then hch)
      replace x0 := hch.cell x0 (by simp)
      replace x1 := hch.cell x1 (by simp)
      replace x2 := hch.cell x2 (by simp)
      replace x3 := hch.cell x3 (by simp)
      replace x4 := hch.cell x4 (by simp)
      replace x5 := hch.cell x5 (by simp)
      replace x6 := hch.cell x6 (by simp)
      replace y0 := hch.cell y0 (by simp)
      replace y1 := hch.cell y1 (by simp)
      replace y2 := hch.cell y2 (by simp)
      replace y3 := hch.cell y3 (by simp)
      replace y4 := hch.cell y4 (by simp)
      replace y5 := hch.cell y5 (by simp)
      replace y6 := hch.cell y6 (by simp)
      replace z0 := hch.cell z0 (by simp)
      replace z1 := hch.cell z1 (by simp)
      replace z2 := hch.cell z2 (by simp)
      replace z3 := hch.cell z3 (by simp)
      replace z4 := hch.cell z4 (by simp)
      replace z5 := hch.cell z5 (by simp)
      replace z6 := hch.cell z6 (by simp)
      clear hch
      go_wp2_with fail
      refine ((OBA).out w4).mono ?_
      rintro e w5 ⟨rfl, hch⟩
      have HC5 := Lib.hid ((HC4).out.then hch)
      replace x0 := hch.cell x0 (by simp)
      replace x1 := hch.cell x1 (by simp)
      replace x2 := hch.cell x2 (by simp)
      replace x3 := hch.cell x3 (by simp)
      replace x4 := hch.cell x4 (by simp)
      replace x5 := hch.cell x5 (by simp)
      replace x6 := hch.cell x6 (by simp)
      replace y0 := hch.cell y0 (by simp)
      replace y1 := hch.cell y1 (by simp)
      replace y2 := hch.cell y2 (by simp)
      replace y3 := hch.cell y3 (by simp)
      replace y4 := hch.cell y4 (by simp)
      replace y5 := hch.cell y5 (by simp)
      replace y6 := hch.cell y6 (by simp)
      replace z0 := hch.cell z0 (by simp)
      replace z1 := hch.cell z1 (by simp)
      replace z2 := hch.cell z2 (by simp)
      replace z3 := hch.cell z3 (by simp)
      replace z4 := hch.cell z4 (by simp)
      replace z5 := hch.cell z5 (by simp)
      replace z6 := hch.cell z6 (by simp)
      clear hch
      go_wp2_with fail
      all_goals
        first
        | (exfalso; refine Hab.out (fx_ext ?_ ?_ ?_ ?_ ?_ ?_ ?_) <;> assumption)
        | (refine (OX.out _ _ _ _ _ _ _ w5).mono ?_
           rintro e w6 ⟨rfl, hch⟩
           replace HC5 := HC5.out.then hch
           clear hch
           go_wp2
           go_meet
           case rel => exact ⟨rfl, HC5⟩)
    case rest =>
      obtain ⟨rfl, hch⟩ := hcut
      have HCC := Lib.hid (HC3.out.then hch)
      replace x0 := hch.cell x0 (by simp)
      replace x1 := hch.cell x1 (by simp)
      replace x2 := hch.cell x2 (by simp)
      replace x3 := hch.cell x3 (by simp)
      replace x4 := hch.cell x4 (by simp)
      replace x5 := hch.cell x5 (by simp)
      replace x6 := hch.cell x6 (by simp)
      replace y0 := hch.cell y0 (by simp)
      replace y1 := hch.cell y1 (by simp)
      replace y2 := hch.cell y2 (by simp)
      replace y3 := hch.cell y3 (by simp)
      replace y4 := hch.cell y4 (by simp)
      replace y5 := hch.cell y5 (by simp)
      replace y6 := hch.cell y6 (by simp)
      replace z0 := hch.cell z0 (by simp)
      replace z1 := hch.cell z1 (by simp)
      replace z2 := hch.cell z2 (by simp)
      replace z3 := hch.cell z3 (by simp)
      replace z4 := hch.cell z4 (by simp)
      replace z5 := hch.cell z5 (by simp)
      replace z6 := hch.cell z6 (by simp)
      clear hch
      go_wp2_with fail
      refine ((OAB).out wc).mono ?_
      rintro e w6 ⟨rfl, hch⟩
      have HC6 := Lib.hid ((HCC).out.then hch)
      replace x0 := hch.cell x0 (by simp)
      replace x1 := hch.cell x1 (by simp)
      replace x2 := hch.cell x2 (by simp)
      replace x3 := hch.cell x3 (by simp)
      replace x4 := hch.cell x4 (by simp)
      replace x5 := hch.cell x5 (by simp)
      replace x6 := hch.cell x6 (by simp)
      replace y0 := hch.cell y0 (by simp)
      replace y1 := hch.cell y1 (by simp)
      replace y2 := hch.cell y2 (by simp)
      replace y3 := hch.cell y3 (by simp)
      replace y4 := hch.cell y4 (by simp)
      replace y5 := hch.cell y5 (by simp)
      replace y6 := hch.cell y6 (by simp)
      replace z0 := hch.cell z0 (by simp)
      replace z1 := hch.cell z1 (by simp)
      replace z2 := hch.cell z2 (by simp)
      replace z3 := hch.cell z3 (by simp)
      replace z4 := hch.cell z4 (by simp)
      replace z5 := hch.cell z5 (by simp)
      replace z6 := hch.cell z6 (by simp)
      clear hch
      go_wp2_with fail
      refine (known12 _ (HT.out.frame (HC6).out)).mono ?_
      rintro e wk ⟨rfl, hch⟩
      have HK := Lib.hid ((HC6).out.then hch)
      clear hch
      go_wp2
      go_ret
      exact ⟨rfl, HK.out⟩
end Go.Proofs.YtmljcpmepfkpnaaDoor
