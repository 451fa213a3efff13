/- What is known of chapter 17: clevislaw17.known. -/
import Derived.Test.YtgmlcmmphhmogaaDm7
import Derived.BigQuiet
namespace Go.Proofs.Ytgmlcmmphhmogaa
open Go.RowKit
set_option maxRecDepth 100000

section
variable {α : Type} {L : Lay α} {P : Program} {T E : TypeId} {ops : Array Oper} {rest : List Oper} {a : Act} {Q : Exit → Act → World → Prop} {w : World}
theorem bsf1 {d : Tmp} {s : Operand} {ty : TypeId} {pos : String} {after : Array Edge} (x : α)
    (hr : ∀ w, (Instr.buildSlice T 1 #[(0, L.val x)]).run P w = .ok (.slice (some ⟨w.heap.size, 0, none⟩) 1 1) (w.alloc (.cells (L.f x).toArray E)))
    (hs : a.eval s = L.val x)
    (h : ∀ W v, Chg [] w W → L.Rd W v [x] → wpList P ops Q rest (a.put (some d) v) W) : wpList P ops Q (⟨some d, .buildSlice T 1 #[(0, s)], ty, pos, after, none⟩ :: rest) a w := by
  refine wpList_plain rfl fun K hK => ?_
  have hrw := hr w
  unfold Oper.wp execOp
  simp only [List.map_toArray, List.map_cons, List.map_nil, hs, Sem.run_bind, hrw, Result.andThen_ok, Sem.run_pure]
  exact hK _ _ (h _ _ ((Chg.refl _ _).alloc _) (Lay.Rd.of_heap (heap_alloc_eq _ _) (Lay.vals_single x).symm rfl (show 1 ≤ maxLen by decide)))
theorem bsf2 {d : Tmp} {s t : Operand} {ty : TypeId} {pos : String} {after : Array Edge} (x y : α)
    (hr : ∀ w, (Instr.buildSlice T 2 #[(0, L.val x), (1, L.val y)]).run P w = .ok (.slice (some ⟨w.heap.size, 0, none⟩) 2 2) (w.alloc (.cells (L.f x ++ L.f y).toArray E)))
    (hs : a.eval s = L.val x) (ht : a.eval t = L.val y)
    (h : ∀ W v, Chg [] w W → L.Rd W v [x, y] → wpList P ops Q rest (a.put (some d) v) W) : wpList P ops Q (⟨some d, .buildSlice T 2 #[(0, s), (1, t)], ty, pos, after, none⟩ :: rest) a w := by
  refine wpList_plain rfl fun K hK => ?_
  have hrw := hr w
  unfold Oper.wp execOp
  simp only [List.map_toArray, List.map_cons, List.map_nil, hs, ht, Sem.run_bind, hrw, Result.andThen_ok, Sem.run_pure]
  exact hK _ _ (h _ _ ((Chg.refl _ _).alloc _) (Lay.Rd.of_heap (heap_alloc_eq _ _) (by simp [Lay.vals]) rfl (show 2 ≤ maxLen by decide)))
end
theorem fx_built (x : Fx) (w : World) : (Instr.buildSlice 28 1 #[(0, fxl.val x)]).run Try.prog w = .ok (.slice (some ⟨w.heap.size, 0, none⟩) 1 1) (w.alloc (.cells (fxl.f x).toArray 25)) := by
  show (Instr.buildSlice 28 1 #[(0, .agg #[.int .u64 x.at_, .int .i64 x.kind, .int .u64 x.tgt, .int .i64 x.ord, .string x.sym, .int .i64 x.add, .bool x.weak])]).run Try.prog w = .ok (.slice (some ⟨w.heap.size, 0, none⟩) 1 1) (w.alloc (.cells #[.int .u64 x.at_, .int .i64 x.kind, .int .u64 x.tgt, .int .i64 x.ord, .string x.sym, .int .i64 x.add, .bool x.weak] 25))
  go_simp
theorem fx_built2 (x y : Fx) (w : World) : (Instr.buildSlice 28 2 #[(0, fxl.val x), (1, fxl.val y)]).run Try.prog w = .ok (.slice (some ⟨w.heap.size, 0, none⟩) 2 2) (w.alloc (.cells (fxl.f x ++ fxl.f y).toArray 25)) := by
  show (Instr.buildSlice 28 2 #[(0, .agg #[.int .u64 x.at_, .int .i64 x.kind, .int .u64 x.tgt, .int .i64 x.ord, .string x.sym, .int .i64 x.add, .bool x.weak]), (1, .agg #[.int .u64 y.at_, .int .i64 y.kind, .int .u64 y.tgt, .int .i64 y.ord, .string y.sym, .int .i64 y.add, .bool y.weak])]).run Try.prog w = .ok (.slice (some ⟨w.heap.size, 0, none⟩) 2 2) (w.alloc (.cells #[.int .u64 x.at_, .int .i64 x.kind, .int .u64 x.tgt, .int .i64 x.ord, .string x.sym, .int .i64 x.add, .bool x.weak, .int .u64 y.at_, .int .i64 y.kind, .int .u64 y.tgt, .int .i64 y.ord, .string y.sym, .int .i64 y.add, .bool y.weak] 25))
  go_simp
def rK : Fx := ⟨8, 1, 5, 0, ⟨#[]⟩, 0, false⟩
def bK : Fx := ⟨8, 2, 0, -3, ⟨#[97]⟩, 0, false⟩
def oK : Fx := ⟨12, 1, 5, 0, ⟨#[]⟩, 0, false⟩
theorem two_rd {W : World} {v1 v2 : SlV} {w0 : World} {x y : List Fx} (r1 : fxl.Rd w0 v1.v x) (r2 : fxl.Rd w0 v2.v y) (hc : Chg [] w0 W) : ∀ j, j < 2 → fxl.Rd W (([v1, v2] : List SlV).getD j ⟨none, 0, 0⟩).v (([x, y] : List (List Fx)).getD j []) := fun j hj => by
  match j, hj with
  | 0, _ => exact r1.frame hc
  | 1, _ => exact r2.frame hc
set_option maxHeartbeats 4000000 in
theorem known17 (w : World) : Calls Try.prog 5 #[] w fun e w' => e = .returned (.bool true) ∧ Chg [] w w' := by
  have HM1 : Hid (∀ (v1 v2 : SlV) (v : Value) (W : World), slL.Rd W v [v1, v2] → (∀ j, j < 2 → fxl.Rd W (([v1, v2] : List SlV).getD j ⟨none, 0, 0⟩).v (([[rK], [bK]] : List (List Fx)).getD j [])) → Calls Try.prog 6 #[v] W fun e w' => (∃ v', e = .returned (.tuple #[v', .int .i64 0]) ∧ FB w' W.heap.size v' [bK]) ∧ Chg [] W w') := by
    refine Lib.hid ?_
    intro v1 v2 v W rd hr
    have hs : setF [bK] = [bK] := by decide +kernel
    have hm : meetF [bK] = false := by decide +kernel
    have h := merge_any [v1, v2] [[rK], [bK]] v W rd rfl (by decide) hr (by decide) 8 (fun _ x hx => by simp at hx; rcases hx with rfl | rfl <;> rfl) [bK] (.inr ⟨rK, bK, rfl, rfl, by decide +kernel, by decide +kernel, by decide +kernel⟩) (fun x hx => by simp at hx; subst hx; decide)
    rw [hs, hm] at h
    exact h
  have HM2 : Hid (∀ (v1 : SlV) (v : Value) (W : World), slL.Rd W v [v1] → fxl.Rd W v1.v [rK, oK] → Calls Try.prog 6 #[v] W fun e w' => e = .returned (.tuple #[.slice none 0 0, .int .i64 21]) ∧ Chg [] W w') := by
    refine Lib.hid ?_
    intro v1 v W rd hr
    have hs : meetF (setF [rK, oK]) = true := by decide +kernel
    have hw : ([[rK, oK]] : List (List Fx)).flatten.any weakB = false := by decide +kernel
    have h := merge_any [v1] [[rK, oK]] v W rd rfl (by decide) (fun j hj => by have : j = 0 := by simpa using hj
                                                                               subst this; exact hr) (by decide) 8 (fun e => by rw [hw] at e; cases e) [rK, oK] (.inl ⟨rfl, fun j hj => by rw [hw]; match j, hj with | 0, _ => decide +kernel | 1, _ => decide +kernel⟩) (fun x hx => by simp at hx; rcases hx with rfl | rfl <;> decide)
    rw [hs] at h
    exact h
  go_enter Try.func5, Try.ntmps5
  go_wp2_with ((with_reducible refine Lay.alL Try.tFx ?_); intro W1 br ebr cbr xbr; replace ebr := Lib.hid ebr; replace cbr := Lib.hid cbr; replace xbr := Lib.hid xbr; refine Hid.out ?_)
  refine Lib.hid ?_
  go_wp2_with ((with_reducible refine Lay.stL Try.tFx rK (xbr.out) ?_ ?_ ?_); exact rfl; exact rfl; intro W2 cW2 xW2; replace cW2 := Lib.hid cW2; replace xW2 := Lib.hid xW2; refine Hid.out ?_)
  refine Lib.hid ?_
  have D2 : Hid (Chg [] w W2) := Lib.hid (cbr.out.new cW2.out (by rw [ebr.out]; exact Nat.le_refl _))
  go_wp2_with ((with_reducible refine Lay.alL Try.tFx ?_); intro W3 bb ebb cbb xbb; replace ebb := Lib.hid ebb; replace cbb := Lib.hid cbb; replace xbb := Lib.hid xbb; refine Hid.out ?_)
  refine Lib.hid ?_
  go_wp2_with ((with_reducible refine Lay.stL Try.tFx bK (xbb.out) ?_ ?_ ?_); exact rfl; exact rfl; intro W4 cW4 xW4; replace cW4 := Lib.hid cW4; replace xW4 := Lib.hid xW4; refine Hid.out ?_)
  refine Lib.hid ?_
  have D4 : Hid (Chg [] W2 W4) := Lib.hid (cbb.out.new cW4.out (by rw [ebb.out]; exact Nat.le_refl _))
  have R4 := Lib.hid (xW2.out.frame D4.out)
  clear cbr cW2 ebr xbr xbb ebb cbb cW4
  go_wp2_with ((with_reducible refine Lay.ldL Try.tFx rK (R4.out.in) ?_ ?_); exact rfl; refine Hid.out ?_)
  refine Lib.hid ?_
  go_wp2_with ((with_reducible refine Lay.alL Try.tFx ?_); intro W5 bo ebo cbo xbo; replace ebo := Lib.hid ebo; replace cbo := Lib.hid cbo; replace xbo := Lib.hid xbo; refine Hid.out ?_)
  refine Lib.hid ?_
  go_wp2_with ((with_reducible refine Lay.stL Try.tFx rK (xbo.out) ?_ ?_ ?_); exact rfl; exact rfl; intro W6 cW6 xW6; replace cW6 := Lib.hid cW6; replace xW6 := Lib.hid xW6; refine Hid.out ?_)
  refine Lib.hid ?_
  have D6 : Hid (Chg [] W4 W6) := Lib.hid (cbo.out.new cW6.out (by rw [ebo.out]; exact Nat.le_refl _))
  have x0 : W6.cell? ⟨bo, 0, none⟩ = some (.int .u64 8) := xW6.out.in 0 (by decide)
  have z0 : W6.frozen? ⟨bo, 0, none⟩ = false := xW6.out.frozen 0
  go_upto_region 5 with fail
  refine Lay.with_world (fun W => fxl.Box W bo oK ∧ Chg [bo] W6 W) ⟨xW6.out.set 0 _ oK rfl, (Chg.refl [bo] W6).setCell _ _ (.inl (by simp))⟩ (fun W7 hW => ?_)
  obtain ⟨xo, co⟩ := hW
  have hbo : W4.heap.size ≤ bo := by rw [ebo.out]; exact Nat.le_refl _
  have O7 := Lib.hid (xo)
  have D7 : Hid (Chg [] W4 W7) := Lib.hid (D6.out.trans co (fun i hi hw => by simp at hi; omega))
  have R7 := Lib.hid (R4.out.frame D7.out)
  have B7 := Lib.hid (xW4.out.frame D7.out)
  have C7 : Hid (Chg [] w W7) := Lib.hid ((D2.out.then D4.out).then D7.out)
  clear xo co hbo x0 z0 D6 ebo cbo xbo cW6 xW6 D7 R4 xW4 D4 D2 xW2
  go_wp2_with ((with_reducible refine Lay.ldL Try.tFx rK (R7.out.in) ?_ ?_); exact rfl; refine Hid.out ?_)
  refine Lib.hid ?_
  go_wp2_with ((with_reducible refine bsf1 (rK) (fx_built rK) ?_ ?_); exact rfl; intro W8 v8 cv8 rv8; replace cv8 := Lib.hid cv8; replace rv8 := Lib.hid rv8; refine Hid.out ?_)
  refine Lib.hid ?_
  obtain ⟨a8, k8, rfl, _, _⟩ := rv8.out.shape
  have B8 := Lib.hid (B7.out.frame cv8.out)
  go_wp2_with ((with_reducible refine Lay.ldL Try.tFx bK (B8.out.in) ?_ ?_); exact rfl; refine Hid.out ?_)
  refine Lib.hid ?_
  go_wp2_with ((with_reducible refine bsf1 (bK) (fx_built bK) ?_ ?_); exact rfl; intro W9 v9 cv9 rv9; replace cv9 := Lib.hid cv9; replace rv9 := Lib.hid rv9; refine Hid.out ?_)
  refine Lib.hid ?_
  obtain ⟨a9, k9, rfl, _, _⟩ := rv9.out.shape
  have R9 := Lib.hid ((R7.out.frame cv8.out).frame cv9.out)
  have O9 := Lib.hid ((O7.out.frame cv8.out).frame cv9.out)
  have B9 := Lib.hid (B8.out.frame cv9.out)
  have C9 := Lib.hid ((C7.out.then cv8.out).then cv9.out)
  clear R7 O7 B8 B7 C7
  go_wp2_with fail
  refine (HM1.out ⟨a8, 1, k8⟩ ⟨a9, 1, k9⟩ _ _ (Lay.Rd.of_heap (heap_alloc_eq _ _) rfl rfl (show 2 ≤ maxLen by decide)) (two_rd (v1 := ⟨a8, 1, k8⟩) (v2 := ⟨a9, 1, k9⟩) (rv8.out.frame cv9.out) rv9.out ((Chg.refl _ _).alloc _))).mono ?_
  rintro e W10 ⟨⟨v10, rfl, hb⟩, hc⟩
  have D10 : Hid (Chg [] W9 W10) := Lib.hid (((Chg.refl [] W9).alloc _).then hc)
  obtain ⟨g, k10, rfl, _, _⟩ := hb.at (by decide)
  have F10 := Lib.hid (hb.rd)
  have R10 := Lib.hid (R9.out.frame D10.out)
  have O10 := Lib.hid (O9.out.frame D10.out)
  have B10 := Lib.hid (B9.out.frame D10.out)
  have C10 := Lib.hid (C9.out.then D10.out)
  clear R9 O9 B9 C9 D10 hb hc rv8 rv9 cv8 cv9
  go_wp2_with ((with_reducible refine Lay.ldL Try.tFx rK (R10.out.in) ?_ ?_); exact rfl; refine Hid.out ?_)
  refine Lib.hid ?_
  go_wp2_with ((with_reducible refine Lay.ldL Try.tFx oK (O10.out.in) ?_ ?_); exact rfl; refine Hid.out ?_)
  refine Lib.hid ?_
  go_wp2_with ((with_reducible refine bsf2 (rK) (oK) (fx_built2 rK oK) ?_ ?_ ?_); exact rfl; exact rfl; intro W11 v11 cv11 rv11; replace cv11 := Lib.hid cv11; replace rv11 := Lib.hid rv11; refine Hid.out ?_)
  refine Lib.hid ?_
  obtain ⟨a11, k11, rfl, _, _⟩ := rv11.out.shape
  go_wp2_with fail
  refine (HM2.out ⟨a11, 2, k11⟩ _ _ (Lay.Rd.of_heap (heap_alloc_eq _ _) rfl rfl (show 1 ≤ maxLen by decide)) (rv11.out.frame ((Chg.refl _ _).alloc _))).mono ?_
  rintro e W12 ⟨rfl, hc⟩
  have D12 : Hid (Chg [] W10 W12) := Lib.hid ((cv11.out.alloc _).then hc)
  obtain ⟨g', off, he, _, hcell⟩ := (F10.out.frame D12.out).at (by decide)
  cases he
  have hg : fxl.In W12 g 0 bK := by have := hcell 0 (by decide); rwa [Nat.zero_mul, Nat.zero_add] at this
  have hb : fxl.In W12 bb 0 bK := (B10.out.frame D12.out).in
  have C12 := Lib.hid (C10.out.then D12.out)
  clear hcell D12 hc
  have x_0 : W12.cell? ⟨g, 0, none⟩ = some (.int .u64 8) := hg 0 (by decide)
  have x_1 : W12.cell? ⟨g, 1, none⟩ = some (.int .i64 2) := hg 1 (by decide)
  have x_2 : W12.cell? ⟨g, 2, none⟩ = some (.int .u64 0) := hg 2 (by decide)
  have x_3 : W12.cell? ⟨g, 3, none⟩ = some (.int .i64 (-3)) := hg 3 (by decide)
  have x_4 : W12.cell? ⟨g, 4, none⟩ = some (.string ⟨#[97]⟩) := hg 4 (by decide)
  have x_5 : W12.cell? ⟨g, 5, none⟩ = some (.int .i64 0) := hg 5 (by decide)
  have x_6 : W12.cell? ⟨g, 6, none⟩ = some (.bool false) := hg 6 (by decide)
  have y_0 : W12.cell? ⟨bb, 0, none⟩ = some (.int .u64 8) := hb 0 (by decide)
  have y_1 : W12.cell? ⟨bb, 1, none⟩ = some (.int .i64 2) := hb 1 (by decide)
  have y_2 : W12.cell? ⟨bb, 2, none⟩ = some (.int .u64 0) := hb 2 (by decide)
  have y_3 : W12.cell? ⟨bb, 3, none⟩ = some (.int .i64 (-3)) := hb 3 (by decide)
  have y_4 : W12.cell? ⟨bb, 4, none⟩ = some (.string ⟨#[97]⟩) := hb 4 (by decide)
  have y_5 : W12.cell? ⟨bb, 5, none⟩ = some (.int .i64 0) := hb 5 (by decide)
  have y_6 : W12.cell? ⟨bb, 6, none⟩ = some (.bool false) := hb 6 (by decide)
  clear hg hb
  have q : ∀ W, (binOp .eql 25 (.agg #[.int .u64 8, .int .i64 2, .int .u64 0, .int .i64 (-3), .string ⟨#[97]⟩, .int .i64 0, .bool false]) (.agg #[.int .u64 8, .int .i64 2, .int .u64 0, .int .i64 (-3), .string ⟨#[97]⟩, .int .i64 0, .bool false])).run Try.prog W = .ok (.bool true) W := fun W => (fx_eql bK bK W).trans (by rw [decide_eq_true rfl])
  go_upto_region 7 with fail
  go_quiet (fail)
  go_wp2
  go_ret
  exact ⟨rfl, C12.out.drewN _⟩
end Go.Proofs.Ytgmlcmmphhmogaa
