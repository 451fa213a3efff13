/- Lemmas, laid together: part 41 of 42. Conditions: none but each lemma's own. -/
import Derived.Test.YtiljokmkiolpgaaGreatDoorJ39
import Derived.Test.YtiljokmkiolpgaaGreatDoorJ40
import Derived.Test.YtiljokmkiolpgaaGreatDoorJ1
namespace Go.Proofs.YtiljokmkiolpgaaGreatDoor
open Go.RowKit
set_option maxRecDepth 100000
def RReadsAll (l : List UInt8) (w : World) (e : Ending) (w' : World) : Prop :=
 ∃ v ps base, e = .returned (.tuple #[.agg #[.int .i64 (rN l (hdSub l) : Nat), .int .i64 (rN l (nL l 12) : Nat), .int .u32 (rN l (nL l 24) : Nat)], v, .int .i64 (rN l (32 + nL l 20) : Nat), .int .i64 (readE l)]) ∧ w'.ownsRow base 104 2 v ps.length (cmdV ps) ∧ (∀ p ∈ ps, ∃ a c, p.2 = .slice a p.1.2.length c ∧ Rd w' p.2 (bytesV p.1.2)) ∧ ps.map Prod.fst = readCs l ∧ Chg [] w w'
theorem RReadsAll.no {l : List UInt8} {w w' : World} {E : Int} (hE : readE l = E) (hn : E ≠ 0) (hc : Chg [] w w') : RReadsAll l w (.returned (.tuple #[.agg #[.int .i64 0, .int .i64 0, .int .u32 0], .slice none 0 0, .int .i64 0, .int .i64 E])) w' := by
 have h0 : ¬ readE l = 0 := by rw [hE]; exact hn
 refine ⟨.slice none 0 0, [], w'.heap.size, ?_, (OutC.nil w' _).own, fun p hp => (by cases hp), by unfold readCs; rw [if_neg h0]; rfl, hc⟩
 unfold rN
 simp only [if_neg h0]
 rw [hE]
 rfl
theorem readE_head {l : List UInt8} {E : Int} (h : headE l = E) (hn : E ≠ 0) : readE l = E := by
 unfold readE
 rw [if_neg (by rw [h]; exact hn), h]
theorem run_app_cmd (w : World) (ty : TypeId) (base : Nat) (v : Value) (ps : List (Cmd × Value)) (hb : w.ownsRow base 104 2 v ps.length (cmdV ps)) (q cmd : Nat) (aV : Option Addr) (nV cV : Nat) (hq : w.heap[q]? = some (.cells #[.int .u32 (cmd : Nat), .slice aV nV cV] 104 (0, 0)))
  (hlen : ps.length ≤ 1000000) (hbase : base ≤ w.heap.size) :
  ∃ v' w', (Builtin.append_ #[64, 64] ty #[v, .slice (some ⟨q, 0, none⟩) 1 1]).run Tryz.prog w = .ok v' w' ∧ w'.ownsRow base 104 2 v' (ps.length + 1) (cmdV ps ++ [.int .u32 (cmd : Nat), .slice aV nV cV]) ∧ w.grownBy w' v.ownBlock := by
 obtain ⟨i0, hi, hz0, hz1, hz2⟩ := info_parts Tryz.infoCmd
 obtain ⟨v', w', hr, h2, h3, _, _⟩ := run_append_own_at (P := Tryz.prog) w base 64 ty 104 i0 _ 2 32 Tryz.uCmdsF hi hz0 hz1 hz2 rfl (by decide) v ps.length (cmdV ps) hb ⟨q, 0, none⟩ 1 1 [.int .u32 (cmd : Nat), .slice aV nV cV] rfl (by
  intro j u hu
  rw [Addr_add, Nat.zero_add, cell_of_heap hq]
  simpa using hu) (by
  intro u hu
  simp only [List.mem_cons, List.not_mem_nil, or_false] at hu
  rcases hu with rfl | rfl <;> rfl) (by unfold maxLen; omega) (by omega) hbase
 exact ⟨v', w', hr, h2, h3⟩
theorem arm_cmd {o : Oper} {a : Act} {w : World} {K : Act → World → Prop} {Q : Exit → Act → World → Prop} {tm : Nat → Option Bool} (hgd : o.guard = none) (s x : Operand) (ho : o.op = .call { callee := .builtin .append, args := #[s, x], argTypes := #[64, 64] })
  (base : Nat) (v : Value) (ps : List (Cmd × Value)) (hs : a.eval s = v) (hb : w.ownsRow base 104 2 v ps.length (cmdV ps)) (q cmd : Nat) (aV : Option Addr) (nV cV : Nat) (hx : a.eval x = .slice (some ⟨q, 0, none⟩) 1 1) (hq : w.heap[q]? = some (.cells #[.int .u32 (cmd : Nat), .slice aV nV cV] 104 (0, 0)))
  (hlen : ps.length ≤ 1000000) (hbase : base ≤ w.heap.size)
  (h : ∀ v' w', w'.ownsRow base 104 2 v' (ps.length + 1) (cmdV ps ++ [.int .u32 (cmd : Nat), .slice aV nV cV]) → w.grownBy w' v.ownBlock → K (a.put o.dst v') w') : if Region.wanted o tm = true then Oper.wp Tryz.prog o a w K Q else K (a.put o.dst undef) w := by
 rw [if_pos (by simp [Region.wanted, hgd])]
 obtain ⟨v', w', hr, hg, hgr⟩ := run_app_cmd w o.type base v ps hb q cmd aV nV cV hq hlen hbase
 unfold Oper.wp execOp
 simp only [ho, resolve, invoke, builtin, Sem.run_bind, Sem.run_pure, Result.andThen_ok, List.map_toArray, List.map_cons, List.map_nil, hs, hx, hr]
 exact h _ _ hg hgr
theorem nL_rest0 (l : List UInt8) (p z : Nat) (hz : 8 ≤ z) : leNum ((((l.drop p).take z).drop 0).take 4) = nL l p := by
 show _ = leNum ((l.drop p).take 4)
 rw [List.drop_zero, List.take_take, Nat.min_eq_left (by omega)]
theorem nL_rest4 (l : List UInt8) (p z : Nat) (hz : 8 ≤ z) : leNum ((((l.drop p).take z).drop 4).take 4) = nL l (p + 4) := by
 show _ = leNum ((l.drop (p + 4)).take 4)
 rw [List.drop_take, List.take_take, Nat.min_eq_left (by omega), List.drop_drop]
set_option maxHeartbeats 8000000 in
theorem RRead_any (l : List UInt8) (a : Option Addr) (cap : Nat) (w : World) (rd : Rd w (.slice a l.length cap) (bytesV l)) :
  Calls Tryz.prog 15 #[.slice a l.length cap] w (RReadsAll l w) := by
 have hcap : l.length ≤ cap ∧ cap ≤ maxLen ∧ (32 ≤ l.length → ∃ b off, a = some ⟨b, off, none⟩) := by
  obtain ⟨_, _, _, he, hn, h1, h2, h3⟩ := id rd
  cases he
  refine ⟨h1, h2, fun hl => ?_⟩
  obtain ⟨b, off, hb, _⟩ := h3 (by intro e; have := congrArg List.length e; rw [bytesV_length] at this; simp at this; rw [this] at hl; simp at hl)
  exact ⟨b, off, hb⟩
 unfold maxLen at hcap
 obtain ⟨hc1, hc2, hx⟩ := hcap
 have Hx := hY hx
 clear hx
 have HR := hY rd
 clear rd
 have HGET : Hid (∀ (p : Nat) (w0 : World), p + 4 ≤ l.length → Chg [] w w0 → Calls Tryz.prog 36 #[.slice a l.length cap, .int .i64 p] w0 fun e w' => e = .returned (.int .i64 (nL l p : Nat)) ∧ Chg [] w0 w') := hY (fun p W hp hW => Get_any l a cap p W (HR.out.frame hW (fun _ _ hm => by cases hm)) hp)
 go_enter Tryz.func15, Tryz.ntmps15
 go_upto_region 2 with fail
 obtain ⟨w1, hw1⟩ : ∃ x, x = (w.alloc (.cells #[.int .i64 0, .int .i64 0, .int .u32 0] 63)).alloc (.cells #[.int .i64 0, .int .i64 0, .int .u32 0] 63) := ⟨_, rfl⟩
 obtain ⟨r6, hr6⟩ : ∃ x, x = w.heap.size + 1 := ⟨_, rfl⟩
 obtain ⟨r2, hr2⟩ : ∃ x, x = w.heap.size := ⟨_, rfl⟩
 rw [← hw1, ← hr6, ← hr2]
 have B2 : Hid (w1.heap[r2]? = some (.cells #[.int .i64 0, .int .i64 0, .int .u32 0] 63 (0, 0))) := by
  refine hY ?_
  rw [hw1, hr2]
  exact ((Chg.refl [] _).alloc _).heap (heap_alloc_eq _ _) (by simp)
 have B6 : Hid (w1.heap[r6]? = some (.cells #[.int .i64 0, .int .i64 0, .int .u32 0] 63 (0, 0))) := by
  refine hY ?_
  rw [hw1, show r6 = (w.alloc (.cells #[.int .i64 0, .int .i64 0, .int .u32 0] 63)).heap.size by rw [hr6]; simp]
  exact heap_alloc_eq _ _
 have C1 : Hid (Chg [] w w1) := hY (by rw [hw1]; exact ((Chg.refl _ _).alloc _).alloc _)
 have LR : Hid (w.heap.size ≤ r2 ∧ w.heap.size ≤ r6 ∧ r2 < w1.heap.size ∧ r6 < w1.heap.size) := hY (by rw [hw1, hr2, hr6]; simp; omega)
 clear hw1 hr6 hr2
 by_cases h32 : l.length < 32
 ·have e32 : headE l = 3 := by unfold headE; rw [if_pos h32]
  have q2 := ((Chg.refl [] w1)).heap B2.out (by simp)
  have q6 := ((Chg.refl [] w1)).heap B6.out (by simp)
  have f0 := frozen_of_heap q2 0
  have f1 := frozen_of_heap q2 1
  have f2 := frozen_of_heap q2 2
  have c0 := cell_of_heap q2 0
  have c1 := cell_of_heap q2 1
  have c2 := cell_of_heap q2 2
  have d0 := cell_of_heap q6 0
  have d1 := cell_of_heap q6 1
  have d2 := cell_of_heap q6 2
  simp at c0 c1 c2 d0 d1 d2
  go_wp2
  obtain ⟨wH, hwH⟩ : ∃ x, x = ((w1.setCell ⟨r2, 0, none⟩ (.int .i64 0)).setCell ⟨r2, 1, none⟩ (.int .i64 0)).setCell ⟨r2, 2, none⟩ (.int .u32 0) := ⟨_, rfl⟩
  change bodyPost _ _ _ _ _ (((w1.setCell ⟨r2, 0, none⟩ (.int .i64 0)).setCell ⟨r2, 1, none⟩ (.int .i64 0)).setCell ⟨r2, 2, none⟩ (.int .u32 0))
  rw [← hwH]
  have qH : wH.heap[r2]? = some (.cells #[.int .i64 0, .int .i64 0, .int .u32 0] 63 (0, 0)) := by rw [hwH]; exact heap_setCell (heap_setCell (heap_setCell q2 0 _) 1 _) 2 _
  have CH : Hid (Chg [] w wH) := by
   refine hY ?_
   have lr := LR.out
   rw [hwH]
   exact (((C1.out.then ((Chg.refl [] w1))).setCell _ _ (.inr (by simp; omega))).setCell _ _ (.inr (by simp; omega))).setCell _ _ (.inr (by simp; omega))
  have g0 := cell_of_heap qH 0
  have g1 := cell_of_heap qH 1
  have g2 := cell_of_heap qH 2
  simp at g0 g1 g2
  clear qH hwH f0 f1 f2 c0 c1 c2 d0 d1 d2 q2 q6
  refine bodyPost_ret (v := .tuple #[.agg #[.int .i64 0, .int .i64 0, .int .u32 0], .slice none 0 0, .int .i64 0, .int .i64 3]) (by simp [results, Tryz.results15, go_sem, g0, g1, g2]) rfl ?_
  exact RReadsAll.no (readE_head e32 (by decide)) (by decide) CH.out
 obtain ⟨n0, hn0⟩ : ∃ n, n = nL l 0 := ⟨_, rfl⟩
 obtain ⟨n4, hn4⟩ : ∃ n, n = nL l 4 := ⟨_, rfl⟩
 obtain ⟨n8, hn8⟩ : ∃ n, n = nL l 8 := ⟨_, rfl⟩
 obtain ⟨N12, h12⟩ : ∃ n, n = nL l 12 := ⟨_, rfl⟩
 obtain ⟨N16, h16⟩ : ∃ n, n = nL l 16 := ⟨_, rfl⟩
 obtain ⟨N20, h20⟩ : ∃ n, n = nL l 20 := ⟨_, rfl⟩
 obtain ⟨N24, h24⟩ : ∃ n, n = nL l 24 := ⟨_, rfl⟩
 have l16 := nL_lt l 16
 have l20 := nL_lt l 20
 have l24 := nL_lt l 24
 rw [← h16] at l16
 rw [← h20] at l20
 rw [← h24] at l24
 obtain ⟨S, hS⟩ : ∃ n, n = hdSub l := ⟨_, rfl⟩
 have hS8 : S = n8 % 16777216 := by rw [hS, hn8]; rfl
 have HE : Hid (headE l = if n0 ≠ 4277009103 then 5 else if n4 ≠ 16777228 then 6 else if kindB S N12 = false then (if S = 0 ∨ S = 2 then 7 else 6) else if 256 < N16 then 11 else if l.length - 32 < N20 then 3 else 0) := by
  refine hY ?_
  rw [hn0, hn4, hS, h12, h16, h20]
  unfold headE
  rw [if_neg h32]
 have G0 : Hid (∀ w0 : World, Chg [] w w0 → Calls Tryz.prog 36 #[.slice a l.length cap, .int .i64 0] w0 fun e w' => e = .returned (.int .i64 (n0 : Nat)) ∧ Chg [] w0 w') := hY (fun W hW => by rw [hn0]; exact HGET.out 0 W (by omega) hW)
 have G4 : Hid (∀ w0 : World, Chg [] w w0 → Calls Tryz.prog 36 #[.slice a l.length cap, .int .i64 4] w0 fun e w' => e = .returned (.int .i64 (n4 : Nat)) ∧ Chg [] w0 w') := hY (fun W hW => by rw [hn4]; exact HGET.out 4 W (by omega) hW)
 have G8 : Hid (∀ w0 : World, Chg [] w w0 → Calls Tryz.prog 36 #[.slice a l.length cap, .int .i64 8] w0 fun e w' => e = .returned (.int .i64 (n8 : Nat)) ∧ Chg [] w0 w') := hY (fun W hW => by rw [hn8]; exact HGET.out 8 W (by omega) hW)
 have G12 : Hid (∀ w0 : World, Chg [] w w0 → Calls Tryz.prog 36 #[.slice a l.length cap, .int .i64 12] w0 fun e w' => e = .returned (.int .i64 (N12 : Nat)) ∧ Chg [] w0 w') := hY (fun W hW => by rw [h12]; exact HGET.out 12 W (by omega) hW)
 have G16 : Hid (∀ w0 : World, Chg [] w w0 → Calls Tryz.prog 36 #[.slice a l.length cap, .int .i64 16] w0 fun e w' => e = .returned (.int .i64 (N16 : Nat)) ∧ Chg [] w0 w') := hY (fun W hW => by rw [h16]; exact HGET.out 16 W (by omega) hW)
 have G20 : Hid (∀ w0 : World, Chg [] w w0 → Calls Tryz.prog 36 #[.slice a l.length cap, .int .i64 20] w0 fun e w' => e = .returned (.int .i64 (N20 : Nat)) ∧ Chg [] w0 w') := hY (fun W hW => by rw [h20]; exact HGET.out 20 W (by omega) hW)
 have G24 : Hid (∀ w0 : World, Chg [] w w0 → Calls Tryz.prog 36 #[.slice a l.length cap, .int .i64 24] w0 fun e w' => e = .returned (.int .i64 (N24 : Nat)) ∧ Chg [] w0 w') := hY (fun W hW => by rw [h24]; exact HGET.out 24 W (by omega) hW)
 have Hn0 := hY hn0
 have Hn4 := hY hn4
 have Hn8 := hY hn8
 have H12 := hY h12
 have H16 := hY h16
 have H20 := hY h20
 have H24 := hY h24
 have HS := hY hS
 have HS8 := hY hS8
 clear hn0 hn4 hn8 h12 h16 h20 h24 hS hS8
 have D1 := hY (Chg.refl [] w1)
 go_wp2_with fail
 refine ((G0).out _ (C1.out.then (D1).out)).mono ?_
 rintro e w2 ⟨rfl, hch⟩
 have D2 : Hid (Chg [] w1 w2) := hY ((D1).out.then hch)
 have HCH := hY (hch)
 clear hch
 by_cases h0 : n0 = 4277009103
 case neg =>
  have ht : ((n0 : Int) != 4277009103) = true := by simp; omega
  have eE : headE l = 5 := by rw [HE.out, if_pos h0]
  have q2 := (D2.out).heap B2.out (by simp)
  have q6 := (D2.out).heap B6.out (by simp)
  have f0 := frozen_of_heap q2 0
  have f1 := frozen_of_heap q2 1
  have f2 := frozen_of_heap q2 2
  have c0 := cell_of_heap q2 0
  have c1 := cell_of_heap q2 1
  have c2 := cell_of_heap q2 2
  have d0 := cell_of_heap q6 0
  have d1 := cell_of_heap q6 1
  have d2 := cell_of_heap q6 2
  simp at c0 c1 c2 d0 d1 d2
  go_wp2
  obtain ⟨wH, hwH⟩ : ∃ x, x = ((w2.setCell ⟨r2, 0, none⟩ (.int .i64 0)).setCell ⟨r2, 1, none⟩ (.int .i64 0)).setCell ⟨r2, 2, none⟩ (.int .u32 0) := ⟨_, rfl⟩
  change bodyPost _ _ _ _ _ (((w2.setCell ⟨r2, 0, none⟩ (.int .i64 0)).setCell ⟨r2, 1, none⟩ (.int .i64 0)).setCell ⟨r2, 2, none⟩ (.int .u32 0))
  rw [← hwH]
  have qH : wH.heap[r2]? = some (.cells #[.int .i64 0, .int .i64 0, .int .u32 0] 63 (0, 0)) := by rw [hwH]; exact heap_setCell (heap_setCell (heap_setCell q2 0 _) 1 _) 2 _
  have CH : Hid (Chg [] w wH) := by
   refine hY ?_
   have lr := LR.out
   rw [hwH]
   exact (((C1.out.then (D2.out)).setCell _ _ (.inr (by simp; omega))).setCell _ _ (.inr (by simp; omega))).setCell _ _ (.inr (by simp; omega))
  have g0 := cell_of_heap qH 0
  have g1 := cell_of_heap qH 1
  have g2 := cell_of_heap qH 2
  simp at g0 g1 g2
  clear qH hwH f0 f1 f2 c0 c1 c2 d0 d1 d2 q2 q6
  refine bodyPost_ret (v := .tuple #[.agg #[.int .i64 0, .int .i64 0, .int .u32 0], .slice none 0 0, .int .i64 0, .int .i64 5]) (by simp [results, Tryz.results15, go_sem, g0, g1, g2]) rfl ?_
  exact RReadsAll.no (readE_head eE (by decide)) (by decide) CH.out
 have ht : ((n0 : Int) != 4277009103) = false := by simp; omega
 rw [if_neg (by omega)] at HE
 replace HE := hY HE.out
 clear h0 G0
 go_wp2_with fail
 refine ((G8).out _ (C1.out.then (D2).out)).mono ?_
 rintro e w3 ⟨rfl, hch⟩
 have D3 : Hid (Chg [] w1 w3) := hY ((D2).out.then hch)
 have HCH := hY (hch)
 clear hch
 go_wp2_with fail
 refine ((G12).out _ (C1.out.then (D3).out)).mono ?_
 rintro e w4 ⟨rfl, hch⟩
 have D4 : Hid (Chg [] w1 w4) := hY ((D3).out.then hch)
 have HCH := hY (hch)
 clear hch
 go_wp2_with fail
 refine ((G24).out _ (C1.out.then (D4).out)).mono ?_
 rintro e w5 ⟨rfl, hch⟩
 have D5 : Hid (Chg [] w1 w5) := hY ((D4).out.then hch)
 have HCH := hY (hch)
 clear hch
 clear ht
 have hu : IntKind.u32.wrap (N24 : Int) = (N24 : Int) := by rw [IntKind.wrap_u32]; omega
 have hs8 : (n8 : Int) % 16777216 = (S : Int) := by have := HS8.out; omega
 go_upto_region 7 with fail
 obtain ⟨w6, hw6⟩ : ∃ x, x = w5.alloc (.cells #[.int .i64 S, .int .i64 N12, .int .u32 N24] 63) := ⟨_, rfl⟩
 obtain ⟨r7, hr7⟩ : ∃ x, x = w5.heap.size := ⟨_, rfl⟩
 have B7 : Hid (w6.heap[r7]? = some (.cells #[.int .i64 S, .int .i64 N12, .int .u32 N24] 63 (0, 0))) := hY (by rw [hw6, hr7]; exact heap_alloc_eq _ _)
 have E6 : Hid (Chg [] w5 w6) := hY (by rw [hw6]; exact (Chg.refl _ _).alloc _)
 have D6 : Hid (Chg [] w1 w6) := hY (D5.out.then E6.out)
 have L7 : Hid (w.heap.size ≤ r7 ∧ r7 < w6.heap.size) := by
  refine hY ?_
  have h1 := C1.out.size
  have h2 := D5.out.size
  rw [hw6, hr7]; simp; omega
 rw [← hw6, ← hr7]
 clear hw6 hr7 hu hs8
 go_cut [44] from 32 to 44 (fun s44 wc => s44 = .bool (!(decide (n4 = 16777228) && (decide (S = 0) || decide (S = 2)))) ∧ Chg [] w6 wc)
 case first =>
  go_wp2_with fail
  refine ((G4).out _ (C1.out.then (D6).out)).mono ?_
  rintro e w7 ⟨rfl, hch⟩
  have D7 : Hid (Chg [] w1 w7) := hY ((D6).out.then hch)
  have HCH := hY (hch)
  clear hch
  have E7 : Hid (Chg [] w6 w7) := hY (HCH.out)
  have b7 := E7.out.heap B7.out (by simp)
  have c0 := cell_of_heap b7 0
  simp at c0
  clear b7
  by_cases hc : n4 = 16777228
  case neg =>
   have ht : ((n4 : Int) != 16777228) = true := by simp; omega
   have Hc := hY hc
   clear hc
   go_wp2
   go_meet
   case rel => exact ⟨by simp [Hc.out], E7.out⟩
  have ht : ((n4 : Int) != 16777228) = false := by simp; omega
  have Hc := hY hc
  clear hc
  by_cases hz : S = 0
  ·have t1 : ((S : Int) != 0) = false := by simp; omega
   have Hz := hY hz
   clear hz
   go_wp2
   go_meet
   case rel => exact ⟨by simp [Hc.out, Hz.out], E7.out⟩
  have t1 : ((S : Int) != 0) = true := by simp; omega
  by_cases hz2 : S = 2
  ·have t2 : ((S : Int) != 2) = false := by simp; omega
   have Hz := hY hz
   have Hz2 := hY hz2
   clear hz hz2
   go_wp2
   go_meet
   case rel => exact ⟨by simp [Hc.out, Hz2.out], E7.out⟩
  ·have t2 : ((S : Int) != 2) = true := by simp; omega
   have Hz := hY hz
   have Hz2 := hY hz2
   clear hz hz2
   go_wp2
   go_meet
   case rel => exact ⟨by simp [Hc.out, Hz.out, Hz2.out], E7.out⟩
 case rest =>
  obtain ⟨rfl, hch⟩ := hcut
  have E8 := hY (hch)
  have D8 : Hid (Chg [] w1 wc) := hY (D6.out.then hch)
  clear hch
  have B8 := hY (E8.out.heap B7.out (by simp))
  clear D2 D3 D4 D5 D6 G4 G8 G12 G24
  obtain ⟨tb, htb⟩ : ∃ tb, tb = (!(decide (n4 = 16777228) && (decide (S = 0) || decide (S = 2)))) := ⟨_, rfl⟩
  rw [← htb]
  cases tb with
  | true =>
   have Htb := hY htb
   clear htb
   have eE : headE l = 6 := by
    have := Htb.out
    rw [HE.out]
    by_cases hc : n4 = 16777228
    ·have hk : kindB S N12 = false := by unfold kindB; simp [hc] at this ⊢; omega
     rw [if_neg (by simp [hc]), if_pos hk, if_neg (by simp [hc] at this; omega)]
    ·rw [if_pos hc]
   have q2 := (D8.out).heap B2.out (by simp)
   have q6 := (D8.out).heap B6.out (by simp)
   have f0 := frozen_of_heap q2 0
   have f1 := frozen_of_heap q2 1
   have f2 := frozen_of_heap q2 2
   have c0 := cell_of_heap q2 0
   have c1 := cell_of_heap q2 1
   have c2 := cell_of_heap q2 2
   have d0 := cell_of_heap q6 0
   have d1 := cell_of_heap q6 1
   have d2 := cell_of_heap q6 2
   simp at c0 c1 c2 d0 d1 d2
   go_wp2
   obtain ⟨wH, hwH⟩ : ∃ x, x = ((wc.setCell ⟨r2, 0, none⟩ (.int .i64 0)).setCell ⟨r2, 1, none⟩ (.int .i64 0)).setCell ⟨r2, 2, none⟩ (.int .u32 0) := ⟨_, rfl⟩
   change bodyPost _ _ _ _ _ (((wc.setCell ⟨r2, 0, none⟩ (.int .i64 0)).setCell ⟨r2, 1, none⟩ (.int .i64 0)).setCell ⟨r2, 2, none⟩ (.int .u32 0))
   rw [← hwH]
   have qH : wH.heap[r2]? = some (.cells #[.int .i64 0, .int .i64 0, .int .u32 0] 63 (0, 0)) := by rw [hwH]; exact heap_setCell (heap_setCell (heap_setCell q2 0 _) 1 _) 2 _
   have CH : Hid (Chg [] w wH) := by
    refine hY ?_
    have lr := LR.out
    rw [hwH]
    exact (((C1.out.then (D8.out)).setCell _ _ (.inr (by simp; omega))).setCell _ _ (.inr (by simp; omega))).setCell _ _ (.inr (by simp; omega))
   have g0 := cell_of_heap qH 0
   have g1 := cell_of_heap qH 1
   have g2 := cell_of_heap qH 2
   simp at g0 g1 g2
   clear qH hwH f0 f1 f2 c0 c1 c2 d0 d1 d2 q2 q6
   refine bodyPost_ret (v := .tuple #[.agg #[.int .i64 0, .int .i64 0, .int .u32 0], .slice none 0 0, .int .i64 0, .int .i64 6]) (by simp [results, Tryz.results15, go_sem, g0, g1, g2]) rfl ?_
   exact RReadsAll.no (readE_head eE (by decide)) (by decide) CH.out
  | false =>
   have HC : Hid (n4 = 16777228 ∧ (S = 0 ∨ S = 2)) := hY (by have := htb.symm; simp at this; omega)
   clear htb
   obtain ⟨wd, rfl⟩ : ∃ x, x = wc := ⟨_, rfl⟩
   go_upto_region 9 with fail
   go_cut [53] from 46 to 53 (fun s53 wc => s53 = .bool (!(decide (N12 = 2) || decide (N12 = 6))) ∧ Chg [] wd wc)
   case first =>
    have c1 := cell_of_heap B8.out 1
    simp at c1
    by_cases hz : N12 = 2
    ·have t1 : ((N12 : Int) != 2) = false := by simp; omega
     have Hz := hY hz
     clear hz
     go_wp2
     go_meet
     case rel => exact ⟨by simp [Hz.out], Chg.refl _ _⟩
    have t1 : ((N12 : Int) != 2) = true := by simp; omega
    by_cases hz2 : N12 = 6
    ·have t2 : ((N12 : Int) != 6) = false := by simp; omega
     have Hz := hY hz
     have Hz2 := hY hz2
     clear hz hz2
     go_wp2
     go_meet
     case rel => exact ⟨by simp [Hz2.out], Chg.refl _ _⟩
    ·have t2 : ((N12 : Int) != 6) = true := by simp; omega
     have Hz := hY hz
     have Hz2 := hY hz2
     clear hz hz2
     go_wp2
     go_meet
     case rel => exact ⟨by simp [Hz.out, Hz2.out], Chg.refl _ _⟩
   case rest =>
    obtain ⟨rfl, hch⟩ := hcut
    have D9 : Hid (Chg [] w1 wc) := hY (D8.out.then hch)
    have B9 := hY (hch.heap B8.out (by simp))
    clear hch
    obtain ⟨tb, htb⟩ : ∃ tb, tb = (!(decide (N12 = 2) || decide (N12 = 6))) := ⟨_, rfl⟩
    rw [← htb]
    cases tb with
    | true =>
     have Htb := hY htb
     clear htb
     have eE : headE l = 7 := by
      have := Htb.out
      have hc := HC.out
      have hk : kindB S N12 = false := by unfold kindB; simp at this ⊢; omega
      rw [HE.out, if_neg (by simp [hc.1]), if_pos hk, if_pos hc.2]
     have q2 := (D9.out).heap B2.out (by simp)
     have q6 := (D9.out).heap B6.out (by simp)
     have f0 := frozen_of_heap q2 0
     have f1 := frozen_of_heap q2 1
     have f2 := frozen_of_heap q2 2
     have c0 := cell_of_heap q2 0
     have c1 := cell_of_heap q2 1
     have c2 := cell_of_heap q2 2
     have d0 := cell_of_heap q6 0
     have d1 := cell_of_heap q6 1
     have d2 := cell_of_heap q6 2
     simp at c0 c1 c2 d0 d1 d2
     go_wp2
     obtain ⟨wH, hwH⟩ : ∃ x, x = ((wc.setCell ⟨r2, 0, none⟩ (.int .i64 0)).setCell ⟨r2, 1, none⟩ (.int .i64 0)).setCell ⟨r2, 2, none⟩ (.int .u32 0) := ⟨_, rfl⟩
     change bodyPost _ _ _ _ _ (((wc.setCell ⟨r2, 0, none⟩ (.int .i64 0)).setCell ⟨r2, 1, none⟩ (.int .i64 0)).setCell ⟨r2, 2, none⟩ (.int .u32 0))
     rw [← hwH]
     have qH : wH.heap[r2]? = some (.cells #[.int .i64 0, .int .i64 0, .int .u32 0] 63 (0, 0)) := by rw [hwH]; exact heap_setCell (heap_setCell (heap_setCell q2 0 _) 1 _) 2 _
     have CH : Hid (Chg [] w wH) := by
      refine hY ?_
      have lr := LR.out
      rw [hwH]
      exact (((C1.out.then (D9.out)).setCell _ _ (.inr (by simp; omega))).setCell _ _ (.inr (by simp; omega))).setCell _ _ (.inr (by simp; omega))
     have g0 := cell_of_heap qH 0
     have g1 := cell_of_heap qH 1
     have g2 := cell_of_heap qH 2
     simp at g0 g1 g2
     clear qH hwH f0 f1 f2 c0 c1 c2 d0 d1 d2 q2 q6
     refine bodyPost_ret (v := .tuple #[.agg #[.int .i64 0, .int .i64 0, .int .u32 0], .slice none 0 0, .int .i64 0, .int .i64 7]) (by simp [results, Tryz.results15, go_sem, g0, g1, g2]) rfl ?_
     exact RReadsAll.no (readE_head eE (by decide)) (by decide) CH.out
    | false =>
     have hk : kindB S N12 = true := by have := HC.out; unfold kindB; simp at htb ⊢; omega
     have HE2 : Hid (headE l = if 256 < N16 then 11 else if l.length - 32 < N20 then 3 else 0) := hY (by rw [HE.out, if_neg (by simp [HC.out.1]), if_neg (by simp [hk])])
     clear htb hk HE HC
     obtain ⟨we, rfl⟩ : ∃ x, x = wc := ⟨_, rfl⟩
     go_wp2_with fail
     refine ((G16).out _ (C1.out.then (D9).out)).mono ?_
     rintro e wf ⟨rfl, hch⟩
     have DF : Hid (Chg [] w1 wf) := hY ((D9).out.then hch)
     have HCH := hY (hch)
     clear hch
     have HCH0 := hY (HCH.out)
     go_wp2_with fail
     refine ((G20).out _ (C1.out.then (DF).out)).mono ?_
     rintro e wg ⟨rfl, hch⟩
     have DG : Hid (Chg [] w1 wg) := hY ((DF).out.then hch)
     have HCH := hY (hch)
     clear hch
     have BG := hY ((HCH.out).heap ((HCH0.out).heap B9.out (by simp)) (by simp))
     by_cases h256 : 256 < N16
     ·have eE : headE l = 11 := by rw [HE2.out, if_pos h256]
      have q2 := (DG.out).heap B2.out (by simp)
      have q6 := (DG.out).heap B6.out (by simp)
      have f0 := frozen_of_heap q2 0
      have f1 := frozen_of_heap q2 1
      have f2 := frozen_of_heap q2 2
      have c0 := cell_of_heap q2 0
      have c1 := cell_of_heap q2 1
      have c2 := cell_of_heap q2 2
      have d0 := cell_of_heap q6 0
      have d1 := cell_of_heap q6 1
      have d2 := cell_of_heap q6 2
      simp at c0 c1 c2 d0 d1 d2
      go_wp2
      obtain ⟨wH, hwH⟩ : ∃ x, x = ((wg.setCell ⟨r2, 0, none⟩ (.int .i64 0)).setCell ⟨r2, 1, none⟩ (.int .i64 0)).setCell ⟨r2, 2, none⟩ (.int .u32 0) := ⟨_, rfl⟩
      change bodyPost _ _ _ _ _ (((wg.setCell ⟨r2, 0, none⟩ (.int .i64 0)).setCell ⟨r2, 1, none⟩ (.int .i64 0)).setCell ⟨r2, 2, none⟩ (.int .u32 0))
      rw [← hwH]
      have qH : wH.heap[r2]? = some (.cells #[.int .i64 0, .int .i64 0, .int .u32 0] 63 (0, 0)) := by rw [hwH]; exact heap_setCell (heap_setCell (heap_setCell q2 0 _) 1 _) 2 _
      have CH : Hid (Chg [] w wH) := by
       refine hY ?_
       have lr := LR.out
       rw [hwH]
       exact (((C1.out.then (DG.out)).setCell _ _ (.inr (by simp; omega))).setCell _ _ (.inr (by simp; omega))).setCell _ _ (.inr (by simp; omega))
      have g0 := cell_of_heap qH 0
      have g1 := cell_of_heap qH 1
      have g2 := cell_of_heap qH 2
      simp at g0 g1 g2
      clear qH hwH f0 f1 f2 c0 c1 c2 d0 d1 d2 q2 q6
      refine bodyPost_ret (v := .tuple #[.agg #[.int .i64 0, .int .i64 0, .int .u32 0], .slice none 0 0, .int .i64 0, .int .i64 11]) (by simp [results, Tryz.results15, go_sem, g0, g1, g2]) rfl ?_
      exact RReadsAll.no (readE_head eE (by decide)) (by decide) CH.out
     rw [if_neg h256] at HE2
     by_cases hlen : l.length - 32 < N20
     ·have eE : headE l = 3 := by rw [HE2.out, if_pos hlen]
      have q2 := (DG.out).heap B2.out (by simp)
      have q6 := (DG.out).heap B6.out (by simp)
      have f0 := frozen_of_heap q2 0
      have f1 := frozen_of_heap q2 1
      have f2 := frozen_of_heap q2 2
      have c0 := cell_of_heap q2 0
      have c1 := cell_of_heap q2 1
      have c2 := cell_of_heap q2 2
      have d0 := cell_of_heap q6 0
      have d1 := cell_of_heap q6 1
      have d2 := cell_of_heap q6 2
      simp at c0 c1 c2 d0 d1 d2
      go_wp2
      obtain ⟨wH, hwH⟩ : ∃ x, x = ((wg.setCell ⟨r2, 0, none⟩ (.int .i64 0)).setCell ⟨r2, 1, none⟩ (.int .i64 0)).setCell ⟨r2, 2, none⟩ (.int .u32 0) := ⟨_, rfl⟩
      change bodyPost _ _ _ _ _ (((wg.setCell ⟨r2, 0, none⟩ (.int .i64 0)).setCell ⟨r2, 1, none⟩ (.int .i64 0)).setCell ⟨r2, 2, none⟩ (.int .u32 0))
      rw [← hwH]
      have qH : wH.heap[r2]? = some (.cells #[.int .i64 0, .int .i64 0, .int .u32 0] 63 (0, 0)) := by rw [hwH]; exact heap_setCell (heap_setCell (heap_setCell q2 0 _) 1 _) 2 _
      have CH : Hid (Chg [] w wH) := by
       refine hY ?_
       have lr := LR.out
       rw [hwH]
       exact (((C1.out.then (DG.out)).setCell _ _ (.inr (by simp; omega))).setCell _ _ (.inr (by simp; omega))).setCell _ _ (.inr (by simp; omega))
      have g0 := cell_of_heap qH 0
      have g1 := cell_of_heap qH 1
      have g2 := cell_of_heap qH 2
      simp at g0 g1 g2
      clear qH hwH f0 f1 f2 c0 c1 c2 d0 d1 d2 q2 q6
      refine bodyPost_ret (v := .tuple #[.agg #[.int .i64 0, .int .i64 0, .int .u32 0], .slice none 0 0, .int .i64 0, .int .i64 3]) (by simp [results, Tryz.results15, go_sem, g0, g1, g2]) rfl ?_
      exact RReadsAll.no (readE_head eE (by decide)) (by decide) CH.out
     rw [if_neg hlen] at HE2
     obtain ⟨b, off, rfl⟩ := Hx.out (by omega)
     clear G16 G20 HCH HCH0 D8 D9 DF Hx HGET B8 B9
     have hz32 : 32 + N20 ≤ l.length := by omega
     have hE7 : ∀ k, k < N16 → allC l N20 (k + 1) = false → readE l = 7 := by
      intro k hk hno
      unfold readE
      rw [if_pos HE2.out, ← H20.out, ← H16.out]
      cases hb : allC l N20 N16 with
      | false => rfl
      | true => rw [allC_mono hb (show k + 1 ≤ N16 by omega)] at hno; cases hno
     have HE7 := hY (hE7)
     have HE0 : Hid (allC l N20 N16 = true → readE l = 0) := by
      refine hY ?_
      intro h
      unfold readE
      rw [if_pos HE2.out, ← H20.out, ← H16.out, h]
      rfl
     clear hE7 HE2 Hn0 Hn4 Hn8 HS8
     go_upto_region 17 with fail
     go_cut [11] from 68 to 71 (fun s11 wc => wg = wc ∧ ∃ A c, s11 = .slice (some A) N20 c ∧ N20 ≤ c ∧ c ≤ cap ∧ Rd w s11 (bytesV ((l.drop 32).take N20)))
     case first =>
      by_cases hcap : cap = 32
      ·subst hcap
       have hN : N20 = 0 := by omega
       subst hN
       go_wp2
       go_meet
       case rel => exact ⟨rfl, _, _, rfl, by omega, by omega, ⟨_, _, _, rfl, rfl, by omega, by omega, fun h => absurd rfl h⟩⟩
      ·have hcap' : ¬ (32 : Int) = cap := by omega
       go_wp2
       go_meet
       case rel =>
        rw [show 32 + N20 - 32 = N20 by omega]
        exact ⟨rfl, _, cap - 32, rfl, by omega, by omega, Rd_cut HR.out 32 N20 _ hz32 (by omega) (by unfold maxLen; omega)⟩
     case rest =>
      obtain ⟨rfl, A0, c0, rfl, hn0, hc0, hr0⟩ := hcut
      have Hn0 := hY hn0
      have Hc0 := hY hc0
      have Hr0 := hY hr0
      clear hn0 hc0 hr0
      go_wp2_with fail
      go_loopw [10, 11, 12] (fun s10 s11 s12 wr => ∃ (k : Nat) (ps : List (Cmd × Value)) (A : Addr) (c : Nat), k ≤ N16 ∧ s12 = .int .i64 (k : Int) ∧ allC l N20 k = true ∧ s11 = .slice (some A) (stC l N20 k).2 c ∧ (stC l N20 k).2 ≤ c ∧ c ≤ cap ∧ Rd w s11 (bytesV ((l.drop (stC l N20 k).1).take (stC l N20 k).2)) ∧
       wr.ownsRow wg.heap.size 104 2 s10 ps.length (cmdV ps) ∧ (∀ p ∈ ps, ∃ a c, p.2 = .slice a p.1.2.length c ∧ Rd w p.2 (bytesV p.1.2)) ∧ ps.map Prod.fst = cmdsC l N20 k ∧ Chg [] wg wr) (fun _ _ s12 _ => N16 - (intOf s12).toNat)
      case atStart => exact ⟨0, [], A0, c0, Nat.zero_le _, rfl, rfl, rfl, Hn0.out, Hc0.out, Hr0.out, (OutC.nil _ _).own, fun p hp => (by cases hp), rfl, Chg.refl _ _⟩
      case round =>
       obtain ⟨k, ps, A, c, hk, rfl, hall, rfl, hzc, hcc, hrd, hown, heach, hmap, hch⟩ := hrel
       obtain ⟨p, hp⟩ : ∃ p, p = (stC l N20 k).1 := ⟨_, rfl⟩
       obtain ⟨z, hz⟩ : ∃ z, z = (stC l N20 k).2 := ⟨_, rfl⟩
       have hsum := stC_sum l N20 k hall
       rw [← hp, ← hz] at hsum hrd
       rw [← hz] at hzc
       rw [← hz]
       have DW : Hid (Chg [] w1 wr) := hY (DG.out.then hch)
       have hps : ps.length = k := by have := congrArg List.length hmap; rw [List.length_map, cmdsC_len] at this; exact this
       have Hall := hY hall
       have Hrd := hY hrd
       have Hown := hY hown
       have Heach := hY heach
       have Hmap := hY hmap
       have Hch := hY hch
       have Hp := hY hp
       have Hz := hY hz
       have Hps := hY hps
       clear hall hrd hown heach hmap hch hp hz hps
       by_cases hlt : k < N16
       ·by_cases h8 : z < 8
        ·have eE : readE l = 7 := HE7.out k hlt (by
          rw [allC_succ, Bool.and_eq_false_iff]
          refine .inr ?_
          cases hb : okC l N20 k with
          | false => rfl
          | true => have := ((okC_eq l N20 k).1 hb).1; rw [← Hz.out] at this; omega)
         have EE := hY eE
         clear eE
         have q2 := (DW.out).heap B2.out (by simp)
         have q6 := (DW.out).heap B6.out (by simp)
         have f0 := frozen_of_heap q2 0
         have f1 := frozen_of_heap q2 1
         have f2 := frozen_of_heap q2 2
         have c0 := cell_of_heap q2 0
         have c1 := cell_of_heap q2 1
         have c2 := cell_of_heap q2 2
         have d0 := cell_of_heap q6 0
         have d1 := cell_of_heap q6 1
         have d2 := cell_of_heap q6 2
         simp at c0 c1 c2 d0 d1 d2
         go_wp2
         obtain ⟨wH, hwH⟩ : ∃ x, x = ((wr.setCell ⟨r2, 0, none⟩ (.int .i64 0)).setCell ⟨r2, 1, none⟩ (.int .i64 0)).setCell ⟨r2, 2, none⟩ (.int .u32 0) := ⟨_, rfl⟩
         change bodyPost _ _ _ _ _ (((wr.setCell ⟨r2, 0, none⟩ (.int .i64 0)).setCell ⟨r2, 1, none⟩ (.int .i64 0)).setCell ⟨r2, 2, none⟩ (.int .u32 0))
         rw [← hwH]
         have qH : wH.heap[r2]? = some (.cells #[.int .i64 0, .int .i64 0, .int .u32 0] 63 (0, 0)) := by rw [hwH]; exact heap_setCell (heap_setCell (heap_setCell q2 0 _) 1 _) 2 _
         have CH : Hid (Chg [] w wH) := by
          refine hY ?_
          have lr := LR.out
          rw [hwH]
          exact (((C1.out.then (DW.out)).setCell _ _ (.inr (by simp; omega))).setCell _ _ (.inr (by simp; omega))).setCell _ _ (.inr (by simp; omega))
         have g0 := cell_of_heap qH 0
         have g1 := cell_of_heap qH 1
         have g2 := cell_of_heap qH 2
         simp at g0 g1 g2
         clear qH hwH f0 f1 f2 c0 c1 c2 d0 d1 d2 q2 q6
         refine bodyPost_ret (v := .tuple #[.agg #[.int .i64 0, .int .i64 0, .int .u32 0], .slice none 0 0, .int .i64 0, .int .i64 7]) (by simp [results, Tryz.results15, go_sem, g0, g1, g2]) rfl ?_
         exact RReadsAll.no (EE.out) (by decide) CH.out
        obtain ⟨n1, hn1⟩ : ∃ n, n = nL l p := ⟨_, rfl⟩
        obtain ⟨n2, hn2⟩ : ∃ n, n = nL l (p + 4) := ⟨_, rfl⟩
        have hn1l := nL_lt l p
        have hn2l := nL_lt l (p + 4)
        rw [← hn1] at hn1l
        rw [← hn2] at hn2l
        have hL : ((l.drop p).take z).length = z := by rw [List.length_take, List.length_drop]; omega
        obtain ⟨bA, oA, rfl⟩ : ∃ b o, A = ⟨b, o, none⟩ := by
         obtain ⟨_, _, _, he, hn, h1, h2, h3⟩ := Hrd.out
         cases he
         obtain ⟨x, y, h4, _⟩ := h3 (by intro e; have := congrArg List.length e; rw [bytesV_length, hL] at this; simp at this; omega)
         cases h4
         exact ⟨x, y, rfl⟩
        have GR0 : Hid (∀ w0 : World, Chg [] w w0 → Calls Tryz.prog 36 #[.slice (some ⟨bA, oA, none⟩) z c, .int .i64 0] w0 fun e w' => e = .returned (.int .i64 (n1 : Nat)) ∧ Chg [] w0 w') := by
         refine hY ?_
         intro W hW
         have hr := Hrd.out.frame hW (fun _ _ hm => by cases hm)
         have := Get_any ((l.drop p).take z) (some ⟨bA, oA, none⟩) c 0 W (by rw [hL]; exact hr) (by omega)
         rw [hL, nL_rest0 l p z (by omega), ← hn1] at this
         exact this
        have GR4 : Hid (∀ w0 : World, Chg [] w w0 → Calls Tryz.prog 36 #[.slice (some ⟨bA, oA, none⟩) z c, .int .i64 4] w0 fun e w' => e = .returned (.int .i64 (n2 : Nat)) ∧ Chg [] w0 w') := by
         refine hY ?_
         intro W hW
         have hr := Hrd.out.frame hW (fun _ _ hm => by cases hm)
         have := Get_any ((l.drop p).take z) (some ⟨bA, oA, none⟩) c 4 W (by rw [hL]; exact hr) (by omega)
         rw [hL, nL_rest4 l p z (by omega), ← hn2] at this
         exact this
        have HL := hY hL
        have Hn1 := hY hn1
        have Hn2 := hY hn2
        clear hL hn1 hn2
        replace hsum := hY hsum
        go_wp2_with fail
        refine ((GR4).out _ (C1.out.then (DW).out)).mono ?_
        rintro e wh ⟨rfl, hch⟩
        have DH : Hid (Chg [] w1 wh) := hY ((DW).out.then hch)
        have HCH := hY (hch)
        clear hch
        have EWH : Hid (Chg [] wr wh) := hY (HCH.out)
        have HSZ : Hid (szC l N20 k = n2) := hY (by unfold szC; rw [← Hp.out, Hn2.out])
        by_cases ha : n2 < 8
        ·have eE : readE l = 7 := HE7.out k hlt (by
          rw [allC_succ, Bool.and_eq_false_iff]
          refine .inr ?_
          cases hb : okC l N20 k with
          | false => rfl
          | true => have := ((okC_eq l N20 k).1 hb).2.1; rw [HSZ.out] at this; omega)
         have EE := hY eE
         clear eE
         have q2 := (DH.out).heap B2.out (by simp)
         have q6 := (DH.out).heap B6.out (by simp)
         have f0 := frozen_of_heap q2 0
         have f1 := frozen_of_heap q2 1
         have f2 := frozen_of_heap q2 2
         have c0 := cell_of_heap q2 0
         have c1 := cell_of_heap q2 1
         have c2 := cell_of_heap q2 2
         have d0 := cell_of_heap q6 0
         have d1 := cell_of_heap q6 1
         have d2 := cell_of_heap q6 2
         simp at c0 c1 c2 d0 d1 d2
         go_wp2
         obtain ⟨wH, hwH⟩ : ∃ x, x = ((wh.setCell ⟨r2, 0, none⟩ (.int .i64 0)).setCell ⟨r2, 1, none⟩ (.int .i64 0)).setCell ⟨r2, 2, none⟩ (.int .u32 0) := ⟨_, rfl⟩
         change bodyPost _ _ _ _ _ (((wh.setCell ⟨r2, 0, none⟩ (.int .i64 0)).setCell ⟨r2, 1, none⟩ (.int .i64 0)).setCell ⟨r2, 2, none⟩ (.int .u32 0))
         rw [← hwH]
         have qH : wH.heap[r2]? = some (.cells #[.int .i64 0, .int .i64 0, .int .u32 0] 63 (0, 0)) := by rw [hwH]; exact heap_setCell (heap_setCell (heap_setCell q2 0 _) 1 _) 2 _
         have CH : Hid (Chg [] w wH) := by
          refine hY ?_
          have lr := LR.out
          rw [hwH]
          exact (((C1.out.then (DH.out)).setCell _ _ (.inr (by simp; omega))).setCell _ _ (.inr (by simp; omega))).setCell _ _ (.inr (by simp; omega))
         have g0 := cell_of_heap qH 0
         have g1 := cell_of_heap qH 1
         have g2 := cell_of_heap qH 2
         simp at g0 g1 g2
         clear qH hwH f0 f1 f2 c0 c1 c2 d0 d1 d2 q2 q6
         refine bodyPost_ret (v := .tuple #[.agg #[.int .i64 0, .int .i64 0, .int .u32 0], .slice none 0 0, .int .i64 0, .int .i64 7]) (by simp [results, Tryz.results15, go_sem, g0, g1, g2]) rfl ?_
         exact RReadsAll.no (EE.out) (by decide) CH.out
        by_cases hb8 : n2 % 8 = 0
        case neg =>
         have eE : readE l = 7 := HE7.out k hlt (by
          rw [allC_succ, Bool.and_eq_false_iff]
          refine .inr ?_
          cases hb : okC l N20 k with
          | false => rfl
          | true => have := ((okC_eq l N20 k).1 hb).2.2.1; rw [HSZ.out] at this; omega)
         have ht : ((n2 : Int) % 8 != 0) = true := by simp; omega
         have EE := hY eE
         have Hb8 := hY hb8
         clear eE hb8
         have q2 := (DH.out).heap B2.out (by simp)
         have q6 := (DH.out).heap B6.out (by simp)
         have f0 := frozen_of_heap q2 0
         have f1 := frozen_of_heap q2 1
         have f2 := frozen_of_heap q2 2
         have c0 := cell_of_heap q2 0
         have c1 := cell_of_heap q2 1
         have c2 := cell_of_heap q2 2
         have d0 := cell_of_heap q6 0
         have d1 := cell_of_heap q6 1
         have d2 := cell_of_heap q6 2
         simp at c0 c1 c2 d0 d1 d2
         go_wp2
         obtain ⟨wH, hwH⟩ : ∃ x, x = ((wh.setCell ⟨r2, 0, none⟩ (.int .i64 0)).setCell ⟨r2, 1, none⟩ (.int .i64 0)).setCell ⟨r2, 2, none⟩ (.int .u32 0) := ⟨_, rfl⟩
         change bodyPost _ _ _ _ _ (((wh.setCell ⟨r2, 0, none⟩ (.int .i64 0)).setCell ⟨r2, 1, none⟩ (.int .i64 0)).setCell ⟨r2, 2, none⟩ (.int .u32 0))
         rw [← hwH]
         have qH : wH.heap[r2]? = some (.cells #[.int .i64 0, .int .i64 0, .int .u32 0] 63 (0, 0)) := by rw [hwH]; exact heap_setCell (heap_setCell (heap_setCell q2 0 _) 1 _) 2 _
         have CH : Hid (Chg [] w wH) := by
          refine hY ?_
          have lr := LR.out
          rw [hwH]
          exact (((C1.out.then (DH.out)).setCell _ _ (.inr (by simp; omega))).setCell _ _ (.inr (by simp; omega))).setCell _ _ (.inr (by simp; omega))
         have g0 := cell_of_heap qH 0
         have g1 := cell_of_heap qH 1
         have g2 := cell_of_heap qH 2
         simp at g0 g1 g2
         clear qH hwH f0 f1 f2 c0 c1 c2 d0 d1 d2 q2 q6
         refine bodyPost_ret (v := .tuple #[.agg #[.int .i64 0, .int .i64 0, .int .u32 0], .slice none 0 0, .int .i64 0, .int .i64 7]) (by simp [results, Tryz.results15, go_sem, g0, g1, g2]) rfl ?_
         exact RReadsAll.no (EE.out) (by decide) CH.out
        have ht : ((n2 : Int) % 8 != 0) = false := by simp; omega
        by_cases hcz : z < n2
        ·have eE : readE l = 7 := HE7.out k hlt (by
          rw [allC_succ, Bool.and_eq_false_iff]
          refine .inr ?_
          cases hb : okC l N20 k with
          | false => rfl
          | true => have := ((okC_eq l N20 k).1 hb).2.2.2; rw [HSZ.out, ← Hz.out] at this; omega)
         have EE := hY eE
         have Hb8 := hY hb8
         clear eE hb8
         have q2 := (DH.out).heap B2.out (by simp)
         have q6 := (DH.out).heap B6.out (by simp)
         have f0 := frozen_of_heap q2 0
         have f1 := frozen_of_heap q2 1
         have f2 := frozen_of_heap q2 2
         have c0 := cell_of_heap q2 0
         have c1 := cell_of_heap q2 1
         have c2 := cell_of_heap q2 2
         have d0 := cell_of_heap q6 0
         have d1 := cell_of_heap q6 1
         have d2 := cell_of_heap q6 2
         simp at c0 c1 c2 d0 d1 d2
         go_wp2
         obtain ⟨wH, hwH⟩ : ∃ x, x = ((wh.setCell ⟨r2, 0, none⟩ (.int .i64 0)).setCell ⟨r2, 1, none⟩ (.int .i64 0)).setCell ⟨r2, 2, none⟩ (.int .u32 0) := ⟨_, rfl⟩
         change bodyPost _ _ _ _ _ (((wh.setCell ⟨r2, 0, none⟩ (.int .i64 0)).setCell ⟨r2, 1, none⟩ (.int .i64 0)).setCell ⟨r2, 2, none⟩ (.int .u32 0))
         rw [← hwH]
         have qH : wH.heap[r2]? = some (.cells #[.int .i64 0, .int .i64 0, .int .u32 0] 63 (0, 0)) := by rw [hwH]; exact heap_setCell (heap_setCell (heap_setCell q2 0 _) 1 _) 2 _
         have CH : Hid (Chg [] w wH) := by
          refine hY ?_
          have lr := LR.out
          rw [hwH]
          exact (((C1.out.then (DH.out)).setCell _ _ (.inr (by simp; omega))).setCell _ _ (.inr (by simp; omega))).setCell _ _ (.inr (by simp; omega))
         have g0 := cell_of_heap qH 0
         have g1 := cell_of_heap qH 1
         have g2 := cell_of_heap qH 2
         simp at g0 g1 g2
         clear qH hwH f0 f1 f2 c0 c1 c2 d0 d1 d2 q2 q6
         refine bodyPost_ret (v := .tuple #[.agg #[.int .i64 0, .int .i64 0, .int .u32 0], .slice none 0 0, .int .i64 0, .int .i64 7]) (by simp [results, Tryz.results15, go_sem, g0, g1, g2]) rfl ?_
         exact RReadsAll.no (EE.out) (by decide) CH.out
        have HOK : Hid (allC l N20 (k + 1) = true) := by
         refine hY ?_
         rw [allC_succ, Hall.out, Bool.true_and, okC_eq, HSZ.out, ← Hz.out]
         exact ⟨by omega, by omega, hb8, by omega⟩
        have HST : Hid (stC l N20 (k + 1) = (p + n2, z - n2)) := by
         refine hY ?_
         show ((stC l N20 k).1 + nL l ((stC l N20 k).1 + 4), (stC l N20 k).2 - nL l ((stC l N20 k).1 + 4)) = _
         rw [← Hp.out, ← Hz.out, ← Hn2.out]
        have Hb8 := hY hb8
        clear hb8
        have hu : IntKind.u32.wrap (n1 : Int) = (n1 : Int) := by rw [IntKind.wrap_u32]; omega
        have HDL : Hid ((((l.drop p).take n2).length = n2)) := hY (by have := hsum.out; rw [List.length_take, List.length_drop]; omega)
        have HRP : Hid (Rd w (.slice (some ⟨bA, oA, none⟩) n2 c) (bytesV ((l.drop p).take n2))) := by
         refine hY ?_
         have hL : ((l.drop p).take z).length = z := by have := hsum.out; rw [List.length_take, List.length_drop]; omega
         have := Rd_cut Hrd.out 0 n2 c (by rw [hL]; omega) (by omega) (by unfold maxLen; omega)
         rw [List.drop_zero, List.take_take, Nat.min_eq_left (by omega), Nat.add_zero] at this
         exact this
        have HRQ : Hid (∀ c', z - n2 ≤ c' → c' ≤ cap → Rd w (.slice (some ⟨bA, oA + n2, none⟩) (z - n2) c') (bytesV ((l.drop (p + n2)).take (z - n2)))) := by
         refine hY ?_
         intro c' h1 h2
         have hL : ((l.drop p).take z).length = z := by have := hsum.out; rw [List.length_take, List.length_drop]; omega
         have := Rd_cut Hrd.out n2 (z - n2) c' (by rw [hL]; omega) h1 (by unfold maxLen; omega)
         rw [List.drop_take, List.take_take, Nat.min_self, List.drop_drop] at this
         exact this
        go_upto_region 26 with fail
        have HBW : Hid (wg.heap.size ≤ wh.heap.size) := hY (Nat.le_trans Hch.out.size EWH.out.size)
        have HOW : Hid (wh.ownsRow wg.heap.size 104 2 u10 ps.length (cmdV ps)) := hY (owned_frame Hown.out EWH.out (fun _ _ hm => by cases hm))
        obtain ⟨SS, hSS⟩ : ∃ SS, SS = u10.ownBlock.toList := ⟨_, rfl⟩
        have HSS := hY (hSS)
        have HSB : Hid (∀ i ∈ SS, wg.heap.size ≤ i) := by
         refine hY ?_
         intro i hi
         rw [hSS] at hi
         exact (World.ownsRow.lt HOW.out i (by simpa using hi)).1
        clear hSS
        refine wp_region_noPanic ?_
        refine wp_region_held_drew (S := fun w' => Chg SS wh w') (by kernel_rfl) ((Chg.refl _ _).drew) (fun hHeld => ?_)
        refine take_read (i := 0) (v := ?_) (by simp only [gA, gZ]; rfl) (by kernel_rfl) (by kernel_rfl) (by kernel_rfl) (fun _ _ _ h => h) hHeld ?_ ?_
        rotate_left
        ·intro w hSw
         go_simp
         try with_reducible rfl
        try simp only [Act.put, aS, aZ, aC]
        refine take_read (i := 1) (v := ?_) (by simp only [gA, gC, gZ]; rfl) (by kernel_rfl) (by kernel_rfl) (by kernel_rfl) (fun _ _ _ h => h) hHeld ?_ ?_
        rotate_left
        ·intro w hSw
         skip
         go_simp
         try with_reducible rfl
        try simp only [Act.put, aS, aZ, aC]
        refine take_read (i := 4) (v := ?_) (by simp only [gA, gC, gZ]; rfl) (by kernel_rfl) (by kernel_rfl) (by kernel_rfl) (fun _ _ _ h => h) hHeld ?_ ?_
        rotate_left
        ·intro w hSw
         skip
         go_simp
         try with_reducible rfl
        try simp only [Act.put, aS, aZ, aC]
        refine take_read (i := 5) (v := ?_) (by simp only [gA, gC, gZ]; rfl) (by kernel_rfl) (by kernel_rfl) (by kernel_rfl) (fun _ _ _ h => h) hHeld ?_ ?_
        rotate_left
        ·intro w hSw
         skip
         go_simp
         try with_reducible rfl
        try simp only [Act.put, aS, aZ, aC]
        have hnc : n2 ≤ c := by omega
        refine take_read (i := 6) (v := ?_) (by simp only [gA, gC, gZ]; rfl) (by kernel_rfl) (by kernel_rfl) (by kernel_rfl) (fun _ _ _ h => h) hHeld ?_ ?_
        rotate_left
        ·intro w hSw
         skip
         go_simp
         try with_reducible rfl
        try simp only [Act.put, aS, aZ, aC]
        refine wpAnyH_ready (rs := [2]) (by kernel_rfl) (by simp) ?_
        refine AllReadyH.cons rfl (fun K hK => ?_) AllReadyH.nil
        go_simp
        refine (GR0.out _ (C1.out.then (DH.out.drew))).mono ?_
        rintro e wi ⟨rfl, hch⟩
        have DI : Hid (Chg [] wh wi) := hY (((Chg.refl [] _).drew).then hch)
        clear hch
        have DIS : Hid (Chg SS wh wi) := hY (DI.out.add)
        refine hK.out _ _ DIS.out (fun _ => ?_)
        clear hK hHeld K
        have hHeld := DIS.out
        try (unfold Act.put; simp only [aS, aZ, aC])
        refine take_read (i := 3) (v := ?_) (by simp only [gA, gC, gZ]; rfl) (by kernel_rfl) (by kernel_rfl) (by kernel_rfl) (fun _ _ _ h => h) hHeld ?_ ?_
        rotate_left
        ·intro w hSw
         skip
         go_simp
         try with_reducible rfl
        try simp only [Act.put, aS, aZ, aC]
        refine take_read (i := 7) (v := ?_) (by simp only [gA, gC, gZ]; rfl) (by kernel_rfl) (by kernel_rfl) (by kernel_rfl) (fun _ _ _ h => h) hHeld ?_ ?_
        rotate_left
        ·intro w hSw
         skip
         go_simp
         try with_reducible rfl
        try simp only [Act.put, aS, aZ, aC]
        refine wpAnyH_ready (rs := [8]) (by kernel_rfl) (by simp) ?_
        refine AllReadyH.cons rfl (fun K hK => ?_) AllReadyH.nil
        go_simp
        obtain ⟨wj, hwj⟩ : ∃ x, x = wi.alloc (.cells #[.int .u32 n1, .slice (some ⟨bA, oA, none⟩) n2 c] 104) := ⟨_, rfl⟩
        obtain ⟨q, hq⟩ : ∃ x, x = wi.heap.size := ⟨_, rfl⟩
        have BQ : Hid (wj.heap[q]? = some (.cells #[.int .u32 n1, .slice (some ⟨bA, oA, none⟩) n2 c] 104 (0, 0))) := hY (by rw [hwj, hq]; exact heap_alloc_eq _ _)
        have DJ : Hid (Chg [] wh wj) := hY (by rw [hwj]; exact DI.out.alloc _)
        rw [← hwj, ← hq]
        clear hwj hq
        have DJS : Hid (Chg SS wh wj) := hY (DJ.out.add)
        refine hK.out _ _ DJS.out (fun _ => ?_)
        clear hK hHeld K
        have hHeld := DJS.out
        try (unfold Act.put; simp only [aS, aZ, aC])
        have HOJ : Hid (wj.ownsRow wg.heap.size 104 2 u10 ps.length (cmdV ps)) := hY (owned_frame HOW.out DJ.out (fun _ _ hm => by cases hm))
        refine wpAnyH_ready (rs := [9]) (by kernel_rfl) (by simp) ?_
        refine AllReadyH.cons (by simp only [gA, gC, gZ]; rfl) (fun K hK => ?_) AllReadyH.nil
        refine arm_cmd rfl _ _ rfl wg.heap.size u10 ps rfl HOJ.out q n1 (some ⟨bA, oA, none⟩) n2 c rfl BQ.out (by have := Hps.out; omega) (Nat.le_trans HBW.out DJ.out.size) (fun vk wk hok hgr => ?_)
        have DK : Hid (Chg SS wh wk) := hY (DJS.out.same (by rw [HSS.out]; exact Chg.of_grown hgr))
        have HOK2 : Hid (wk.ownsRow wg.heap.size 104 2 vk (ps.length + 1) (cmdV ps ++ [.int .u32 (n1 : Nat), .slice (some ⟨bA, oA, none⟩) n2 c])) := hY (hok)
        clear hok hgr
        refine hK.out _ _ DK.out (fun _ => ?_)
        clear hK hHeld K
        have hHeld := DK.out
        try (unfold Act.put; simp only [aS, aZ, aC])
        refine take_read (i := 10) (v := ?_) (by simp only [gA, gC, gZ]; rfl) (by kernel_rfl) (by kernel_rfl) (by kernel_rfl) (fun _ _ _ h => h) hHeld ?_ ?_
        rotate_left
        ·intro w hSw
         skip
         go_simp
         try with_reducible rfl
        try simp only [Act.put, aS, aZ, aC]
        refine wpAnyH_done (by kernel_rfl) ?_ _
        refine NoPanic.normal ?_
        clear hHeld
        have DWK : Hid (Chg [] wg wk) := hY ((Hch.out.then EWH.out).trans DK.out (fun i hi hw => by have := HSB.out i hi; omega))
        have HCM : Hid (cmdC l N20 k = (n1, (l.drop p).take n2)) := hY (by unfold cmdC; rw [HSZ.out, ← Hp.out, ← Hn1.out])
        have HMAP : Hid ((ps ++ [((n1, (l.drop p).take n2), Value.slice (some ⟨bA, oA, none⟩) n2 c)]).map Prod.fst = cmdsC l N20 (k + 1)) := hY (by rw [List.map_append, Hmap.out, cmdsC_succ, HCM.out]; rfl)
        have HEACH : Hid (∀ x ∈ ps ++ [((n1, (l.drop p).take n2), Value.slice (some ⟨bA, oA, none⟩) n2 c)], ∃ a c, x.2 = .slice a x.1.2.length c ∧ Rd w x.2 (bytesV x.1.2)) := by
         refine hY ?_
         intro x hx
         rcases List.mem_append.1 hx with h | h
         ·exact Heach.out x h
         ·rw [List.mem_singleton] at h
          subst h
          show ∃ a c', Value.slice (some ⟨bA, oA, none⟩) n2 c = .slice a ((l.drop p).take n2).length c' ∧ _
          rw [HDL.out]
          exact ⟨_, _, rfl, HRP.out⟩
        have HOWN : Hid (wk.ownsRow wg.heap.size 104 2 vk (ps ++ [((n1, (l.drop p).take n2), Value.slice (some ⟨bA, oA, none⟩) n2 c)]).length (cmdV (ps ++ [((n1, (l.drop p).take n2), Value.slice (some ⟨bA, oA, none⟩) n2 c)]))) := by
         refine hY ?_
         rw [cmdV_snoc, List.length_append]
         exact HOK2.out
        by_cases hce : n2 = c
        ·have hzn : z = n2 := by omega
         have hce' : (n2 : Int) = (c : Int) := by omega
         subst hce
         go_wp2
         go_roundw
         case rel =>
          refine ⟨k + 1, _, ⟨bA, oA, none⟩, 0, hlt, by go_num, HOK.out, (by rw [HST.out] <;> simp [hzn]), (by rw [HST.out] <;> simp [hzn]), Nat.zero_le _, ?_, HOWN.out, HEACH.out, HMAP.out, DWK.out⟩
          ·simp only [HST.out, hzn, Nat.sub_self, List.take_zero]
           exact ⟨_, _, _, rfl, rfl, by omega, by omega, fun h => absurd rfl h⟩
         case measure => simp [intOf]; omega
        ·have hce' : ¬ (n2 : Int) = (c : Int) := by omega
         go_wp2
         go_roundw
         case rel =>
          refine ⟨k + 1, _, ⟨bA, oA + n2, none⟩, c - n2, hlt, by go_num, HOK.out, (by rw [HST.out]), (by rw [HST.out]; show z - n2 ≤ c - n2; omega), (by omega), ?_, HOWN.out, HEACH.out, HMAP.out, DWK.out⟩
          rw [HST.out]
          exact HRQ.out _ (by omega) (by omega)
         case measure => simp [intOf]; omega
       ·obtain rfl : k = N16 := by omega
        have HR0 := hY (HE0.out Hall.out)
        have B7W := hY (Hch.out.heap BG.out (by simp))
        have B2W := hY (DW.out.heap B2.out (by simp))
        have q2 := B2W.out
        have q7 := B7W.out
        have f0 := frozen_of_heap q2 0
        have f1 := frozen_of_heap q2 1
        have f2 := frozen_of_heap q2 2
        have c0 := cell_of_heap q2 0
        have c1 := cell_of_heap q2 1
        have c2 := cell_of_heap q2 2
        have d0 := cell_of_heap q7 0
        have d1 := cell_of_heap q7 1
        have d2 := cell_of_heap q7 2
        simp at c0 c1 c2 d0 d1 d2
        clear q2 q7
        go_wp2
        obtain ⟨wH, hwH⟩ : ∃ x, x = ((wr.setCell ⟨r2, 0, none⟩ (.int .i64 S)).setCell ⟨r2, 1, none⟩ (.int .i64 N12)).setCell ⟨r2, 2, none⟩ (.int .u32 N24) := ⟨_, rfl⟩
        change bodyPost _ _ _ _ _ (((wr.setCell ⟨r2, 0, none⟩ (.int .i64 S)).setCell ⟨r2, 1, none⟩ (.int .i64 N12)).setCell ⟨r2, 2, none⟩ (.int .u32 N24))
        rw [← hwH]
        have qH : wH.heap[r2]? = some (.cells #[.int .i64 S, .int .i64 N12, .int .u32 N24] 63 (0, 0)) := by rw [hwH]; exact heap_setCell (heap_setCell (heap_setCell B2W.out 0 _) 1 _) 2 _
        have CR : Hid (Chg [r2] wr wH) := by
         refine hY ?_
         rw [hwH]
         exact (((Chg.refl _ _).setCell _ _ (.inl (by simp))).setCell _ _ (.inl (by simp))).setCell _ _ (.inl (by simp))
        have CH : Hid (Chg [] w wH) := hY ((C1.out.then DW.out).new CR.out LR.out.1)
        have g0 := cell_of_heap qH 0
        have g1 := cell_of_heap qH 1
        have g2 := cell_of_heap qH 2
        simp at g0 g1 g2
        clear qH hwH f0 f1 f2 c0 c1 c2 d0 d1 d2
        refine bodyPost_ret (v := .tuple #[.agg #[.int .i64 S, .int .i64 N12, .int .u32 N24], u10, .int .i64 (32 + (N20 : Int)), .int .i64 0]) (by simp [results, Tryz.results15, go_sem, g0, g1, g2]) rfl ?_
        have hE := HR0.out
        refine ⟨u10, ps, wg.heap.size, ?_, owned_frame Hown.out CR.out (fun x hx hm => ?_), fun x hx => ?_, ?_, CH.out⟩
        ·unfold rN
         simp only [if_pos hE]
         rw [hE, HS.out, H12.out, H24.out, H20.out]
         push_cast
         rfl
        ·rw [List.mem_singleton] at hm
         have h1 := (World.ownsRow.lt Hown.out x hx).1
         have h2 := DG.out.size
         have h3 := LR.out
         omega
        ·obtain ⟨a, c, h1, h2⟩ := Heach.out x hx
         exact ⟨a, c, h1, h2.frame CH.out (fun _ _ hm => by cases hm)⟩
        ·unfold readCs
         rw [if_pos hE, Hmap.out, H20.out, H16.out]
end Go.Proofs.YtiljokmkiolpgaaGreatDoor
