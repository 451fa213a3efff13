/- clevisref04.One of no bytes; append of a command, in a region that does not draw. -/
import Derived.Test.YtchkombikjcokaaDoorRRead
namespace Go.Proofs.YtchkombikjcokaaDoor
open Go.RowKit
set_option maxRecDepth 100000

theorem CPut_buf (n : Nat) (hn : n < 4294967296) (w : World) :
    Calls Tryd.prog 52 #[.int .i64 n] w fun e w' => ∃ v, e = .returned v ∧ Buf w' w.heap.size v (le4 n) ∧ Chg [] w w' := by
  have HV : Hid (bytesV (le4 n) = [.int .u8 ((n : Int) % 256), .int .u8 ((n : Int) / 256 % 256), .int .u8 ((n : Int) / 65536 % 256), .int .u8 ((n : Int) / 16777216)]) := Lib.hid (bytesV_le4 n hn)
  have HN := Lib.hid (hn)
  clear hn
  go_enter Tryd.func52, Tryd.ntmps52
  go_wp2
  go_ret
  refine ⟨_, rfl, ?_, (Chg.refl _ _).alloc _⟩
  have hn := HN.out
  have w1 : wrap64 ((n : Int) / 256) = (n : Int) / 256 := by unfold wrap64; omega
  have w2 : wrap64 ((n : Int) / 65536) = (n : Int) / 65536 := by unfold wrap64; omega
  have w3 : wrap64 ((n : Int) / 16777216) = (n : Int) / 16777216 := by unfold wrap64; omega
  have t1 : ((n : Int) / 256).tmod 256 % 256 = (n : Int) / 256 % 256 := by rw [Int.tmod_eq_emod_of_nonneg (by omega)]; omega
  have t2 : ((n : Int) / 65536).tmod 256 % 256 = (n : Int) / 65536 % 256 := by rw [Int.tmod_eq_emod_of_nonneg (by omega)]; omega
  have t3 : ((n : Int) / 16777216).tmod 256 % 256 = (n : Int) / 16777216 := by rw [Int.tmod_eq_emod_of_nonneg (by omega)]; omega
  rw [w1, w2, w3, t1, t2, t3]
  unfold Buf
  rw [HV.out]
  exact ⟨rfl, .inr ⟨w.heap.size, 4, _, rfl, Nat.le_refl _, heap_alloc_eq _ _, Nat.le_refl _, by unfold maxLen; omega, rfl, rfl⟩⟩

theorem app_cmd {ops : Array Oper} {rest : List Oper} {o : Oper} {a : Act} {Q : Exit → Act → World → Prop} {w : World} (hgd : o.guard = none) (s x : Operand)
    (ho : o.op = .call { callee := .builtin .append, args := #[s, x], argTypes := #[64, 64] }) (base : Nat) (v : Value) (ps : List (Cmd × Value)) (hs : a.eval s = v) (hown : w.ownsRow base 26 2 v ps.length (cmdV ps))
    (q cmd : Nat) (aV : Option Addr) (nV cV : Nat) (hx : a.eval x = .slice (some ⟨q, 0, none⟩) 1 1) (hq : w.heap[q]? = some (.cells #[.int .u32 (cmd : Nat), .slice aV nV cV] 26 (0, 0)))
    (hlen : ps.length ≤ 1000000) (hbase : base ≤ w.heap.size)
    (h : ∀ v' w', w'.ownsRow base 26 2 v' (ps.length + 1) (cmdV ps ++ [.int .u32 (cmd : Nat), .slice aV nV cV]) → w.grownBy w' v.ownBlock → wpList Tryd.prog ops Q rest (a.put o.dst v') w') : wpList Tryd.prog ops Q (o :: rest) a w := by
  obtain ⟨i0, hi, hz0, hz1, hz2⟩ := info_parts Tryd.infoCmd
  refine wpList_append_own _ hgd s x 64 ho base 26 i0 _ 2 32 Tryd.uCmdsF hi hz0 hz1 hz2 rfl (by decide) v ps.length (cmdV ps) hs hown ⟨q, 0, none⟩ 1 1 [.int .u32 (cmd : Nat), .slice aV nV cV] hx rfl ?_ ?_ (by unfold maxLen; omega) (by omega) hbase ?_
  · intro j u hu
    rw [Addr_add, Nat.zero_add, cell_of_heap hq]
    simpa using hu
  · intro u hu
    simp only [List.mem_cons, List.not_mem_nil, or_false] at hu
    rcases hu with rfl | rfl <;> rfl
  · intro v' w' h1 h2 _
    exact h v' w' h1 h2

set_option maxHeartbeats 2000000 in
theorem ROne_nil (cmd : Nat) (hc : cmd < 4294967296) (w : World) :
    Calls Tryd.prog 35 #[.int .u32 cmd, .slice none 0 0] w fun e w' => ∃ a c, e = .returned (.agg #[.int .u32 cmd, .slice a 8 c]) ∧ Rd w' (.slice a 8 c) (bytesV (le4 cmd ++ le4 8)) ∧ Chg [] w w' := by
  have HP := Lib.hid (fun w => CPut_buf cmd hc w)
  have HP8 : Hid (∀ w : World, Calls Tryd.prog 52 #[.int .i64 8] w fun e w' => ∃ v, e = .returned v ∧ Buf w' w.heap.size v (le4 8) ∧ Chg [] w w') := Lib.hid (fun w => CPut_buf 8 (by decide) w)
  go_enter Tryd.func35, Tryd.ntmps35
  go_wp2_with fail
  obtain ⟨w1, hw1⟩ : ∃ x, x = w.alloc (.cells #[.int .u32 0, .slice none 0 0] 26) := ⟨_, rfl⟩
  obtain ⟨r, hr⟩ : ∃ x, x = w.heap.size := ⟨_, rfl⟩
  have b1 : w1.heap[r]? = some (.cells #[.int .u32 0, .slice none 0 0] 26 (0, 0)) := by rw [hw1, hr]; exact heap_alloc_eq _ _
  have C1 : Hid (Chg [] w w1) := Lib.hid (by rw [hw1]; exact (Chg.refl _ _).alloc _)
  rw [← hw1, ← hr]
  have LR : Hid (w.heap.size ≤ r ∧ r < w1.heap.size) := Lib.hid (⟨by rw [hr]; exact Nat.le_refl _, lt_of_heap b1⟩)
  clear hw1 hr
  refine wp_loop_rounds 1 ?_
  rw [rounds_succ]
  go_wp2_with fail
  refine (HP.out w1).mono ?_
  rintro e w2 ⟨v2, rfl, hb, hch⟩
  have B2 := Lib.hid (hb)
  have D2 := Lib.hid (hch)
  clear hb hch
  obtain ⟨a2, c2, rfl⟩ := B2.out.form
  have hl2 : (le4 cmd).length = 4 := rfl
  go_wp2_with fail
  refine (HP8.out w2).mono ?_
  rintro e w3 ⟨v3, rfl, hb, hch⟩
  have B3 := Lib.hid (hb)
  have D3 : Hid (Chg [] w1 w3) := Lib.hid (D2.out.then hch)
  have B23 : Hid (Buf w3 w1.heap.size (.slice a2 (le4 cmd).length c2) (le4 cmd)) := Lib.hid (B2.out.pure hch)
  clear hb hch B2
  obtain ⟨a3, c3, rfl⟩ := B3.out.form
  have hl3 : (le4 8).length = 4 := rfl
  go_wp2_with (at_builtin; refine app_buf rfl _ _ rfl w1.heap.size (.slice a2 (le4 cmd).length c2) (le4 cmd) rfl B23.out _ rfl (le4 8) B3.out.rd (by rw [hl2, hl3]; decide) D3.out.size ?_; intro va wa hoa hga haa; refine Hid.out ?_)
  refine Lib.hid ?_
  have BA : Hid (Buf wa w1.heap.size va (le4 cmd ++ le4 8)) := Lib.hid (hoa)
  have HVA := Lib.hid (fun b hb => (World.ownsRow.lt B23.out b hb).1)
  have DA : Hid (Chg [] w1 wa) := Lib.hid (D3.out.trans (Chg.of_grown hga) (fun i hm hw => by have := HVA.out i (by simpa using hm); omega))
  clear hoa hga haa
  go_wp2_with (at_builtin; refine app_buf rfl _ _ rfl w1.heap.size va (le4 cmd ++ le4 8) rfl BA.out _ rfl [] (Buf.nil _ 0).rd (by rw [List.length_append, hl2, hl3]; decide) DA.out.size ?_; intro vb wb hoa hga haa; refine Hid.out ?_)
  refine Lib.hid ?_
  have BB : Hid (Buf wb w1.heap.size vb (le4 cmd ++ le4 8)) := Lib.hid (by rw [List.append_nil] at hoa; exact hoa)
  have HVB := Lib.hid (fun b hb => (World.ownsRow.lt BA.out b hb).1)
  have DB : Hid (Chg [] w1 wb) := Lib.hid (DA.out.trans (Chg.of_grown hga) (fun i hm hw => by have := HVB.out i (by simpa using hm); omega))
  clear hoa hga haa
  obtain ⟨aB, cB, rfl⟩ := BB.out.form
  have hl8 : (le4 cmd ++ le4 8).length = 8 := by rw [List.length_append, hl2, hl3]
  obtain ⟨L, hL⟩ : ∃ x, x = le4 cmd ++ le4 8 := ⟨_, rfl⟩
  rw [← hL] at BB hl8
  rw [← hL, hl8]
  rw [hl8] at BB
  have HL := Lib.hid hL
  clear hL
  replace b1 := DB.out.heap b1 (by simp)
  have x0 := cell_of_heap b1 0
  have x1 := cell_of_heap b1 1
  have f0 := frozen_of_heap b1 0
  have f1 := frozen_of_heap b1 1
  simp at x0 x1
  have B1 := Lib.hid b1
  clear b1
  clear hl2 hl3
  go_wp2_with fail
  refine wp_loop_rounds 1 ?_
  rw [rounds_succ]
  go_wp2
  obtain ⟨wH, hwH⟩ : ∃ x, x = (wb.setCell ⟨r, 0, none⟩ (.int .u32 cmd)).setCell ⟨r, 1, none⟩ (.slice aB 8 cB) := ⟨_, rfl⟩
  change bodyPost _ _ _ _ _ ((wb.setCell ⟨r, 0, none⟩ (.int .u32 cmd)).setCell ⟨r, 1, none⟩ (.slice aB 8 cB))
  rw [← hwH]
  have qH : wH.heap[r]? = some (.cells #[.int .u32 cmd, .slice aB 8 cB] 26 (0, 0)) := by rw [hwH]; exact heap_setCell (heap_setCell B1.out 0 _) 1 _
  have CR : Hid (Chg [r] wb wH) := by
    refine Lib.hid ?_
    rw [hwH]
    exact ((Chg.refl _ _).setCell _ _ (.inl (by simp))).setCell _ _ (.inl (by simp))
  have g0 := cell_of_heap qH 0
  have g1 := cell_of_heap qH 1
  simp at g0 g1
  clear qH hwH f0 f1 x0 x1
  refine bodyPost_ret (v := .agg #[.int .u32 cmd, .slice aB 8 cB]) (by simp [results, Tryd.results35, go_sem, g0, g1]) rfl ?_
  rw [← HL.out]
  refine ⟨aB, cB, rfl, ?_, (C1.out.then DB.out).new CR.out LR.out.1⟩
  exact (BB.out.frame CR.out (fun b hb hm => by
    have h1 := (World.ownsRow.lt BB.out b hb).1
    have h2 := LR.out.2
    rw [List.mem_singleton] at hm
    omega)).rd
end Go.Proofs.YtchkombikjcokaaDoor
