/- Lemmas, laid together: part 25 of 35. Conditions: none but each lemma's own. -/
import Derived.Test.YtlblcbgmmfjdjaaGreatDoorJ20
import Derived.Test.YtlblcbgmmfjdjaaGreatDoorJ21
import Derived.Test.YtlblcbgmmfjdjaaGreatDoorJ24
import Derived.Test.YtlblcbgmmfjdjaaGreatDoorJ6
import Derived.Test.YtlblcbgmmfjdjaaGreatDoorJ9
/- rebase: step, the opcode of a place. -/
namespace Go.Proofs.YtlblcbgmmfjdjaaGreatDoor
open Go.RowKit
set_option maxRecDepth 100000

set_option maxHeartbeats 2000000 in
theorem step_place (b bc : Nat) (r : Rdr) (imm n : Nat) (hi2 : imm < 256) (s : CS) (hc : r.c = some ⟨bc, 0, none⟩) (w : World) (hg : Env w) (hcur : CurB w bc s) (hne : bc < b) (hf : (lebS ulebR s).failed = false) (hv : lebV ulebR s = n) (hb : rdrL.Box w b r)
    (ls : List Seg) (hrd : segL.Rd w r.m.segs.v ls) (hoo : ∀ k, r.m.segs.v.ownBlock = some k → k ∉ [bc]) (A : Int) (hA : placeS ls imm n = (A, 0)) :
    Calls Tryz.prog 11 #[.pointer (some ⟨b, 0, none⟩), .int .u8 2, .int .u8 imm] w fun e w' => e = .returned (.int .i64 0) ∧ rdrL.Box w' b { r with at_ := A, is_ := true } ∧ CurB w' bc (lebS ulebR s) ∧ Chg [b, bc] w w' := by
  have HPL := Lib.hid (fun w rd => Place_any r.m ls (imm : Int) (by omega) (n : Int) w rd)
  rw [hA] at HPL
  have hwi : IntKind.u64.wrap (imm : Int) = (imm : Int) := by rw [IntKind.wrap_u64]; omega
  have HNU := Lib.hid (fun w => numbers_any 2 (by decide) w)
  have HER := Lib.hid (fun w hcur => Err_ok bc (lebS ulebR s) w hcur hf)
  have HRE := Lib.hid (fun w hb => ready_any b r 2 (by decide) w hb)
  have HUL := Lib.hid (fun w hg hcur => Uleb_cur bc s w hg hcur)
  rw [hv] at HUL
  rw [show readyOf 2 r.typ r.is_ = true from rfl] at HRE
  have Hcur := Lib.hid hcur
  have Hb := Lib.hid hb
  have Hf := Lib.hid hf
  have Hg := Lib.hid hg
  have Hv := Lib.hid hv
  have Hrd := Lib.hid hrd
  have Hoo := Lib.hid hoo
  have HA := Lib.hid hA
  clear hcur hb hf hg hv hrd hoo hA
  go_enter Tryz.func11, Tryz.ntmps11
  go_wp2_with fail
  refine (HNU.out _).mono ?_
  rintro e W1 ⟨rfl, h1⟩
  rw [show ((numsOf 2 : Nat) : Int) = 1 from rfl]
  have hA := h1.heap (heap_alloc_eq w (.cells #[.int .u64 0, .int .u64 0] 69)) (by simp)
  have hlt := Hcur.out.lt
  have hbs : b < w.heap.size := Hb.out.lt
  have C1 : Hid (Chg [] w W1) := Lib.hid (((Chg.refl [] w).alloc _).then h1)
  have HA := Lib.hid hA
  clear hA
  clear h1
  go_wp2_with fail
  go_loopw [13] (fun s13 wr => (s13 = .int .i64 0 ∧ wr = W1) ∨ (s13 = .int .i64 1 ∧ Chg [bc] w wr ∧ CurB wr bc (lebS ulebR s) ∧ wr.cell? ⟨w.heap.size, 0, none⟩ = some (.int .u64 n))) (fun s13 _ => 1 - (intOf s13).toNat)
  case atStart => exact .inl ⟨rfl, rfl⟩
  case round =>
    rcases hrel with ⟨rfl, rfl⟩ | ⟨rfl, h1, h2, h3⟩
    · have B1 := Lib.hid (Hb.out.frame C1.out)
      have x0 := Rdr.c_c B1.out
      rw [hc] at x0
      go_wp2_with fail
      refine (HUL.out _ (Hg.out.frame C1.out (by simp)) (Hcur.out.frame C1.out)).mono ?_
      rintro e W2 ⟨rfl, hc2, h2⟩
      have hA2 := h2.heap HA.out (by simp; omega)
      have a0 := cell_of_heap hA2 0
      have f0 := frozen_of_heap hA2 0
      simp at a0
      have C2 : Hid (Chg [bc] w W2) := Lib.hid (C1.out.add.same h2)
      have HC2 := Lib.hid hc2
      clear hc2
      clear h2 hA2 x0
      go_wp2
      go_roundw
      case rel =>
        refine .inr ⟨rfl, C2.out.setCell _ _ (.inr (Nat.le_refl _)), HC2.out.far2 (S := [w.heap.size]) ((Chg.refl _ _).setCell _ _ (.inl (by simp))) (by simp; omega), World.cell?_setCell_same _ _ _ a0⟩
      case measure => simp [intOf]
    · have C1a := Lib.hid h1
      have HC1 := Lib.hid h2
      have A1 := Lib.hid h3
      clear h1 h2 h3
      have BB := Lib.hid (Hb.out.frameS C1a.out (by simp; omega))
      have x0 := Rdr.c_c BB.out
      rw [hc] at x0
      go_wp2_with fail
      refine (HER.out _ HC1.out).mono ?_
      rintro e W2 ⟨rfl, h2⟩
      have C2 := Lib.hid (C1a.out.then h2)
      have HC2 := Lib.hid (HC1.out.frame h2)
      have a2 := h2.cell A1.out (by simp)
      clear h2 x0
      go_wp2_with fail
      refine (HRE.out _ (Hb.out.frameS C2.out (by simp; omega))).mono ?_
      rintro e W3 ⟨rfl, h3⟩
      have C3 := Lib.hid (C2.out.then h3)
      have HC3 := Lib.hid (HC2.out.frame h3)
      have a3 := h3.cell a2 (by simp)
      clear h3 a2
      have B3 := Lib.hid (Hb.out.frameS C3.out (by simp; omega))
      have R3 := Lib.hid (Hrd.out.frameS C3.out Hoo.out)
      go_upto_region 2 with fail
      refine wp_region_noPanic ?_
      refine wp_region_held_drew (S := fun w' => Chg [] W3 w') (by kernel_rfl) ((Chg.refl _ _).drew) (fun hHeld => ?_)
      refine take_read (i := 0) (v := ?_) (by simp only [List.getElem?_toArray, List.getElem?_cons_zero]; rfl) (by kernel_rfl) (by kernel_rfl) (by kernel_rfl) (fun _ _ _ h => h) hHeld ?_ ?_
      rotate_left
      · intro w hSw
        go_simp
        try with_reducible rfl
      try simp only [Act.put, List.setIfInBounds_toArray, List.set_cons_zero, List.set_cons_succ]
      refine take_read (i := 1) (v := ?_) (by simp only [List.getElem?_toArray, List.getElem?_cons_succ, List.getElem?_cons_zero]; rfl) (by kernel_rfl) (by kernel_rfl) (by kernel_rfl) (fun _ _ _ h => h) hHeld ?_ ?_
      rotate_left
      · intro w hSw
        go_simp
        try with_reducible rfl
      try simp only [Act.put, List.setIfInBounds_toArray, List.set_cons_zero, List.set_cons_succ]
      refine take_read (i := 2) (v := ?_) (by simp only [List.getElem?_toArray, List.getElem?_cons_succ, List.getElem?_cons_zero]; rfl) (by kernel_rfl) (by kernel_rfl) (by kernel_rfl) (fun _ _ _ h => h) hHeld ?_ ?_
      rotate_left
      · intro w hSw
        go_simp
        try with_reducible rfl
      try simp only [Act.put, List.setIfInBounds_toArray, List.set_cons_zero, List.set_cons_succ]
      refine take_read (i := 3) (v := ?_) (by simp only [List.getElem?_toArray, List.getElem?_cons_succ, List.getElem?_cons_zero]; rfl) (by kernel_rfl) (by kernel_rfl) (by kernel_rfl) (fun _ _ _ h => h) hHeld ?_ ?_
      rotate_left
      · intro w hSw
        refine Lay.read_ld Tryz.tImg ((Rdr.i_m (B3.out.frame hSw))) ?_ ?_
        exact rfl
        exact rfl
      try simp only [Act.put, List.setIfInBounds_toArray, List.set_cons_zero, List.set_cons_succ]
      refine take_read (i := 4) (v := ?_) (by simp only [List.getElem?_toArray, List.getElem?_cons_succ, List.getElem?_cons_zero]; rfl) (by kernel_rfl) (by kernel_rfl) (by kernel_rfl) (fun _ _ _ h => h) hHeld ?_ ?_
      rotate_left
      · intro w hSw
        go_simp
        try with_reducible rfl
      try simp only [Act.put, List.setIfInBounds_toArray, List.set_cons_zero, List.set_cons_succ]
      refine take_read (i := 5) (v := ?_) (by simp only [List.getElem?_toArray, List.getElem?_cons_succ, List.getElem?_cons_zero]; rfl) (by kernel_rfl) (by kernel_rfl) (by kernel_rfl) (fun _ _ _ h => h) hHeld ?_ ?_
      rotate_left
      · intro w hSw
        go_simp
        try with_reducible rfl
      try simp only [Act.put, List.setIfInBounds_toArray, List.set_cons_zero, List.set_cons_succ]
      refine take_read (i := 6) (v := ?_) (by simp only [List.getElem?_toArray, List.getElem?_cons_succ, List.getElem?_cons_zero]; rfl) (by kernel_rfl) (by kernel_rfl) (by kernel_rfl) (fun _ _ _ h => h) hHeld ?_ ?_
      rotate_left
      · intro w hSw
        go_simp
        try with_reducible rfl
      try simp only [Act.put, List.setIfInBounds_toArray, List.set_cons_zero, List.set_cons_succ]
      refine take_read (i := 7) (v := ?_) (by simp only [List.getElem?_toArray, List.getElem?_cons_succ, List.getElem?_cons_zero]; rfl) (by kernel_rfl) (by kernel_rfl) (by kernel_rfl) (fun _ _ _ h => h) hHeld ?_ ?_
      rotate_left
      · intro w hSw
        have a3 := hSw.cell a3 (by simp)
        go_simp
        try with_reducible rfl
      try simp only [Act.put, List.setIfInBounds_toArray, List.set_cons_zero, List.set_cons_succ]
      refine wpAnyH_ready (rs := [8]) (by kernel_rfl) (by simp) ?_
      refine AllReadyH.cons rfl (fun K hK => ?_) AllReadyH.nil
      go_simp
      refine (HPL.out _ (R3.out.frame hHeld)).mono ?_
      rintro e W4 ⟨rfl, hc⟩
      have A4 : Hid (Chg [] W3 W4) := Lib.hid (hHeld.then hc)
      clear hc
      refine hK.out _ _ A4.out (fun hHeld2 => ?_)
      clear hK hHeld K
      have hHeld := hHeld2
      clear hHeld2
      try (unfold Act.put; simp only [List.setIfInBounds_toArray, List.set_cons_zero, List.set_cons_succ])
      refine take_read (i := 9) (v := ?_) (by simp only [List.getElem?_toArray, List.getElem?_cons_succ, List.getElem?_cons_zero]; rfl) (by kernel_rfl) (by kernel_rfl) (by kernel_rfl) (fun _ _ _ h => h) hHeld ?_ ?_
      rotate_left
      · intro w hSw
        go_simp
        try with_reducible rfl
      try simp only [Act.put, List.setIfInBounds_toArray, List.set_cons_zero, List.set_cons_succ]
      refine take_read (i := 10) (v := ?_) (by simp only [List.getElem?_toArray, List.getElem?_cons_succ, List.getElem?_cons_zero]; rfl) (by kernel_rfl) (by kernel_rfl) (by kernel_rfl) (fun _ _ _ h => h) hHeld ?_ ?_
      rotate_left
      · intro w hSw
        go_simp
        try with_reducible rfl
      try simp only [Act.put, List.setIfInBounds_toArray, List.set_cons_zero, List.set_cons_succ]
      refine take_read (i := 11) (v := ?_) (by simp only [List.getElem?_toArray, List.getElem?_cons_succ, List.getElem?_cons_zero]; rfl) (by kernel_rfl) (by kernel_rfl) (by kernel_rfl) (fun _ _ _ h => h) hHeld ?_ ?_
      rotate_left
      · intro w hSw
        go_simp
        try with_reducible rfl
      try simp only [Act.put, List.setIfInBounds_toArray, List.set_cons_zero, List.set_cons_succ]
      refine take_read (i := 12) (v := ?_) (by simp only [List.getElem?_toArray, List.getElem?_cons_succ, List.getElem?_cons_zero]; rfl) (by kernel_rfl) (by kernel_rfl) (by kernel_rfl) (fun _ _ _ h => h) hHeld ?_ ?_
      rotate_left
      · intro w hSw
        go_simp
        try with_reducible rfl
      try simp only [Act.put, List.setIfInBounds_toArray, List.set_cons_zero, List.set_cons_succ]
      refine take_read (i := 13) (v := ?_) (by simp only [List.getElem?_toArray, List.getElem?_cons_succ, List.getElem?_cons_zero]; rfl) (by kernel_rfl) (by kernel_rfl) (by kernel_rfl) (fun _ _ _ h => h) hHeld ?_ ?_
      rotate_left
      · intro w hSw
        go_simp
        try with_reducible rfl
      try simp only [Act.put, List.setIfInBounds_toArray, List.set_cons_zero, List.set_cons_succ]
      refine wpAnyH_done (by kernel_rfl) ?_ _
      refine NoPanic.normal ?_
      have B4 := Lib.hid (B3.out.frame A4.out)
      have HC4 := Lib.hid (HC3.out.frame A4.out)
      have C4 := Lib.hid (C3.out.then A4.out)
      clear hHeld A4 B3 R3 a3
      have x26 := Rdr.c_at B4.out
      have z26 := B4.out.frozen 26
      have x27 := Rdr.c_is B4.out
      have z27 := B4.out.frozen 27
      go_wp2
      go_ret
      exact ⟨rfl, Rdr.set_is (Rdr.set_at B4.out A) true, (HC4.out.far2 (S := [b]) (((Chg.refl _ _).setCell _ _ (.inl (by simp))).setCell _ _ (.inl (by simp))) (by simp; omega)), ((C4.out.mono (by simp)).setCell _ _ (.inl (by simp))).setCell _ _ (.inl (by simp))⟩
end Go.Proofs.YtlblcbgmmfjdjaaGreatDoor
/- A record boxed, as a step of a drawn region. -/
namespace Go.Proofs.YtlblcbgmmfjdjaaGreatDoor
open Go.RowKit
namespace Lay
variable {α : Type} {L : Lay α}
theorem armBx {P : Program} {T : TypeId} {o : Oper} {a : Act} {w : World} {K : Act → World → Prop} {Q : Exit → Act → World → Prop} {tm : Nat → Option Bool} (hgd : o.guard = none) (s : Operand) (ho : o.op = .box T s) (x : α) (hs : a.eval s = .agg (L.f x).toArray)
    (h : ∀ W b, b = w.heap.size → Chg [] w W → L.Box W b x → K (a.put o.dst (.pointer (some ⟨b, 0, none⟩))) W) : if Region.wanted o tm = true then Oper.wp P o a w K Q else K (a.put o.dst undef) w := by
  rw [if_pos (by simp [Region.wanted, hgd])]
  unfold Oper.wp execOp
  have := h _ _ rfl ((Chg.refl [] w).alloc _) (Box.of_alloc (L := L) w x T)
  simp [ho, Instr.box, hs, newVar, newRow, Value.cells]
  exact this
/-- A build, read in a region that draws. -/
theorem read_bd {P : Program} {T : TypeId} {d : Tmp} {xs : List (Nat × Operand)} {ty : TypeId} {pos : String} {after : Array Edge} {g : Option (Nat × Bool)} {ev : Operand → Value} {y : Nat → Option Bool} {w : World} {v : Value} (hw : Region.wanted ⟨some d, .build T xs.toArray, ty, pos, after, g⟩ y = true) (h : (Instr.build T (xs.map fun p => (p.1, ev p.2)).toArray).run P w = .ok v w) :
    if Region.wanted ⟨some d, .build T xs.toArray, ty, pos, after, g⟩ y = true then (execOp ev ⟨some d, .build T xs.toArray, ty, pos, after, g⟩).run P w = .ok (.value v) w else v = undef := by
  rw [if_pos hw]
  unfold execOp
  simp only [Sem.run_bind, List.map_toArray, h, Result.andThen_ok, Sem.run_pure]
end Lay
end Go.Proofs.YtlblcbgmmfjdjaaGreatDoor
