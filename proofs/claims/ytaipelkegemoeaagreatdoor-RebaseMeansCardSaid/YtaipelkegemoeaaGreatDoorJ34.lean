/- Lemmas, laid together: part 34 of 46. Conditions: none but each lemma's own. -/
import Derived.Test.YtaipelkegemoeaaGreatDoorJ33
import Derived.Test.YtaipelkegemoeaaGreatDoorJ6
import Derived.Test.YtaipelkegemoeaaGreatDoorJ24
import Derived.Test.YtaipelkegemoeaaGreatDoorJ8
import Derived.Test.YtaipelkegemoeaaGreatDoorJ32
/- rebase: step, the opcode of a place. -/
namespace Go.Proofs.YtaipelkegemoeaaGreatDoor
open Go.RowKit
set_option maxRecDepth 100000

set_option maxHeartbeats 2000000 in
theorem step_place (b bc : Nat) (r : Rdr) (imm n : Nat) (hi2 : imm < 256) (s : CS) (hc : r.c = some ⟨bc, 0, none⟩) (w : World) (hg : Env w) (hcur : CurB w bc s) (hne : bc < b) (hf : (lebS ulebR s).failed = false) (hv : lebV ulebR s = n) (hb : rdrL.Box w b r)
    (ls : List Seg) (hrd : segL.Rd w r.m.segs.v ls) (hoo : ∀ k, r.m.segs.v.ownBlock = some k → k ∉ [bc]) (A : Int) (hA : placeS ls imm n = (A, 0)) :
    Calls Tryz.prog 26 #[.pointer (some ⟨b, 0, none⟩), .int .u8 2, .int .u8 imm] w fun e w' => e = .returned (.int .i64 0) ∧ rdrL.Box w' b { r with at_ := A, is_ := true } ∧ CurB w' bc (lebS ulebR s) ∧ Chg [b, bc] w w' := by
  have HPL := Lib.hid (fun w rd => Place_any r.m ls (imm : Int) (by omega) (n : Int) w rd)
  rw [hA] at HPL
  have hwi : IntKind.u64.wrap (imm : Int) = (imm : Int) := by rw [IntKind.wrap_u64]; omega
  have HNU := Lib.hid (fun w => numbers_any 2 (by decide) w)
  have HER := Lib.hid (fun w hcur => Err_ok bc (lebS ulebR s) w hcur hf)
  have HRE := Lib.hid (fun w hb => ready_any b r 2 (by decide) w hb)
  have HUL := Lib.hid (fun w hg hcur => Uleb_cur bc s w hg hcur)
  rw [hv] at HUL
  rw [show readyOf 2 r.typ r.is_ = true from rfl] at HRE
  have Hcur := Lib.hid hcur
  have Hb := Lib.hid hb
  have Hf := Lib.hid hf
  have Hg := Lib.hid hg
  have Hv := Lib.hid hv
  have Hrd := Lib.hid hrd
  have Hoo := Lib.hid hoo
  have HA := Lib.hid hA
  clear hcur hb hf hg hv hrd hoo hA
  go_enter Tryz.func26, Tryz.ntmps26
  go_wp2_with fail
  refine (HNU.out _).mono ?_
  rintro e W1 ⟨rfl, h1⟩
  rw [show ((numsOf 2 : Nat) : Int) = 1 from rfl]
  have hA := h1.heap (heap_alloc_eq w (.cells #[.int .u64 0, .int .u64 0] 98)) (by simp)
  have hlt := Hcur.out.lt
  have hbs : b < w.heap.size := Hb.out.lt
  have C1 : Hid (Chg [] w W1) := Lib.hid (((Chg.refl [] w).alloc _).then h1)
  have HA := Lib.hid hA
  clear hA
  clear h1
  go_wp2_with fail
  go_loopw [13] (fun s13 wr => (s13 = .int .i64 0 ∧ wr = W1) ∨ (s13 = .int .i64 1 ∧ Chg [bc] w wr ∧ CurB wr bc (lebS ulebR s) ∧ wr.cell? ⟨w.heap.size, 0, none⟩ = some (.int .u64 n))) (fun s13 _ => 1 - (intOf s13).toNat)
  case atStart => exact .inl ⟨rfl, rfl⟩
  case round =>
    rcases hrel with ⟨rfl, rfl⟩ | ⟨rfl, h1, h2, h3⟩
    · have B1 := Lib.hid (Hb.out.frame C1.out)
      have x0 := Rdr.c_c B1.out
      rw [hc] at x0
      go_wp2_with fail
      refine (HUL.out _ (Hg.out.frame C1.out (by simp)) (Hcur.out.frame C1.out)).mono ?_
      rintro e W2 ⟨rfl, hc2, h2⟩
      have hA2 := h2.heap HA.out (by simp; omega)
      have a0 := cell_of_heap hA2 0
      have f0 := frozen_of_heap hA2 0
      simp at a0
      have C2 : Hid (Chg [bc] w W2) := Lib.hid (C1.out.add.same h2)
      have HC2 := Lib.hid hc2
      clear hc2
      clear h2 hA2 x0
      go_wp2
      go_roundw
      case rel =>
        refine .inr ⟨rfl, C2.out.setCell _ _ (.inr (Nat.le_refl _)), HC2.out.far2 (S := [w.heap.size]) ((Chg.refl _ _).setCell _ _ (.inl (by simp))) (by simp; omega), World.cell?_setCell_same _ _ _ a0⟩
      case measure => simp [intOf]
    · have C1a := Lib.hid h1
      have HC1 := Lib.hid h2
      have A1 := Lib.hid h3
      clear h1 h2 h3
      have BB := Lib.hid (Hb.out.frameS C1a.out (by simp; omega))
      have x0 := Rdr.c_c BB.out
      rw [hc] at x0
      go_wp2_with fail
      refine (HER.out _ HC1.out).mono ?_
      rintro e W2 ⟨rfl, h2⟩
      have C2 := Lib.hid (C1a.out.then h2)
      have HC2 := Lib.hid (HC1.out.frame h2)
      have a2 := h2.cell A1.out (by simp)
      clear h2 x0
      go_wp2_with fail
      refine (HRE.out _ (Hb.out.frameS C2.out (by simp; omega))).mono ?_
      rintro e W3 ⟨rfl, h3⟩
      have C3 := Lib.hid (C2.out.then h3)
      have HC3 := Lib.hid (HC2.out.frame h3)
      have a3 := h3.cell a2 (by simp)
      clear h3 a2
      have B3 := Lib.hid (Hb.out.frameS C3.out (by simp; omega))
      have R3 := Lib.hid (Hrd.out.frameS C3.out Hoo.out)
      go_upto_region 2 with fail
      refine wp_region_noPanic ?_
      refine wp_region_held_drew (S := fun w' => Chg [] W3 w') (by kernel_rfl) ((Chg.refl _ _).drew) (fun hHeld => ?_)
      refine take_read (i := 0) (v := ?_) (by simp only [List.getElem?_toArray, List.getElem?_cons_zero]; rfl) (by kernel_rfl) (by kernel_rfl) (by kernel_rfl) (fun _ _ _ h => h) hHeld ?_ ?_
      rotate_left
      · intro w hSw
        go_simp
        try with_reducible rfl
      try simp only [Act.put, List.setIfInBounds_toArray, List.set_cons_zero, List.set_cons_succ]
      refine take_read (i := 1) (v := ?_) (by simp only [List.getElem?_toArray, List.getElem?_cons_succ, List.getElem?_cons_zero]; rfl) (by kernel_rfl) (by kernel_rfl) (by kernel_rfl) (fun _ _ _ h => h) hHeld ?_ ?_
      rotate_left
      · intro w hSw
        go_simp
        try with_reducible rfl
      try simp only [Act.put, List.setIfInBounds_toArray, List.set_cons_zero, List.set_cons_succ]
      refine take_read (i := 2) (v := ?_) (by simp only [List.getElem?_toArray, List.getElem?_cons_succ, List.getElem?_cons_zero]; rfl) (by kernel_rfl) (by kernel_rfl) (by kernel_rfl) (fun _ _ _ h => h) hHeld ?_ ?_
      rotate_left
      · intro w hSw
        go_simp
        try with_reducible rfl
      try simp only [Act.put, List.setIfInBounds_toArray, List.set_cons_zero, List.set_cons_succ]
      refine take_read (i := 3) (v := ?_) (by simp only [List.getElem?_toArray, List.getElem?_cons_succ, List.getElem?_cons_zero]; rfl) (by kernel_rfl) (by kernel_rfl) (by kernel_rfl) (fun _ _ _ h => h) hHeld ?_ ?_
      rotate_left
      · intro w hSw
        refine Lay.read_ld Tryz.tImg ((Rdr.i_m (B3.out.frame hSw))) ?_ ?_
        exact rfl
        exact rfl
      try simp only [Act.put, List.setIfInBounds_toArray, List.set_cons_zero, List.set_cons_succ]
      refine take_read (i := 4) (v := ?_) (by simp only [List.getElem?_toArray, List.getElem?_cons_succ, List.getElem?_cons_zero]; rfl) (by kernel_rfl) (by kernel_rfl) (by kernel_rfl) (fun _ _ _ h => h) hHeld ?_ ?_
      rotate_left
      · intro w hSw
        go_simp
        try with_reducible rfl
      try simp only [Act.put, List.setIfInBounds_toArray, List.set_cons_zero, List.set_cons_succ]
      refine take_read (i := 5) (v := ?_) (by simp only [List.getElem?_toArray, List.getElem?_cons_succ, List.getElem?_cons_zero]; rfl) (by kernel_rfl) (by kernel_rfl) (by kernel_rfl) (fun _ _ _ h => h) hHeld ?_ ?_
      rotate_left
      · intro w hSw
        go_simp
        try with_reducible rfl
      try simp only [Act.put, List.setIfInBounds_toArray, List.set_cons_zero, List.set_cons_succ]
      refine take_read (i := 6) (v := ?_) (by simp only [List.getElem?_toArray, List.getElem?_cons_succ, List.getElem?_cons_zero]; rfl) (by kernel_rfl) (by kernel_rfl) (by kernel_rfl) (fun _ _ _ h => h) hHeld ?_ ?_
      rotate_left
      · intro w hSw
        go_simp
        try with_reducible rfl
      try simp only [Act.put, List.setIfInBounds_toArray, List.set_cons_zero, List.set_cons_succ]
      refine take_read (i := 7) (v := ?_) (by simp only [List.getElem?_toArray, List.getElem?_cons_succ, List.getElem?_cons_zero]; rfl) (by kernel_rfl) (by kernel_rfl) (by kernel_rfl) (fun _ _ _ h => h) hHeld ?_ ?_
      rotate_left
      · intro w hSw
        have a3 := hSw.cell a3 (by simp)
        go_simp
        try with_reducible rfl
      try simp only [Act.put, List.setIfInBounds_toArray, List.set_cons_zero, List.set_cons_succ]
      refine wpAnyH_ready (rs := [8]) (by kernel_rfl) (by simp) ?_
      refine AllReadyH.cons rfl (fun K hK => ?_) AllReadyH.nil
      go_simp
      refine (HPL.out _ (R3.out.frame hHeld)).mono ?_
      rintro e W4 ⟨rfl, hc⟩
      have A4 : Hid (Chg [] W3 W4) := Lib.hid (hHeld.then hc)
      clear hc
      refine hK.out _ _ A4.out (fun hHeld2 => ?_)
      clear hK hHeld K
      have hHeld := hHeld2
      clear hHeld2
      try (unfold Act.put; simp only [List.setIfInBounds_toArray, List.set_cons_zero, List.set_cons_succ])
      refine take_read (i := 9) (v := ?_) (by simp only [List.getElem?_toArray, List.getElem?_cons_succ, List.getElem?_cons_zero]; rfl) (by kernel_rfl) (by kernel_rfl) (by kernel_rfl) (fun _ _ _ h => h) hHeld ?_ ?_
      rotate_left
      · intro w hSw
        go_simp
        try with_reducible rfl
      try simp only [Act.put, List.setIfInBounds_toArray, List.set_cons_zero, List.set_cons_succ]
      refine take_read (i := 10) (v := ?_) (by simp only [List.getElem?_toArray, List.getElem?_cons_succ, List.getElem?_cons_zero]; rfl) (by kernel_rfl) (by kernel_rfl) (by kernel_rfl) (fun _ _ _ h => h) hHeld ?_ ?_
      rotate_left
      · intro w hSw
        go_simp
        try with_reducible rfl
      try simp only [Act.put, List.setIfInBounds_toArray, List.set_cons_zero, List.set_cons_succ]
      refine take_read (i := 11) (v := ?_) (by simp only [List.getElem?_toArray, List.getElem?_cons_succ, List.getElem?_cons_zero]; rfl) (by kernel_rfl) (by kernel_rfl) (by kernel_rfl) (fun _ _ _ h => h) hHeld ?_ ?_
      rotate_left
      · intro w hSw
        go_simp
        try with_reducible rfl
      try simp only [Act.put, List.setIfInBounds_toArray, List.set_cons_zero, List.set_cons_succ]
      refine take_read (i := 12) (v := ?_) (by simp only [List.getElem?_toArray, List.getElem?_cons_succ, List.getElem?_cons_zero]; rfl) (by kernel_rfl) (by kernel_rfl) (by kernel_rfl) (fun _ _ _ h => h) hHeld ?_ ?_
      rotate_left
      · intro w hSw
        go_simp
        try with_reducible rfl
      try simp only [Act.put, List.setIfInBounds_toArray, List.set_cons_zero, List.set_cons_succ]
      refine take_read (i := 13) (v := ?_) (by simp only [List.getElem?_toArray, List.getElem?_cons_succ, List.getElem?_cons_zero]; rfl) (by kernel_rfl) (by kernel_rfl) (by kernel_rfl) (fun _ _ _ h => h) hHeld ?_ ?_
      rotate_left
      · intro w hSw
        go_simp
        try with_reducible rfl
      try simp only [Act.put, List.setIfInBounds_toArray, List.set_cons_zero, List.set_cons_succ]
      refine wpAnyH_done (by kernel_rfl) ?_ _
      refine NoPanic.normal ?_
      have B4 := Lib.hid (B3.out.frame A4.out)
      have HC4 := Lib.hid (HC3.out.frame A4.out)
      have C4 := Lib.hid (C3.out.then A4.out)
      clear hHeld A4 B3 R3 a3
      have x26 := Rdr.c_at B4.out
      have z26 := B4.out.frozen 26
      have x27 := Rdr.c_is B4.out
      have z27 := B4.out.frozen 27
      go_wp2
      go_ret
      exact ⟨rfl, Rdr.set_is (Rdr.set_at B4.out A) true, (HC4.out.far2 (S := [b]) (((Chg.refl _ _).setCell _ _ (.inl (by simp))).setCell _ _ (.inl (by simp))) (by simp; omega)), ((C4.out.mono (by simp)).setCell _ _ (.inl (by simp))).setCell _ _ (.inl (by simp))⟩
end Go.Proofs.YtaipelkegemoeaaGreatDoor
/- rebase.Decode, along a row of states. -/
namespace Go.Proofs.YtaipelkegemoeaaGreatDoor
open Go.RowKit
set_option maxRecDepth 100000

theorem rdr_build (c : Option Addr) (sl : SlV) (m : Img) (w : World) : (Instr.build 71 #[(0, .pointer c), (1, sl.v), (2, imgL.val m)]).run Tryz.prog w = .ok (rdrL.val { Rdr.zero with c := c, sl := sl, m := m }) w := by kernel_rfl
theorem CurB.cell1 {w : World} {b : Nat} {s : CS} (h : CurB w b s) : w.cell? ⟨b, 1, none⟩ = some (.int .i64 s.at_) := by
  obtain ⟨a, n, cap, hb, _⟩ := h
  have := cell_of_heap hb 1
  simpa using this
theorem and15b (x : Nat) (h : x < 256) : bits .and .u8 (x : Int) 15 = ((x % 16 : Nat) : Int) := by
  have := u8_and_nat x 15 h (by decide)
  rw [show ((15 : Nat) : Int) = 15 from rfl] at this
  rw [this, show (15 : Nat) = 2 ^ 4 - 1 from rfl, Nat.and_two_pow_sub_one_eq_mod]
/-- A row of states, N of them behind the first one, and what ends it. -/
structure DRow (w : World) (B : List UInt8) (c0 : Rdr) (P op imm : Nat → Nat) (N : Nat) (q : Int) (K : Nat → Nat → Nat → SlV → World → Prop) (St : Nat → Nat → Nat → World → Prop) : Prop where
  start : ∀ bc b W, w.heap.size ≤ bc → bc < b → CurB W bc ⟨B, 0, false, false⟩ → rdrL.Box W b { c0 with c := some ⟨bc, 0, none⟩ } → Chg [] w W → St bc b 0 W
  p0 : P 0 = 0
  is_ : ∀ bc b i W, St bc b i W → CurB W bc ⟨B, P i, false, false⟩ ∧ Chg [] w W ∧ bc < b ∧ ∃ r, rdrL.Box W b r ∧ r.c = some ⟨bc, 0, none⟩ ∧ K bc b i r.out W
  le : ∀ i, P i ≤ B.length
  lt : ∀ i, i < N → P i < B.length ∧ P i < P (i + 1)
  byte : ∀ i, i ≤ N → P i < B.length → (B.getD (P i) 0).toNat = 16 * op i + imm i ∧ op i < 16 ∧ imm i < 16
  opc : ∀ i, i < N → op i ≠ 0
  step : ∀ bc b i W0 W, i < N → St bc b i W0 → Chg [bc] W0 W → CurB W bc ⟨B, P i + 1, false, false⟩ → Calls Tryz.prog 26 #[.pointer (some ⟨b, 0, none⟩), .int .u8 (op i), .int .u8 (imm i)] W fun e w' => e = .returned (.int .i64 0) ∧ St bc b (i + 1) w'
  fin : (q = 0 ∧ (P N < B.length → op N = 0)) ∨ (q ≠ 0 ∧ P N < B.length ∧ op N ≠ 0 ∧ ∀ bc b W0 W, St bc b N W0 → Chg [bc] W0 W → CurB W bc ⟨B, P N + 1, false, false⟩ → Calls Tryz.prog 26 #[.pointer (some ⟨b, 0, none⟩), .int .u8 (op N), .int .u8 (imm N)] W fun e w' => e = .returned (.int .i64 q) ∧ Chg [] w w')
set_option maxHeartbeats 4000000 in
theorem Decode_row (slv : SlV) (m : Img) (stv : Value) (B : List UInt8) (hB : B.length ≤ 140737488355328) (w : World) (hst : Rd w stv (bytesV B)) (P op imm : Nat → Nat) (N : Nat) (q : Int) (K : Nat → Nat → Nat → SlV → World → Prop) (St : Nat → Nat → Nat → World → Prop)
    (hd : DRow w B { Rdr.zero with sl := slv, m := m } P op imm N q K St) :
    Calls Tryz.prog 8 #[slv.v, imgL.val m, stv] w fun e w' => ∃ so : SlV, e = .returned (.tuple #[so.v, .int .i64 q]) ∧ Chg [] w w' ∧ (q ≠ 0 → so = ⟨none, 0, 0⟩) ∧ (q = 0 → ∃ bc b W0, St bc b N W0 ∧ K bc b N so W0 ∧ bc < b ∧ w.heap.size ≤ bc ∧ Chg [bc] W0 w') := by
  have HNW := Lib.hid (fun w hv => New_cur stv B false w hv hB)
  have Hst := Lib.hid hst
  have Hd := Lib.hid hd
  clear hst hd
  go_enter Tryz.func8, Tryz.ntmps8
  go_wp2_with ((with_reducible refine Lay.bxL (L := imgL) 32 m ?_ ?_); exact rfl; intro W1 bi ebi cbi xbi; replace ebi := Lib.hid ebi; replace cbi := Lib.hid cbi; replace xbi := Lib.hid xbi; refine Hid.out ?_)
  refine Lib.hid ?_
  go_upto_region 1 with fail
  refine wp_region_noPanic ?_
  refine wp_region_held_drew (S := fun w' => Chg [] W1 w') (by kernel_rfl) ((Chg.refl _ _).drew) (fun hHeld => ?_)
  refine take_read (i := 0) (v := ?_) (by simp only [List.getElem?_toArray, List.getElem?_cons_zero]; rfl) (by kernel_rfl) (by kernel_rfl) (by kernel_rfl) (fun _ _ _ h => h) hHeld ?_ ?_
  rotate_left
  · intro w hSw
    go_simp
    try with_reducible rfl
  try simp only [Act.put, List.setIfInBounds_toArray, List.set_cons_zero, List.set_cons_succ]
  refine take_read (i := 2) (v := ?_) (by simp only [List.getElem?_toArray, List.getElem?_cons_succ, List.getElem?_cons_zero]; rfl) (by kernel_rfl) (by kernel_rfl) (by kernel_rfl) (fun _ _ _ h => h) hHeld ?_ ?_
  rotate_left
  · intro w hSw
    go_simp
    try with_reducible rfl
  try simp only [Act.put, List.setIfInBounds_toArray, List.set_cons_zero, List.set_cons_succ]
  refine take_read (i := 3) (v := ?_) (by simp only [List.getElem?_toArray, List.getElem?_cons_succ, List.getElem?_cons_zero]; rfl) (by kernel_rfl) (by kernel_rfl) (by kernel_rfl) (fun _ _ _ h => h) hHeld ?_ ?_
  rotate_left
  · intro w hSw
    refine Lay.read_ld Tryz.tImg ((xbi.out.frame hSw).in) ?_ ?_
    exact rfl
    exact rfl
  try simp only [Act.put, List.setIfInBounds_toArray, List.set_cons_zero, List.set_cons_succ]
  refine wpAnyH_ready (rs := [1]) (by kernel_rfl) (by simp) ?_
  refine AllReadyH.cons rfl (fun K hK => ?_) AllReadyH.nil
  go_simp
  refine (HNW.out _ (Hst.out.frame (cbi.out.then hHeld) (fun _ _ hm => by cases hm))).mono ?_
  rintro e W2 ⟨bc, rfl, hle, hcur, hc⟩
  have A2 : Hid (Chg [] W1 W2) := Lib.hid (hHeld.then hc)
  have CU2 := Lib.hid hcur
  clear hcur
  clear hc
  refine hK.out _ _ A2.out (fun hHeld2 => ?_)
  clear hK hHeld K
  have hHeld := hHeld2
  clear hHeld2
  try (unfold Act.put; simp only [List.setIfInBounds_toArray, List.set_cons_zero, List.set_cons_succ])
  refine take_read (i := 4) (v := ?_) (by simp only [List.getElem?_toArray, List.getElem?_cons_succ, List.getElem?_cons_zero]; rfl) (by kernel_rfl) (by kernel_rfl) (by kernel_rfl) (fun _ _ _ h => h) hHeld ?_ ?_
  rotate_left
  · intro w hSw
    refine Lay.read_bd (xs := [(0, .tmp 12), (1, .tmp 13), (2, .tmp 14)]) ?_ ?_
    exact rfl
    exact rdr_build (some ⟨bc, 0, none⟩) slv m _
  try simp only [Act.put, List.setIfInBounds_toArray, List.set_cons_zero, List.set_cons_succ]
  refine wpAnyH_ready (rs := [5]) (by kernel_rfl) (by simp) ?_
  refine AllReadyH.cons (by simp only [List.getElem?_toArray, List.getElem?_cons_succ, List.getElem?_cons_zero]; rfl) (fun K hK => ?_) AllReadyH.nil
  refine Lay.armBx (L := rdrL) rfl _ rfl { Rdr.zero with c := some ⟨bc, 0, none⟩, sl := slv, m := m } rfl (fun W3 b hbm hcW hbox => ?_)
  have A3 : Hid (Chg [] W1 W3) := Lib.hid (hHeld.then hcW)
  have EB := Lib.hid hbm
  have CW := Lib.hid hcW
  have BX3 := Lib.hid hbox
  clear hbm hcW hbox
  refine hK.out _ _ A3.out (fun hHeld2 => ?_)
  clear hK hHeld K
  have hHeld := hHeld2
  clear hHeld2
  try (unfold Act.put; simp only [List.setIfInBounds_toArray, List.set_cons_zero, List.set_cons_succ])
  refine take_read (i := 6) (v := ?_) (by simp only [List.getElem?_toArray, List.getElem?_cons_succ, List.getElem?_cons_zero]; rfl) (by kernel_rfl) (by kernel_rfl) (by kernel_rfl) (fun _ _ _ h => h) hHeld ?_ ?_
  rotate_left
  · intro w hSw
    go_simp
    try with_reducible rfl
  try simp only [Act.put, List.setIfInBounds_toArray, List.set_cons_zero, List.set_cons_succ]
  refine wpAnyH_done (by kernel_rfl) ?_ _
  refine NoPanic.normal ?_
  have hbc : bc < b := by have := CU2.out.lt; have := EB.out; omega
  have hle1 : w.heap.size ≤ bc := Nat.le_trans cbi.out.size (Nat.le_trans ((Chg.refl [] W1).drew).size hle)
  have ST0 : Hid (St bc b 0 W3) := Lib.hid (Hd.out.start bc b W3 hle1 hbc (CU2.out.frame CW.out) BX3.out (cbi.out.then A3.out))
  clear A2 CU2 hHeld A3 EB CW BX3 hle
  go_wp2_with fail
  go_loopw [] (fun wr => ∃ i : Nat, i ≤ N ∧ St bc b i wr) (fun wr => match wr.cell? ⟨bc, 1, none⟩ with | some (.int _ k) => B.length - k.toNat | _ => 0)
  case atStart => exact ⟨0, Nat.zero_le _, ST0.out⟩
  case round =>
    obtain ⟨i, hi, hst⟩ := hrel
    obtain ⟨hc, hC, _, r, hbx, hrc, hk⟩ := Hd.out.is_ bc b i wr hst
    have x0 := Rdr.c_c hbx
    rw [hrc] at x0
    have ST := Lib.hid hst
    have CU := Lib.hid hc
    have CW := Lib.hid hC
    have BX := Lib.hid hbx
    have KK := Lib.hid hk
    clear hst hc hC hbx hk
    obtain ⟨d, hdd⟩ : ∃ d : Int, (B.length : Int) - (P i : Nat) = d := ⟨_, rfl⟩
    have HLF := Lib.hid (Left_cur bc ⟨B, P i, false, false⟩ wr CU.out)
    dsimp only at HLF
    rw [hdd] at HLF
    by_cases hl : P i < B.length
    · have hgt : decide ((0 : Int) < d) = true := by simp; omega
      obtain ⟨hby, ho1, hi1⟩ := Hd.out.byte i hi hl
      obtain ⟨x, hx⟩ : ∃ x : Nat, (B.getD (P i) 0).toNat = x := ⟨_, rfl⟩
      have hx256 : x < 256 := by rw [← hx]; exact (B.getD (P i) 0).toNat_lt
      have hnv : numberV ⟨B, P i, false, false⟩ 1 = x := by rw [← hx]; exact numberV_one rfl hl
      have hns : numberS ⟨B, P i, false, false⟩ 1 = ⟨B, P i + 1, false, false⟩ := by
        unfold numberS
        rw [show okSize 1 = true from rfl, if_pos rfl]
        unfold takeS
        rw [canTake_of rfl (by omega) (by dsimp only; omega)]
        rfl
      have HNM := Lib.hid (fun w hc => Number_cur bc ⟨B, P i, false, false⟩ 1 w hc)
      rw [hnv, hns] at HNM
      have hw8 : IntKind.u8.wrap (x : Int) = (x : Int) := by rw [IntKind.wrap_u8]; omega
      rw [hx] at hby
      obtain ⟨o, ho⟩ : ∃ o : Nat, op i = o := ⟨_, rfl⟩
      obtain ⟨mm, hmm⟩ : ∃ mm : Nat, imm i = mm := ⟨_, rfl⟩
      rw [ho, hmm] at hby
      rw [ho] at ho1
      rw [hmm] at hi1
      have hs : (x : Int) / 16 = (o : Int) := by omega
      have ha : bits .and .u8 (x : Int) 15 = (mm : Int) := by rw [and15b x hx256]; omega
      by_cases hoz : o = 0
      · have hN : i = N := by
          rcases Nat.lt_or_ge i N with h | h
          · exact absurd (ho.trans hoz) (Hd.out.opc i h)
          · omega
        have hq : q = 0 := by
          rcases Hd.out.fin with h | h
          · exact h.1
          · exact absurd (ho.trans hoz) (by rw [hN]; exact h.2.2.1)
        subst hN
        have hs0 : (x : Int) / 16 = 0 := by omega
        have Hby := Lib.hid hby
        have Hns := Lib.hid hns
        have Hnv := Lib.hid hnv
        have Hx := Lib.hid hx
        have Hdd := Lib.hid hdd
        have Ho := Lib.hid ho
        have Hmm := Lib.hid hmm
        have Hs := Lib.hid hs
        have Ha := Lib.hid ha
        have Hoz := Lib.hid hoz
        have Hq := Lib.hid hq
        clear hby hns hnv hx hdd ho hmm hs ha hoz hq
        go_wp2_with fail
        refine (HLF.out).mono ?_
        rintro e W4 ⟨rfl, hd⟩
        have C4 : Hid (Chg [] wr W4) := Lib.hid ((Chg.refl [] wr).dr hd)
        clear hd
        replace x0 := C4.out.cell x0 (by simp)
        go_wp2_with fail
        refine (HNM.out _ (CU.out.frame C4.out)).mono ?_
        rintro e W5 ⟨rfl, hc5, h5⟩
        have C5 : Hid (Chg [bc] wr W5) := Lib.hid (C4.out.add.same h5)
        have CU5 := Lib.hid hc5
        clear hc5
        clear x0 h5
        have B5 := Lib.hid (BX.out.frameS C5.out (by simp; omega))
        have x29 := Rdr.c_out B5.out
        go_wp2
        go_ret2
        exact ⟨r.out, by rw [Hq.out]; rfl, CW.out.trans C5.out (fun k hk hkw => by simp at hk; omega), fun h => absurd Hq.out h, fun _ => ⟨bc, b, wr, ST.out, KK.out, hbc, hle1, C5.out⟩⟩
      · have ho0 : ((o : Int) == 0) = false := by simp; omega
        by_cases hN : i < N
        · have hst := fun W5 => Hd.out.step bc b i wr W5 hN ST.out
          have hlt := (Hd.out.lt i hN).2
          rw [ho, hmm] at hst
          have Hby := Lib.hid hby
          have Hns := Lib.hid hns
          have Hnv := Lib.hid hnv
          have Hx := Lib.hid hx
          have Hdd := Lib.hid hdd
          have Ho := Lib.hid ho
          have Hmm := Lib.hid hmm
          have Hoz := Lib.hid hoz
          have HST := Lib.hid hst
          clear hby hns hnv hx hdd ho hmm hoz hst
          go_wp2_with fail
          refine (HLF.out).mono ?_
          rintro e W4 ⟨rfl, hd⟩
          have C4 : Hid (Chg [] wr W4) := Lib.hid ((Chg.refl [] wr).dr hd)
          clear hd
          replace x0 := C4.out.cell x0 (by simp)
          go_wp2_with fail
          refine (HNM.out _ (CU.out.frame C4.out)).mono ?_
          rintro e W5 ⟨rfl, hc5, h5⟩
          have C5 : Hid (Chg [bc] wr W5) := Lib.hid (C4.out.add.same h5)
          have CU5 := Lib.hid hc5
          clear hc5
          clear x0 h5
          go_wp2_with fail
          refine (HST.out _ C5.out CU5.out).mono ?_
          rintro e W6 ⟨rfl, h6⟩
          have H6 := Lib.hid h6
          clear h6
          go_wp2
          go_roundw
          case rel => exact ⟨i + 1, hN, H6.out⟩
          case measure =>
            have h1 := (Hd.out.is_ bc b (i + 1) _ H6.out).1.cell1
            have h2 := CU.out.cell1
            have h3 := Hd.out.le (i + 1)
            rw [h1, h2]
            simp
            omega
        · have hN : i = N := by omega
          subst hN
          obtain ⟨hq, _, _, hst⟩ : q ≠ 0 ∧ P i < B.length ∧ op i ≠ 0 ∧ ∀ bc b W0 W, St bc b i W0 → Chg [bc] W0 W → CurB W bc ⟨B, P i + 1, false, false⟩ → Calls Tryz.prog 26 #[.pointer (some ⟨b, 0, none⟩), .int .u8 (op i), .int .u8 (imm i)] W fun e w' => e = .returned (.int .i64 q) ∧ Chg [] w w' := by
            rcases Hd.out.fin with h | h
            · exact absurd (ho.symm.trans (h.2 hl)) hoz
            · exact h
          rw [ho, hmm] at hst
          replace hst := fun W5 => hst bc b wr W5 ST.out
          have hqb : (q == 0) = false := by simpa using hq
          have Hby := Lib.hid hby
          have Hns := Lib.hid hns
          have Hnv := Lib.hid hnv
          have Hx := Lib.hid hx
          have Hdd := Lib.hid hdd
          have Ho := Lib.hid ho
          have Hmm := Lib.hid hmm
          have Hoz := Lib.hid hoz
          have HST := Lib.hid hst
          have Hq := Lib.hid hq
          clear hby hns hnv hx hdd ho hmm hoz hst hq
          go_wp2_with fail
          refine (HLF.out).mono ?_
          rintro e W4 ⟨rfl, hd⟩
          have C4 : Hid (Chg [] wr W4) := Lib.hid ((Chg.refl [] wr).dr hd)
          clear hd
          replace x0 := C4.out.cell x0 (by simp)
          go_wp2_with fail
          refine (HNM.out _ (CU.out.frame C4.out)).mono ?_
          rintro e W5 ⟨rfl, hc5, h5⟩
          have C5 : Hid (Chg [bc] wr W5) := Lib.hid (C4.out.add.same h5)
          have CU5 := Lib.hid hc5
          clear hc5
          clear x0 h5
          go_wp2_with fail
          refine (HST.out _ C5.out CU5.out).mono ?_
          rintro e W6 ⟨rfl, h6⟩
          have H6 := Lib.hid h6
          clear h6
          go_wp2
          go_ret2
          exact ⟨⟨none, 0, 0⟩, rfl, H6.out, fun _ => rfl, fun h => absurd h Hq.out⟩
    · have hgt : decide ((0 : Int) < d) = false := by simp; omega
      have hN : i = N := by
        rcases Nat.lt_or_ge i N with h | h
        · exact absurd (Hd.out.lt i h).1 hl
        · omega
      subst hN
      have hq : q = 0 := by
        rcases Hd.out.fin with h | h
        · exact h.1
        · exact absurd h.2.1 hl
      have Hdd := Lib.hid hdd
      have Hq := Lib.hid hq
      clear hdd hq
      go_wp2_with fail
      refine (HLF.out).mono ?_
      rintro e W4 ⟨rfl, hd⟩
      have C4 : Hid (Chg [] wr W4) := Lib.hid ((Chg.refl [] wr).dr hd)
      clear hd x0
      have x29 := Rdr.c_out (BX.out.frame C4.out)
      go_wp2
      go_ret2
      exact ⟨r.out, by rw [Hq.out]; rfl, CW.out.then C4.out, fun h => absurd Hq.out h, fun _ => ⟨bc, b, wr, ST.out, KK.out, hbc, hle1, C4.out.add⟩⟩
end Go.Proofs.YtaipelkegemoeaaGreatDoor
/- rebase.Decode's state, and what each opcode makes of it. -/
namespace Go.Proofs.YtaipelkegemoeaaGreatDoor
open Go.RowKit
set_option maxRecDepth 100000

/-- What Decode is called with. -/
structure DIn (w : World) (c0 : Rdr) (ls : List Seg) (l : List UInt8) : Prop where
  hls : SegsB ls
  rd : segL.Rd w c0.m.segs.v ls
  hl : l.length ≤ 100000000
  sl : byteL.Rd w c0.sl.v l
  o1 : ∀ k, c0.m.segs.v.ownBlock = some k → k < w.heap.size
  o2 : ∀ k, c0.sl.v.ownBlock = some k → k < w.heap.size
/-- The reader at a place of its stream: where it stands, and what it has. -/
structure DSt (w : World) (B : List UInt8) (c0 : Rdr) (p A : Nat) (is_ : Bool) (typ : Int) (fs : List Fx) (bc b : Nat) (W : World) : Prop where
  lo : w.heap.size ≤ bc
  hi : bc < b
  env : Env W
  cur : CurB W bc ⟨B, p, false, false⟩
  chg : Chg [] w W
  box : ∃ so : SlV, rdrL.Box W b { c0 with c := some ⟨bc, 0, none⟩, at_ := (A : Int), is_ := is_, typ := typ, out := so } ∧ FB W (b + 1) so.v fs
theorem DSt.lt {w W : World} {B : List UInt8} {c0 : Rdr} {p A : Nat} {is_ : Bool} {typ : Int} {fs : List Fx} {bc b : Nat} (h : DSt w B c0 p A is_ typ fs bc b W) : b < W.heap.size := by
  obtain ⟨so, h1, _⟩ := h.box
  exact h1.lt
/-- A write to the reader's own blocks. -/
theorem DSt.env2 {w W W' : World} {B : List UInt8} {c0 : Rdr} {p A : Nat} {is_ : Bool} {typ : Int} {fs : List Fx} {bc b : Nat} (h : DSt w B c0 p A is_ typ fs bc b W) (hw : Env w) {S : List Nat} (k : Chg S W W') (hS : ∀ i ∈ S, bc ≤ i) : Env W' :=
  h.env.frame k (fun hm => by have := hS _ hm; have := hw.pos; have := h.lo; omega)
theorem DSt.chg2 {w W W' : World} {B : List UInt8} {c0 : Rdr} {p A : Nat} {is_ : Bool} {typ : Int} {fs : List Fx} {bc b : Nat} (h : DSt w B c0 p A is_ typ fs bc b W) {S : List Nat} (k : Chg S W W') (hS : ∀ i ∈ S, bc ≤ i) : Chg [] w W' :=
  h.chg.trans k (fun i hm hi => by have := hS _ hm; have := h.lo; omega)
/-- The cursor goes on. -/
theorem DSt.took {w W W' : World} {B : List UInt8} {c0 : Rdr} {p A : Nat} {is_ : Bool} {typ : Int} {fs : List Fx} {bc b : Nat} (h : DSt w B c0 p A is_ typ fs bc b W) (hw : Env w) (k : Chg [bc] W W') {p' : Nat} (hc : CurB W' bc ⟨B, p', false, false⟩) : DSt w B c0 p' A is_ typ fs bc b W' := by
  obtain ⟨so, h1, h2⟩ := h.box
  have hb := h.hi
  refine ⟨h.lo, h.hi, h.env2 hw k (by simp), hc, h.chg2 k (by simp), so, h1.frameS k (by simp; omega), h2.frame k (fun i hi hm => ?_)⟩
  have := (h2.lt i hi).1
  simp at hm
  omega
theorem DSt.typ1 {w W : World} {B : List UInt8} {c0 : Rdr} {p A : Nat} {is_ : Bool} {typ : Int} {fs : List Fx} {bc b : Nat} (h : DSt w B c0 p A is_ typ fs bc b W) (hw : Env w) (imm : Nat) :
    Calls Tryz.prog 26 #[.pointer (some ⟨b, 0, none⟩), .int .u8 1, .int .u8 imm] W fun e w' => e = .returned (.int .i64 0) ∧ DSt w B c0 p A is_ (imm : Int) fs bc b w' := by
  obtain ⟨so, h1, h2⟩ := h.box
  have hb := h.hi
  refine (step_typ b bc _ imm _ rfl W h.cur rfl h1).mono ?_
  rintro e w' ⟨rfl, hb', hc'⟩
  refine ⟨rfl, h.lo, h.hi, h.env2 hw hc' (by simp; omega), h.cur.far2 hc' (by simp; omega), h.chg2 hc' (by simp; omega), so, hb', h2.frame hc' (fun i hi hm => ?_)⟩
  have := (h2.lt i hi).1
  simp at hm
  omega
theorem DSt.place2 {w W : World} {B : List UInt8} {c0 : Rdr} {p A : Nat} {is_ : Bool} {typ : Int} {fs : List Fx} {bc b : Nat} (h : DSt w B c0 p A is_ typ fs bc b W) (hw : Env w) {ls : List Seg} {l : List UInt8} (hd : DIn w c0 ls l) (imm : Nat) (hi : imm < 256) {n p' A' : Nat}
    (hv : lebV ulebR ⟨B, p, false, false⟩ = n ∧ lebS ulebR ⟨B, p, false, false⟩ = ⟨B, p', false, false⟩) (hA : placeS ls imm n = ((A' : Int), 0)) :
    Calls Tryz.prog 26 #[.pointer (some ⟨b, 0, none⟩), .int .u8 2, .int .u8 imm] W fun e w' => e = .returned (.int .i64 0) ∧ DSt w B c0 p' A' true typ fs bc b w' := by
  obtain ⟨so, h1, h2⟩ := h.box
  have hb := h.hi
  have hlo := h.lo
  refine (step_place b bc _ imm n hi _ rfl W h.env h.cur h.hi (by rw [hv.2]) hv.1 h1 ls (hd.rd.frame h.chg) (fun k hk hm => by have := hd.o1 k hk; simp at hm; omega) A' hA).mono ?_
  rintro e w' ⟨rfl, hb', hcu, hc'⟩
  rw [hv.2] at hcu
  refine ⟨rfl, h.lo, h.hi, h.env2 hw hc' (by simp; omega), hcu, h.chg2 hc' (by simp; omega), so, hb', h2.frame hc' (fun i hi hm => ?_)⟩
  have := (h2.lt i hi).1
  simp at hm
  omega
/-- Behind so many rebases. -/
theorem DSt.many {w W W2 : World} {B : List UInt8} {c0 : Rdr} {p A : Nat} {fs : List Fx} {bc b : Nat} (h : DSt w B c0 p A true 1 fs bc b W) (hw : Env w) {so : SlV} (hf : FB W (b + 1) so.v fs)
    {p' A' : Nat} {fs' : List Fx} {W1 : World} (hc1 : Chg [bc] W W1) (hcu : CurB W1 bc ⟨B, p', false, false⟩)
    (ho : OneP b (b + 1) { c0 with c := some ⟨bc, 0, none⟩, at_ := (A : Int), is_ := true, typ := 1, out := so } A' fs' W1 W2) : DSt w B c0 p' A' true 1 fs' bc b W2 := by
  obtain ⟨so2, b2, f2, c2, _⟩ := ho
  have hb := h.hi
  have hS : ∀ i ∈ b :: so.v.ownBlock.toList, bc < i := fun i hi => by
    rcases List.mem_cons.1 hi with e | e
    · omega
    · have := (hf.lt i (by simpa using e)).1; omega
  have h1 := h.took hw hc1 hcu
  exact ⟨h.lo, h.hi, h1.env2 hw c2 (fun i hi => Nat.le_of_lt (hS i hi)), hcu.far2 c2 hS, h1.chg2 c2 (fun i hi => Nat.le_of_lt (hS i hi)), so2, b2, f2⟩
/-- So many rebases at once, of an opcode's own number. -/
theorem DSt.imm5 {w W : World} {B : List UInt8} {c0 : Rdr} {p A : Nat} {fs : List Fx} {bc b : Nat} (h : DSt w B c0 p A true 1 fs bc b W) (hw : Env w) {ls : List Seg} {l : List UInt8} (hd : DIn w c0 ls l) (n : Nat) (hi : n < 256)
    (hA2 : A + 8 * n < 18446744073709551616) (hwr : ∀ j, j < n → writS ls ((A + 8 * j : Nat) : Int) 8 = true) (hfs : fs.length + n ≤ 20000) (hn : n ≠ 0) :
    Calls Tryz.prog 26 #[.pointer (some ⟨b, 0, none⟩), .int .u8 5, .int .u8 n] W fun e w' => e = .returned (.int .i64 0) ∧ DSt w B c0 p (A + 8 * n) true 1 (fs ++ rebW ls l A n) bc b w' := by
  obtain ⟨so, h1, h2⟩ := h.box
  have hlt := h.lt
  have hb := h.hi
  have hlo := h.lo
  refine step_imm b bc _ n _ rfl rfl (fun w' => DSt w B c0 p (A + 8 * n) true 1 (fs ++ rebW ls l A n) bc b w') rfl W h.cur rfl h1 hi (fun W1 hc1 => ?_)
  have hs := h.chg.then hc1
  refine (many_ok b (b + 1) _ A n rfl hA2 ls hd.hls hwr l hd.hl fs hfs hn W1 (h1.frame hc1) (hd.rd.frame hs) (hd.sl.frame hs) (h2.pure hc1) (by omega) (by have := hc1.size; omega) (fun k hk => by have := hd.o1 k hk; omega) (fun k hk => by have := hd.o2 k hk; omega)).mono ?_
  rintro e w2 ⟨rfl, ho⟩
  exact ⟨rfl, h.many hw h2 hc1.add (h.cur.frame hc1) ho⟩
/-- So many rebases at once, of a number behind the opcode. -/
theorem DSt.num6 {w W : World} {B : List UInt8} {c0 : Rdr} {p A : Nat} {fs : List Fx} {bc b : Nat} (h : DSt w B c0 p A true 1 fs bc b W) (hw : Env w) {ls : List Seg} {l : List UInt8} (hd : DIn w c0 ls l) (imm : Nat) {n p' : Nat}
    (hv : lebV ulebR ⟨B, p, false, false⟩ = n ∧ lebS ulebR ⟨B, p, false, false⟩ = ⟨B, p', false, false⟩)
    (hA2 : A + 8 * n < 18446744073709551616) (hwr : ∀ j, j < n → writS ls ((A + 8 * j : Nat) : Int) 8 = true) (hfs : fs.length + n ≤ 20000) :
    Calls Tryz.prog 26 #[.pointer (some ⟨b, 0, none⟩), .int .u8 6, .int .u8 imm] W fun e w' => e = .returned (.int .i64 0) ∧ DSt w B c0 p' (A + 8 * n) true 1 (fs ++ rebW ls l A n) bc b w' := by
  obtain ⟨so, h1, h2⟩ := h.box
  have hlt := h.lt
  have hb := h.hi
  have hlo := h.lo
  refine (step_num b bc _ imm n _ rfl rfl (fun q w' => q = 0 ∧ DSt w B c0 p' (A + 8 * n) true 1 (fs ++ rebW ls l A n) bc b w') rfl W h.env h.cur (by omega) (by rw [hv.2]) hv.1 h1 (fun W1 hc1 hcu => ?_)).mono ?_
  · rw [hv.2] at hcu
    have hs := h.chg2 hc1 (by simp)
    have f2 := h2.frame hc1 (fun i hi hm => by have := (h2.lt i hi).1; simp at hm; omega)
    have b2 := h1.frameS hc1 (by simp; omega)
    by_cases hn : n = 0
    · subst hn
      refine (many_none b 0 W1).mono ?_
      rintro e w2 ⟨rfl, hc2⟩
      refine ⟨0, rfl, rfl, ?_⟩
      have h3 := h.took hw (hc1.then hc2) (hcu.frame hc2)
      simpa [rebW] using h3
    · refine (many_ok b (b + 1) _ A n rfl hA2 ls hd.hls hwr l hd.hl fs hfs hn W1 b2 (hd.rd.frame hs) (hd.sl.frame hs) f2 (by omega) (by have := hc1.size; omega) (fun k hk => by have := hd.o1 k hk; omega) (fun k hk => by have := hd.o2 k hk; omega)).mono ?_
      rintro e w2 ⟨rfl, ho⟩
      exact ⟨0, rfl, rfl, h.many hw h2 hc1 hcu ho⟩
  · rintro e w2 ⟨q, rfl, rfl, h3⟩
    exact ⟨rfl, h3⟩
end Go.Proofs.YtaipelkegemoeaaGreatDoor
