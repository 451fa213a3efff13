/- Lemmas, laid together: part 26 of 35. Conditions: none but each lemma's own. -/
import Derived.Test.YtlblcbgmmfjdjaaGreatDoorJ20
import Derived.Test.YtlblcbgmmfjdjaaGreatDoorJ6
import Derived.Test.YtlblcbgmmfjdjaaGreatDoorJ25
import Derived.Test.YtlblcbgmmfjdjaaGreatDoorJ22
import Derived.Test.YtlblcbgmmfjdjaaGreatDoorJ23
/- rebase.Decode, along a row of states. -/
namespace Go.Proofs.YtlblcbgmmfjdjaaGreatDoor
open Go.RowKit
set_option maxRecDepth 100000

theorem rdr_build (c : Option Addr) (sl : SlV) (m : Img) (w : World) : (Instr.build 51 #[(0, .pointer c), (1, sl.v), (2, imgL.val m)]).run Tryz.prog w = .ok (rdrL.val { Rdr.zero with c := c, sl := sl, m := m }) w := by kernel_rfl
theorem CurB.cell1 {w : World} {b : Nat} {s : CS} (h : CurB w b s) : w.cell? ⟨b, 1, none⟩ = some (.int .i64 s.at_) := by
  obtain ⟨a, n, cap, hb, _⟩ := h
  have := cell_of_heap hb 1
  simpa using this
theorem and15b (x : Nat) (h : x < 256) : bits .and .u8 (x : Int) 15 = ((x % 16 : Nat) : Int) := by
  have := u8_and_nat x 15 h (by decide)
  rw [show ((15 : Nat) : Int) = 15 from rfl] at this
  rw [this, show (15 : Nat) = 2 ^ 4 - 1 from rfl, Nat.and_two_pow_sub_one_eq_mod]
/-- A row of states, N of them behind the first one, and what ends it. -/
structure DRow (w : World) (B : List UInt8) (c0 : Rdr) (P op imm : Nat → Nat) (N : Nat) (q : Int) (K : Nat → Nat → Nat → SlV → World → Prop) (St : Nat → Nat → Nat → World → Prop) : Prop where
  start : ∀ bc b W, w.heap.size ≤ bc → bc < b → CurB W bc ⟨B, 0, false, false⟩ → rdrL.Box W b { c0 with c := some ⟨bc, 0, none⟩ } → Chg [] w W → St bc b 0 W
  p0 : P 0 = 0
  is_ : ∀ bc b i W, St bc b i W → CurB W bc ⟨B, P i, false, false⟩ ∧ Chg [] w W ∧ bc < b ∧ ∃ r, rdrL.Box W b r ∧ r.c = some ⟨bc, 0, none⟩ ∧ K bc b i r.out W
  le : ∀ i, P i ≤ B.length
  lt : ∀ i, i < N → P i < B.length ∧ P i < P (i + 1)
  byte : ∀ i, i ≤ N → P i < B.length → (B.getD (P i) 0).toNat = 16 * op i + imm i ∧ op i < 16 ∧ imm i < 16
  opc : ∀ i, i < N → op i ≠ 0
  step : ∀ bc b i W0 W, i < N → St bc b i W0 → Chg [bc] W0 W → CurB W bc ⟨B, P i + 1, false, false⟩ → Calls Tryz.prog 11 #[.pointer (some ⟨b, 0, none⟩), .int .u8 (op i), .int .u8 (imm i)] W fun e w' => e = .returned (.int .i64 0) ∧ St bc b (i + 1) w'
  fin : (q = 0 ∧ (P N < B.length → op N = 0)) ∨ (q ≠ 0 ∧ P N < B.length ∧ op N ≠ 0 ∧ ∀ bc b W0 W, St bc b N W0 → Chg [bc] W0 W → CurB W bc ⟨B, P N + 1, false, false⟩ → Calls Tryz.prog 11 #[.pointer (some ⟨b, 0, none⟩), .int .u8 (op N), .int .u8 (imm N)] W fun e w' => e = .returned (.int .i64 q) ∧ Chg [] w w')
set_option maxHeartbeats 4000000 in
theorem Decode_row (slv : SlV) (m : Img) (stv : Value) (B : List UInt8) (hB : B.length ≤ 140737488355328) (w : World) (hst : Rd w stv (bytesV B)) (P op imm : Nat → Nat) (N : Nat) (q : Int) (K : Nat → Nat → Nat → SlV → World → Prop) (St : Nat → Nat → Nat → World → Prop)
    (hd : DRow w B { Rdr.zero with sl := slv, m := m } P op imm N q K St) :
    Calls Tryz.prog 5 #[slv.v, imgL.val m, stv] w fun e w' => ∃ so : SlV, e = .returned (.tuple #[so.v, .int .i64 q]) ∧ Chg [] w w' ∧ (q ≠ 0 → so = ⟨none, 0, 0⟩) ∧ (q = 0 → ∃ bc b W0, St bc b N W0 ∧ K bc b N so W0 ∧ bc < b ∧ w.heap.size ≤ bc ∧ Chg [bc] W0 w') := by
  have HNW := Lib.hid (fun w hv => New_cur stv B false w hv hB)
  have Hst := Lib.hid hst
  have Hd := Lib.hid hd
  clear hst hd
  go_enter Tryz.func5, Tryz.ntmps5
  go_wp2_with ((with_reducible refine Lay.bxL (L := imgL) 33 m ?_ ?_); exact rfl; intro W1 bi ebi cbi xbi; replace ebi := Lib.hid ebi; replace cbi := Lib.hid cbi; replace xbi := Lib.hid xbi; refine Hid.out ?_)
  refine Lib.hid ?_
  go_upto_region 1 with fail
  refine wp_region_noPanic ?_
  refine wp_region_held_drew (S := fun w' => Chg [] W1 w') (by kernel_rfl) ((Chg.refl _ _).drew) (fun hHeld => ?_)
  refine take_read (i := 0) (v := ?_) (by simp only [List.getElem?_toArray, List.getElem?_cons_zero]; rfl) (by kernel_rfl) (by kernel_rfl) (by kernel_rfl) (fun _ _ _ h => h) hHeld ?_ ?_
  rotate_left
  · intro w hSw
    go_simp
    try with_reducible rfl
  try simp only [Act.put, List.setIfInBounds_toArray, List.set_cons_zero, List.set_cons_succ]
  refine take_read (i := 2) (v := ?_) (by simp only [List.getElem?_toArray, List.getElem?_cons_succ, List.getElem?_cons_zero]; rfl) (by kernel_rfl) (by kernel_rfl) (by kernel_rfl) (fun _ _ _ h => h) hHeld ?_ ?_
  rotate_left
  · intro w hSw
    go_simp
    try with_reducible rfl
  try simp only [Act.put, List.setIfInBounds_toArray, List.set_cons_zero, List.set_cons_succ]
  refine take_read (i := 3) (v := ?_) (by simp only [List.getElem?_toArray, List.getElem?_cons_succ, List.getElem?_cons_zero]; rfl) (by kernel_rfl) (by kernel_rfl) (by kernel_rfl) (fun _ _ _ h => h) hHeld ?_ ?_
  rotate_left
  · intro w hSw
    refine Lay.read_ld Tryz.tImg ((xbi.out.frame hSw).in) ?_ ?_
    exact rfl
    exact rfl
  try simp only [Act.put, List.setIfInBounds_toArray, List.set_cons_zero, List.set_cons_succ]
  refine wpAnyH_ready (rs := [1]) (by kernel_rfl) (by simp) ?_
  refine AllReadyH.cons rfl (fun K hK => ?_) AllReadyH.nil
  go_simp
  refine (HNW.out _ (Hst.out.frame (cbi.out.then hHeld) (fun _ _ hm => by cases hm))).mono ?_
  rintro e W2 ⟨bc, rfl, hle, hcur, hc⟩
  have A2 : Hid (Chg [] W1 W2) := Lib.hid (hHeld.then hc)
  have CU2 := Lib.hid hcur
  clear hcur
  clear hc
  refine hK.out _ _ A2.out (fun hHeld2 => ?_)
  clear hK hHeld K
  have hHeld := hHeld2
  clear hHeld2
  try (unfold Act.put; simp only [List.setIfInBounds_toArray, List.set_cons_zero, List.set_cons_succ])
  refine take_read (i := 4) (v := ?_) (by simp only [List.getElem?_toArray, List.getElem?_cons_succ, List.getElem?_cons_zero]; rfl) (by kernel_rfl) (by kernel_rfl) (by kernel_rfl) (fun _ _ _ h => h) hHeld ?_ ?_
  rotate_left
  · intro w hSw
    refine Lay.read_bd (xs := [(0, .tmp 12), (1, .tmp 13), (2, .tmp 14)]) ?_ ?_
    exact rfl
    exact rdr_build (some ⟨bc, 0, none⟩) slv m _
  try simp only [Act.put, List.setIfInBounds_toArray, List.set_cons_zero, List.set_cons_succ]
  refine wpAnyH_ready (rs := [5]) (by kernel_rfl) (by simp) ?_
  refine AllReadyH.cons (by simp only [List.getElem?_toArray, List.getElem?_cons_succ, List.getElem?_cons_zero]; rfl) (fun K hK => ?_) AllReadyH.nil
  refine Lay.armBx (L := rdrL) rfl _ rfl { Rdr.zero with c := some ⟨bc, 0, none⟩, sl := slv, m := m } rfl (fun W3 b hbm hcW hbox => ?_)
  have A3 : Hid (Chg [] W1 W3) := Lib.hid (hHeld.then hcW)
  have EB := Lib.hid hbm
  have CW := Lib.hid hcW
  have BX3 := Lib.hid hbox
  clear hbm hcW hbox
  refine hK.out _ _ A3.out (fun hHeld2 => ?_)
  clear hK hHeld K
  have hHeld := hHeld2
  clear hHeld2
  try (unfold Act.put; simp only [List.setIfInBounds_toArray, List.set_cons_zero, List.set_cons_succ])
  refine take_read (i := 6) (v := ?_) (by simp only [List.getElem?_toArray, List.getElem?_cons_succ, List.getElem?_cons_zero]; rfl) (by kernel_rfl) (by kernel_rfl) (by kernel_rfl) (fun _ _ _ h => h) hHeld ?_ ?_
  rotate_left
  · intro w hSw
    go_simp
    try with_reducible rfl
  try simp only [Act.put, List.setIfInBounds_toArray, List.set_cons_zero, List.set_cons_succ]
  refine wpAnyH_done (by kernel_rfl) ?_ _
  refine NoPanic.normal ?_
  have hbc : bc < b := by have := CU2.out.lt; have := EB.out; omega
  have hle1 : w.heap.size ≤ bc := Nat.le_trans cbi.out.size (Nat.le_trans ((Chg.refl [] W1).drew).size hle)
  have ST0 : Hid (St bc b 0 W3) := Lib.hid (Hd.out.start bc b W3 hle1 hbc (CU2.out.frame CW.out) BX3.out (cbi.out.then A3.out))
  clear A2 CU2 hHeld A3 EB CW BX3 hle
  go_wp2_with fail
  go_loopw [] (fun wr => ∃ i : Nat, i ≤ N ∧ St bc b i wr) (fun wr => match wr.cell? ⟨bc, 1, none⟩ with | some (.int _ k) => B.length - k.toNat | _ => 0)
  case atStart => exact ⟨0, Nat.zero_le _, ST0.out⟩
  case round =>
    obtain ⟨i, hi, hst⟩ := hrel
    obtain ⟨hc, hC, _, r, hbx, hrc, hk⟩ := Hd.out.is_ bc b i wr hst
    have x0 := Rdr.c_c hbx
    rw [hrc] at x0
    have ST := Lib.hid hst
    have CU := Lib.hid hc
    have CW := Lib.hid hC
    have BX := Lib.hid hbx
    have KK := Lib.hid hk
    clear hst hc hC hbx hk
    obtain ⟨d, hdd⟩ : ∃ d : Int, (B.length : Int) - (P i : Nat) = d := ⟨_, rfl⟩
    have HLF := Lib.hid (Left_cur bc ⟨B, P i, false, false⟩ wr CU.out)
    dsimp only at HLF
    rw [hdd] at HLF
    by_cases hl : P i < B.length
    · have hgt : decide ((0 : Int) < d) = true := by simp; omega
      obtain ⟨hby, ho1, hi1⟩ := Hd.out.byte i hi hl
      obtain ⟨x, hx⟩ : ∃ x : Nat, (B.getD (P i) 0).toNat = x := ⟨_, rfl⟩
      have hx256 : x < 256 := by rw [← hx]; exact (B.getD (P i) 0).toNat_lt
      have hnv : numberV ⟨B, P i, false, false⟩ 1 = x := by rw [← hx]; exact numberV_one rfl hl
      have hns : numberS ⟨B, P i, false, false⟩ 1 = ⟨B, P i + 1, false, false⟩ := by
        unfold numberS
        rw [show okSize 1 = true from rfl, if_pos rfl]
        unfold takeS
        rw [canTake_of rfl (by omega) (by dsimp only; omega)]
        rfl
      have HNM := Lib.hid (fun w hc => Number_cur bc ⟨B, P i, false, false⟩ 1 w hc)
      rw [hnv, hns] at HNM
      have hw8 : IntKind.u8.wrap (x : Int) = (x : Int) := by rw [IntKind.wrap_u8]; omega
      rw [hx] at hby
      obtain ⟨o, ho⟩ : ∃ o : Nat, op i = o := ⟨_, rfl⟩
      obtain ⟨mm, hmm⟩ : ∃ mm : Nat, imm i = mm := ⟨_, rfl⟩
      rw [ho, hmm] at hby
      rw [ho] at ho1
      rw [hmm] at hi1
      have hs : (x : Int) / 16 = (o : Int) := by omega
      have ha : bits .and .u8 (x : Int) 15 = (mm : Int) := by rw [and15b x hx256]; omega
      by_cases hoz : o = 0
      · have hN : i = N := by
          rcases Nat.lt_or_ge i N with h | h
          · exact absurd (ho.trans hoz) (Hd.out.opc i h)
          · omega
        have hq : q = 0 := by
          rcases Hd.out.fin with h | h
          · exact h.1
          · exact absurd (ho.trans hoz) (by rw [hN]; exact h.2.2.1)
        subst hN
        have hs0 : (x : Int) / 16 = 0 := by omega
        have Hby := Lib.hid hby
        have Hns := Lib.hid hns
        have Hnv := Lib.hid hnv
        have Hx := Lib.hid hx
        have Hdd := Lib.hid hdd
        have Ho := Lib.hid ho
        have Hmm := Lib.hid hmm
        have Hs := Lib.hid hs
        have Ha := Lib.hid ha
        have Hoz := Lib.hid hoz
        have Hq := Lib.hid hq
        clear hby hns hnv hx hdd ho hmm hs ha hoz hq
        go_wp2_with fail
        refine (HLF.out).mono ?_
        rintro e W4 ⟨rfl, hd⟩
        have C4 : Hid (Chg [] wr W4) := Lib.hid ((Chg.refl [] wr).dr hd)
        clear hd
        replace x0 := C4.out.cell x0 (by simp)
        go_wp2_with fail
        refine (HNM.out _ (CU.out.frame C4.out)).mono ?_
        rintro e W5 ⟨rfl, hc5, h5⟩
        have C5 : Hid (Chg [bc] wr W5) := Lib.hid (C4.out.add.same h5)
        have CU5 := Lib.hid hc5
        clear hc5
        clear x0 h5
        have B5 := Lib.hid (BX.out.frameS C5.out (by simp; omega))
        have x29 := Rdr.c_out B5.out
        go_wp2
        go_ret2
        exact ⟨r.out, by rw [Hq.out]; rfl, CW.out.trans C5.out (fun k hk hkw => by simp at hk; omega), fun h => absurd Hq.out h, fun _ => ⟨bc, b, wr, ST.out, KK.out, hbc, hle1, C5.out⟩⟩
      · have ho0 : ((o : Int) == 0) = false := by simp; omega
        by_cases hN : i < N
        · have hst := fun W5 => Hd.out.step bc b i wr W5 hN ST.out
          have hlt := (Hd.out.lt i hN).2
          rw [ho, hmm] at hst
          have Hby := Lib.hid hby
          have Hns := Lib.hid hns
          have Hnv := Lib.hid hnv
          have Hx := Lib.hid hx
          have Hdd := Lib.hid hdd
          have Ho := Lib.hid ho
          have Hmm := Lib.hid hmm
          have Hoz := Lib.hid hoz
          have HST := Lib.hid hst
          clear hby hns hnv hx hdd ho hmm hoz hst
          go_wp2_with fail
          refine (HLF.out).mono ?_
          rintro e W4 ⟨rfl, hd⟩
          have C4 : Hid (Chg [] wr W4) := Lib.hid ((Chg.refl [] wr).dr hd)
          clear hd
          replace x0 := C4.out.cell x0 (by simp)
          go_wp2_with fail
          refine (HNM.out _ (CU.out.frame C4.out)).mono ?_
          rintro e W5 ⟨rfl, hc5, h5⟩
          have C5 : Hid (Chg [bc] wr W5) := Lib.hid (C4.out.add.same h5)
          have CU5 := Lib.hid hc5
          clear hc5
          clear x0 h5
          go_wp2_with fail
          refine (HST.out _ C5.out CU5.out).mono ?_
          rintro e W6 ⟨rfl, h6⟩
          have H6 := Lib.hid h6
          clear h6
          go_wp2
          go_roundw
          case rel => exact ⟨i + 1, hN, H6.out⟩
          case measure =>
            have h1 := (Hd.out.is_ bc b (i + 1) _ H6.out).1.cell1
            have h2 := CU.out.cell1
            have h3 := Hd.out.le (i + 1)
            rw [h1, h2]
            simp
            omega
        · have hN : i = N := by omega
          subst hN
          obtain ⟨hq, _, _, hst⟩ : q ≠ 0 ∧ P i < B.length ∧ op i ≠ 0 ∧ ∀ bc b W0 W, St bc b i W0 → Chg [bc] W0 W → CurB W bc ⟨B, P i + 1, false, false⟩ → Calls Tryz.prog 11 #[.pointer (some ⟨b, 0, none⟩), .int .u8 (op i), .int .u8 (imm i)] W fun e w' => e = .returned (.int .i64 q) ∧ Chg [] w w' := by
            rcases Hd.out.fin with h | h
            · exact absurd (ho.symm.trans (h.2 hl)) hoz
            · exact h
          rw [ho, hmm] at hst
          replace hst := fun W5 => hst bc b wr W5 ST.out
          have hqb : (q == 0) = false := by simpa using hq
          have Hby := Lib.hid hby
          have Hns := Lib.hid hns
          have Hnv := Lib.hid hnv
          have Hx := Lib.hid hx
          have Hdd := Lib.hid hdd
          have Ho := Lib.hid ho
          have Hmm := Lib.hid hmm
          have Hoz := Lib.hid hoz
          have HST := Lib.hid hst
          have Hq := Lib.hid hq
          clear hby hns hnv hx hdd ho hmm hoz hst hq
          go_wp2_with fail
          refine (HLF.out).mono ?_
          rintro e W4 ⟨rfl, hd⟩
          have C4 : Hid (Chg [] wr W4) := Lib.hid ((Chg.refl [] wr).dr hd)
          clear hd
          replace x0 := C4.out.cell x0 (by simp)
          go_wp2_with fail
          refine (HNM.out _ (CU.out.frame C4.out)).mono ?_
          rintro e W5 ⟨rfl, hc5, h5⟩
          have C5 : Hid (Chg [bc] wr W5) := Lib.hid (C4.out.add.same h5)
          have CU5 := Lib.hid hc5
          clear hc5
          clear x0 h5
          go_wp2_with fail
          refine (HST.out _ C5.out CU5.out).mono ?_
          rintro e W6 ⟨rfl, h6⟩
          have H6 := Lib.hid h6
          clear h6
          go_wp2
          go_ret2
          exact ⟨⟨none, 0, 0⟩, rfl, H6.out, fun _ => rfl, fun h => absurd h Hq.out⟩
    · have hgt : decide ((0 : Int) < d) = false := by simp; omega
      have hN : i = N := by
        rcases Nat.lt_or_ge i N with h | h
        · exact absurd (Hd.out.lt i h).1 hl
        · omega
      subst hN
      have hq : q = 0 := by
        rcases Hd.out.fin with h | h
        · exact h.1
        · exact absurd h.2.1 hl
      have Hdd := Lib.hid hdd
      have Hq := Lib.hid hq
      clear hdd hq
      go_wp2_with fail
      refine (HLF.out).mono ?_
      rintro e W4 ⟨rfl, hd⟩
      have C4 : Hid (Chg [] wr W4) := Lib.hid ((Chg.refl [] wr).dr hd)
      clear hd x0
      have x29 := Rdr.c_out (BX.out.frame C4.out)
      go_wp2
      go_ret2
      exact ⟨r.out, by rw [Hq.out]; rfl, CW.out.then C4.out, fun h => absurd Hq.out h, fun _ => ⟨bc, b, wr, ST.out, KK.out, hbc, hle1, C4.out.add⟩⟩
end Go.Proofs.YtlblcbgmmfjdjaaGreatDoor
