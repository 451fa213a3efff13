/- Lemmas, laid together: part 19 of 41. Conditions: none but each lemma's own. -/
import Derived.Test.YtkomocgodljecaaGreatDoorK18
import Derived.Test.YtkomocgodljecaaGreatDoorK13
/- bind.Decode, along a row of states. -/
namespace Go.Proofs.YtkomocgodljecaaGreatDoor
open Go.RowKit
set_option maxRecDepth 100000

def brd0 (bc : Nat) (m : Img) : Brd := { Brd.zero with c := some ⟨bc, 0, none⟩, m := m, kind := 1, f := { Fx.zero with kind := 2 }, typ := 1 }
theorem fx_build2 (w : World) : (Instr.build 53 #[(1, .int .i64 2)]).run Tryz.prog w = .ok (fxl.val { Fx.zero with kind := 2 }) w := by kernel_rfl
theorem brd_build (c : Option Addr) (m : Img) (w : World) : (Instr.build 70 #[(0, .pointer c), (1, imgL.val m), (2, .int .i64 1), (4, fxl.val { Fx.zero with kind := 2 }), (6, .int .u8 1)]).run Tryz.prog w = .ok (brdL.val { Brd.zero with c := c, m := m, kind := 1, f := { Fx.zero with kind := 2 }, typ := 1 }) w := by kernel_rfl
theorem CurB.cell1b {w : World} {b : Nat} {s : CS} (h : CurB w b s) : w.cell? ⟨b, 1, none⟩ = some (.int .i64 s.at_) := by
  obtain ⟨a, n, cap, hb, _⟩ := h
  have := cell_of_heap hb 1
  simpa using this
theorem and15c (x : Nat) (h : x < 256) : bits .and .u8 (x : Int) 15 = ((x % 16 : Nat) : Int) := by
  have := u8_and_nat x 15 h (by decide)
  rw [show ((15 : Nat) : Int) = 15 from rfl] at this
  rw [this, show (15 : Nat) = 2 ^ 4 - 1 from rfl, Nat.and_two_pow_sub_one_eq_mod]
def curM (L : Nat) (v : Option Value) : Nat := match v with | some (.int _ k) => L - k.toNat | _ => 0
theorem curM_some (L : Nat) (K : IntKind) (n : Nat) : curM L (some (.int K (n : Int))) = L - n := rfl
/-- A row of states, N of them behind the first one, and what ends it. -/
structure BRow (w : World) (B : List UInt8) (m : Img) (P op imm fn : Nat → Nat) (N : Nat) (q : Int) (K : Nat → Nat → Nat → SlV → World → Prop) (St : Nat → Nat → Nat → World → Prop) : Prop where
  start : ∀ bc b W, w.heap.size ≤ bc → bc < b → CurB W bc ⟨B, 0, false, false⟩ → brdL.Box W b (brd0 bc m) → Chg [] w W → St bc b 0 W
  p0 : P 0 = 0
  pure : ∀ bc b i W W', St bc b i W → Chg [] W W' → St bc b i W'
  pureK : ∀ bc b i so W W', K bc b i so W → Chg [] W W' → K bc b i so W'
  is_ : ∀ bc b i W, St bc b i W → CurB W bc ⟨B, P i, false, false⟩ ∧ Chg [] w W ∧ bc < b ∧ w.heap.size ≤ bc ∧ ∃ r, brdL.Box W b r ∧ r.c = some ⟨bc, 0, none⟩ ∧ (P i < B.length → r.ended = false) ∧ K bc b i r.out W
  le : ∀ i, P i ≤ B.length
  lt : ∀ i, i < N → P i < B.length ∧ P i < P (i + 1)
  byte : ∀ i, i ≤ N → P i < B.length → (B.getD (P i) 0).toNat = 16 * op i + imm i ∧ op i < 16 ∧ imm i < 16
  fnOf : ∀ i, i ≤ N → P i < B.length → (fnC true)[op i]? = some (.func (.func (fn i)) #[] #[]) ∧ ∀ args W, (callFunc (fn i) args).run Tryz.prog W = .ok (.enter (fn i) args) W
  step : ∀ bc b i W0 W1, i < N → St bc b i W0 → Chg [bc] W0 W1 → CurB W1 bc ⟨B, P i + 1, false, false⟩ → Calls Tryz.prog (fn i) #[.pointer (some ⟨b, 0, none⟩)] (W1.setCell ⟨b, 26, none⟩ (.int .u8 (imm i))) fun e w' => e = .returned (.tuple #[]) ∧ St bc b (i + 1) w' ∧ KeepF (W1.setCell ⟨b, 26, none⟩ (.int .u8 (imm i))) w'
  fin : (q = 0 ∧ P N = B.length) ∨ (q ≠ 0 ∧ P N < B.length ∧ ∀ bc b W0 W1, St bc b N W0 → Chg [bc] W0 W1 → CurB W1 bc ⟨B, P N + 1, false, false⟩ → Calls Tryz.prog (fn N) #[.pointer (some ⟨b, 0, none⟩)] (W1.setCell ⟨b, 26, none⟩ (.int .u8 (imm N))) fun e w' => e = stopB q ∧ Chg [] w w')
theorem results2B {P : Program} {fn : Func} {t u : Tmp} {T T2 : TypeId} {tmps : Array Value} {p q : Addr} {v v2 : Value} {w : World} (hr : fn.results = #[.cell t T, .cell u T2]) (h1 : tmps.getD t undef = .pointer (some p)) (h2 : tmps.getD u undef = .pointer (some q)) (l1 : (loadVar T p).run P w = .ok v w) (l2 : (loadVar T2 q).run P w = .ok v2 w) : (results fn tmps).run P w = .ok (.tuple #[v, v2]) w := by
  rw [Array.getD_eq_getD_getElem?] at h1 h2
  simp [results, hr, h1, h2, asAddr, l1, l2]
theorem load_errB {w : World} {p : Addr} {n : Int} (h : w.cell? p = some (.int .i64 n)) : (loadVar 35 p).run Tryz.prog w = .ok (.int .i64 n) w := by
  simp [loadVar, Tryz.isAgg35, h]
theorem load_slB {w : World} {p : Addr} {a : Option Addr} {n c : Nat} (h : w.cell? p = some (.slice a n c)) : (loadVar 31 p).run Tryz.prog w = .ok (.slice a n c) w := by
  simp [loadVar, Tryz.isAgg31, h]
set_option maxHeartbeats 8000000 in
theorem Decode_rowB (m : Img) (stv : Value) (B : List UInt8) (hB : B.length ≤ 140737488355328) (w : World) (hst : Rd w stv (bytesV B)) (P op imm fn : Nat → Nat) (N : Nat) (q : Int) (K : World → Nat → Nat → Nat → SlV → World → Prop) (St : World → Nat → Nat → Nat → World → Prop)
    (hd : ∀ w1, Chg [] w w1 → BRow w1 B m P op imm fn N q (K w1) (St w1)) :
    Calls Tryz.prog 10 #[imgL.val m, .int .i64 1, stv] w fun e w' => ∃ so : SlV, e = .returned (.tuple #[so.v, .int .i64 q]) ∧ Chg [] w w' ∧ (q ≠ 0 → so = ⟨none, 0, 0⟩) ∧ (q = 0 → ∃ w1 bc b W0 S, Chg [] w w1 ∧ w1.heap.size ≤ bc ∧ bc < b ∧ St w1 bc b N W0 ∧ K w1 bc b N so W0 ∧ Chg S W0 w' ∧ ∀ i ∈ S, i < bc) := by
  have HNW := Lib.hid (fun w hv => New_cur stv B false w hv hB)
  have hmf : ∀ (fn : Fn) (first cap : Array Value) (w : World), (Instr.makeFunc fn first cap).run Tryz.prog w = .ok (.func fn first cap) w := fun _ _ _ _ => rfl
  have q1 := fun W => (Lay.run_eql_func (P := Tryz.prog) Tryz.underlying71 W).2.1
  have Hst := Lib.hid hst
  have Hd := Lib.hid hd
  clear hst hd
  go_enter_defers Tryz.func10, Tryz.ntmps10
  go_wp2_with ((with_reducible refine Lay.bxL (L := imgL) 30 m ?_ ?_); exact rfl; intro W1 bi ebi cbi xbi; replace ebi := Lib.hid ebi; replace cbi := Lib.hid cbi; replace xbi := Lib.hid xbi; refine Hid.out ?_)
  refine Lib.hid ?_
  go_upto_region 1 with fail
  obtain ⟨bl, hbl⟩ : ∃ x, x = W1.heap.size := ⟨_, rfl⟩
  obtain ⟨be, hbe⟩ : ∃ x, x = W1.heap.size + 1 := ⟨_, rfl⟩
  rw [← hbe, ← hbl]
  refine Lay.with_world (fun W => slcL.Box W bl ⟨none, 0, 0⟩ ∧ errL.Box W be 0 ∧ imgL.Box W bi m ∧ Chg [] w W) ⟨?_, ?_, (xbi.out.alloc _).alloc _, (cbi.out.alloc _).alloc _⟩ (fun W2 hW => ?_)
  · rw [hbl]
    exact (Lay.Box.of_alloc (L := slcL) W1 ⟨none, 0, 0⟩ 31).alloc _
  · have h := Lay.Box.of_alloc (L := errL) (W1.alloc (.cells #[.slice none 0 0] 31)) 0 35
    rw [show (W1.alloc (.cells #[.slice none 0 0] 31)).heap.size = W1.heap.size + 1 by simp] at h
    rw [hbe]
    exact h
  obtain ⟨h1, h2, h3, h4⟩ := hW
  have hne : bl ≠ be := by omega
  have hblw : w.heap.size ≤ bl := by rw [hbl]; exact cbi.out.size
  have hbew : w.heap.size ≤ be := by omega
  have L2 := Lib.hid h1
  have E2 := Lib.hid h2
  have I2 := Lib.hid h3
  have C2 := Lib.hid h4
  clear h1 h2 h3 h4
  clear hbl hbe ebi cbi xbi
  have HD : Hid (BRow W2 B m P op imm fn N q (K W2) (St W2)) := Lib.hid (Hd.out W2 C2.out)
  clear Hd
  go_upto_region 4 with fail
  refine wp_region_noPanic ?_
  refine wp_region_held_drew (S := fun w' => Chg [] W2 w') (by kernel_rfl) ((Chg.refl _ _).drew) (fun hHeld => ?_)
  refine take_read (i := 0) (v := ?_) (by simp only [List.getElem?_toArray, List.getElem?_cons_zero]; rfl) (by kernel_rfl) (by kernel_rfl) (by kernel_rfl) (fun _ _ _ h => h) hHeld ?_ ?_
  rotate_left
  · intro w hSw
    go_simp
    try with_reducible rfl
  try simp only [Act.put, List.setIfInBounds_toArray, List.set_cons_zero, List.set_cons_succ]
  refine take_read (i := 2) (v := ?_) (by simp only [List.getElem?_toArray, List.getElem?_cons_succ, List.getElem?_cons_zero]; rfl) (by kernel_rfl) (by kernel_rfl) (by kernel_rfl) (fun _ _ _ h => h) hHeld ?_ ?_
  rotate_left
  · intro w hSw
    refine Lay.read_ld Tryz.tImg ((I2.out.frame hSw).in) ?_ ?_
    exact rfl
    exact rfl
  try simp only [Act.put, List.setIfInBounds_toArray, List.set_cons_zero, List.set_cons_succ]
  refine take_read (i := 3) (v := ?_) (by simp only [List.getElem?_toArray, List.getElem?_cons_succ, List.getElem?_cons_zero]; rfl) (by kernel_rfl) (by kernel_rfl) (by kernel_rfl) (fun _ _ _ h => h) hHeld ?_ ?_
  rotate_left
  · intro w hSw
    go_simp
    try with_reducible rfl
  try simp only [Act.put, List.setIfInBounds_toArray, List.set_cons_zero, List.set_cons_succ]
  refine take_read (i := 4) (v := ?_) (by simp only [List.getElem?_toArray, List.getElem?_cons_succ, List.getElem?_cons_zero]; rfl) (by kernel_rfl) (by kernel_rfl) (by kernel_rfl) (fun _ _ _ h => h) hHeld ?_ ?_
  rotate_left
  · intro w hSw
    refine Lay.read_bd (xs := [(1, .const (.int .i64 2))]) ?_ ?_
    exact rfl
    exact fx_build2 _
  try simp only [Act.put, List.setIfInBounds_toArray, List.set_cons_zero, List.set_cons_succ]
  refine wpAnyH_ready (rs := [1]) (by kernel_rfl) (by simp) ?_
  refine AllReadyH.cons rfl (fun K hK => ?_) AllReadyH.nil
  go_simp
  refine (HNW.out _ (Hst.out.frame (C2.out.then hHeld) (fun _ _ hm => by cases hm))).mono ?_
  rintro e W3 ⟨bc, rfl, hle, hcur, hc⟩
  have A3 : Hid (Chg [] W2 W3) := Lib.hid (hHeld.then hc)
  have CU3 := Lib.hid hcur
  clear hcur
  clear hc
  refine hK.out _ _ A3.out (fun hHeld2 => ?_)
  clear hK hHeld K
  have hHeld := hHeld2
  clear hHeld2
  try (unfold Act.put; simp only [List.setIfInBounds_toArray, List.set_cons_zero, List.set_cons_succ])
  refine take_read (i := 5) (v := ?_) (by simp only [List.getElem?_toArray, List.getElem?_cons_succ, List.getElem?_cons_zero]; rfl) (by kernel_rfl) (by kernel_rfl) (by kernel_rfl) (fun _ _ _ h => h) hHeld ?_ ?_
  rotate_left
  · intro w hSw
    refine Lay.read_bd (xs := [(0, .tmp 19), (1, .tmp 20), (2, .tmp 21), (4, .tmp 22), (6, .const (.int .u8 1))]) ?_ ?_
    exact rfl
    exact brd_build (some ⟨bc, 0, none⟩) m _
  try simp only [Act.put, List.setIfInBounds_toArray, List.set_cons_zero, List.set_cons_succ]
  refine wpAnyH_ready (rs := [6]) (by kernel_rfl) (by simp) ?_
  refine AllReadyH.cons (by simp only [List.getElem?_toArray, List.getElem?_cons_succ, List.getElem?_cons_zero]; rfl) (fun K hK => ?_) AllReadyH.nil
  refine Lay.armBx (L := brdL) rfl _ rfl (brd0 bc m) rfl (fun W4 b hbm hcW hbox => ?_)
  have A4 : Hid (Chg [] W2 W4) := Lib.hid (hHeld.then hcW)
  have EB := Lib.hid hbm
  have CW := Lib.hid hcW
  have BX4 := Lib.hid hbox
  clear hbm hcW hbox
  refine hK.out _ _ A4.out (fun hHeld2 => ?_)
  clear hK hHeld K
  have hHeld := hHeld2
  clear hHeld2
  try (unfold Act.put; simp only [List.setIfInBounds_toArray, List.set_cons_zero, List.set_cons_succ])
  refine take_read (i := 7) (v := ?_) (by simp only [List.getElem?_toArray, List.getElem?_cons_succ, List.getElem?_cons_zero]; rfl) (by kernel_rfl) (by kernel_rfl) (by kernel_rfl) (fun _ _ _ h => h) hHeld ?_ ?_
  rotate_left
  · intro w hSw
    go_simp
    try with_reducible rfl
  try simp only [Act.put, List.setIfInBounds_toArray, List.set_cons_zero, List.set_cons_succ]
  refine wpAnyH_done (by kernel_rfl) ?_ _
  refine NoPanic.normal ?_
  have hbc : bc < b := by have := CU3.out.lt; have := EB.out; omega
  have hle1 : W2.heap.size ≤ bc := Nat.le_trans ((Chg.refl [] W2).drew).size hle
  have ST0 : Hid (St W2 bc b 0 W4) := Lib.hid (HD.out.start bc b W4 hle1 hbc (CU3.out.frame CW.out) BX4.out A4.out)
  clear A3 CU3 hHeld A4 EB CW BX4 hle
  go_wp2_with fail
  refine (steps_any _).mono ?_
  rintro e W5 ⟨rfl, h5⟩
  have ST1 := Lib.hid (HD.out.pure bc b 0 _ _ ST0.out h5)
  clear h5 ST0
  go_wp2_with ((with_reducible refine Lay.alL Tryz.tFns ?_); intro W6 p0 ep0 cp0 xp0; replace ep0 := Lib.hid ep0; replace cp0 := Lib.hid cp0; replace xp0 := Lib.hid xp0; refine Hid.out ?_)
  refine Lib.hid ?_
  go_wp2_with ((with_reducible refine Lay.stL Tryz.tFns true (xp0.out) ?_ ?_ ?_); exact rfl; exact rfl; intro W7 cW7 xW7; replace cW7 := Lib.hid cW7; replace xW7 := Lib.hid xW7; refine Hid.out ?_)
  refine Lib.hid ?_
  have ST2 := Lib.hid (HD.out.pure bc b 0 _ _ ST1.out (cp0.out.new cW7.out (by rw [ep0.out]; exact Nat.le_refl _)))
  have F7 := Lib.hid (xW7.out)
  clear ep0 cp0 xp0 cW7 xW7 ST1
  go_wp2_with fail
  unfold Act.put
  simp only [List.setIfInBounds_toArray, List.set_cons_zero, List.set_cons_succ]
  go_loopw [9] (fun s9 wr => ∃ i p : Nat, i ≤ N ∧ s9 = .pointer (some ⟨p, 0, none⟩) ∧ fnsL.Box wr p true ∧ St W2 bc b i wr) (fun _ wr => curM B.length (wr.cell? ⟨bc, 1, none⟩))
  case atStart => exact ⟨0, _, Nat.zero_le _, rfl, F7.out, ST2.out⟩
  case round =>
    obtain ⟨i, p, hi, rfl, hfx, hst⟩ := hrel
    obtain ⟨hc, hC, _, _, r, hbx, hrc, hen, hk⟩ := HD.out.is_ bc b i wr hst
    have x0 := Brd.c_c hbx
    rw [hrc] at x0
    have ST := Lib.hid hst
    have CU := Lib.hid hc
    have CWr := Lib.hid hC
    have BX := Lib.hid hbx
    have KK := Lib.hid hk
    have FX := Lib.hid hfx
    clear hst hc hC hbx hk hfx
    obtain ⟨d, hdd⟩ : ∃ d : Int, (B.length : Int) - (P i : Nat) = d := ⟨_, rfl⟩
    have HLF := Lib.hid (Left_cur bc ⟨B, P i, false, false⟩ wr CU.out)
    dsimp only at HLF
    rw [hdd] at HLF
    by_cases hl : P i < B.length
    · have hgt : decide ((0 : Int) < d) = true := by simp; omega
      have hend := hen hl
      obtain ⟨hby, ho1, hi1⟩ := HD.out.byte i hi hl
      obtain ⟨hfo, hcf⟩ := HD.out.fnOf i hi hl
      obtain ⟨x, hx⟩ : ∃ x : Nat, (B.getD (P i) 0).toNat = x := ⟨_, rfl⟩
      have hx256 : x < 256 := by rw [← hx]; exact (B.getD (P i) 0).toNat_lt
      have hnv : numberV ⟨B, P i, false, false⟩ 1 = x := by rw [← hx]; exact numberV_one rfl hl
      have hns : numberS ⟨B, P i, false, false⟩ 1 = ⟨B, P i + 1, false, false⟩ := by
        unfold numberS
        rw [show okSize 1 = true from rfl, if_pos rfl]
        unfold takeS
        rw [canTake_of rfl (by omega) (by dsimp only; omega)]
        rfl
      have HNM := Lib.hid (fun w hc => Number_cur bc ⟨B, P i, false, false⟩ 1 w hc)
      rw [hnv, hns] at HNM
      have hw8 : IntKind.u8.wrap (x : Int) = (x : Int) := by rw [IntKind.wrap_u8]; omega
      rw [hx] at hby
      obtain ⟨o, ho⟩ : ∃ o : Nat, op i = o := ⟨_, rfl⟩
      obtain ⟨mm, hmm⟩ : ∃ mm : Nat, imm i = mm := ⟨_, rfl⟩
      obtain ⟨f, hf⟩ : ∃ f : Nat, fn i = f := ⟨_, rfl⟩
      rw [ho, hmm] at hby
      rw [ho] at ho1
      rw [hmm] at hi1
      rw [ho, hf] at hfo
      rw [hf] at hcf
      have hs : (x : Int) / 16 = (o : Int) := by omega
      have ha : bits .and .u8 (x : Int) 15 = (mm : Int) := by rw [and15c x hx256]; omega
      by_cases hN : i < N
      · have hst := fun W1 => HD.out.step bc b i wr W1 hN ST.out
        have hlt := (HD.out.lt i hN).2
        rw [hmm, hf] at hst
        have Hby := Lib.hid hby
        have Hns := Lib.hid hns
        have Hnv := Lib.hid hnv
        have Hx := Lib.hid hx
        have Hdd := Lib.hid hdd
        have Ho := Lib.hid ho
        have Hmm := Lib.hid hmm
        have HST := Lib.hid hst
        have Hf := Lib.hid hf
        have Hend := Lib.hid hend
        have Hfo := Lib.hid hfo
        clear hby hns hnv hx hdd ho hmm hst hf hend hfo
        go_wp2_with fail
        refine (HLF.out).mono ?_
        rintro e W4 ⟨rfl, hd⟩
        have C4 : Hid (Chg [] wr W4) := Lib.hid ((Chg.refl [] wr).dr hd)
        clear hd
        replace x0 := C4.out.cell x0 (by simp)
        have x37 := Brd.c_ended (BX.out.frame C4.out)
        rw [Hend.out] at x37
        go_wp2_with fail
        refine (HNM.out _ (CU.out.frame C4.out)).mono ?_
        rintro e W5 ⟨rfl, hc5, h5⟩
        have C5 : Hid (Chg [bc] wr W5) := Lib.hid (C4.out.add.same h5)
        have CU5 := Lib.hid hc5
        clear hc5
        clear x0 h5 x37
        have B5 := Lib.hid (BX.out.frameS C5.out (by simp; omega))
        have F5 : Hid (fnsL.Box W5 p true) := Lib.hid (FX.out.frameS C5.out (by simp; exact fns_ne_c CU.out FX.out))
        have x26 := Brd.c_imm B5.out
        have z26 := B5.out.frozen 26
        go_upto_region 11 with fail
        refine Lay.with_world (fun W => W = W5.setCell ⟨b, 26, none⟩ (.int .u8 mm) ∧ fnsL.Box W p true) ⟨rfl, F5.out.setCell _ _ (by show p ≠ b; exact fns_ne_b B5.out F5.out)⟩ (fun W6 hW => ?_)
        obtain ⟨hW6, hf6⟩ := hW
        have y1 : W6.cell? ⟨p, o, none⟩ = some (.func (.func f) #[] #[]) := by
          have := hf6.in o (by exact ho1)
          rw [Nat.zero_add] at this
          rw [this]
          exact Hfo.out
        have F6 := Lib.hid hf6
        have HW6 := Lib.hid hW6
        clear hf6 hW6
        clear x26 z26
        go_wp2_with fail
        refine (refuse_ok 14 _).mono ?_
        rintro e W7 ⟨rfl, hw7⟩
        subst hw7
        go_wp2_with fail
        have hst7 := HST.out W5 C5.out CU5.out
        rw [← HW6.out] at hst7
        refine hst7.mono ?_
        rintro e W8 ⟨rfl, h8, hk8⟩
        have F8 := Lib.hid (hk8 p F6.out)
        have S8 := Lib.hid h8
        clear h8
        clear hk8 y1
        go_wp2_with ((with_reducible refine Lay.ldL Tryz.tFns true (F8.out.in) ?_ ?_); exact rfl; refine Hid.out ?_)
        refine Lib.hid ?_
        go_wp2_with ((with_reducible refine Lay.alL Tryz.tFns ?_); intro W9 p9 ep9 cp9 xp9; replace ep9 := Lib.hid ep9; replace cp9 := Lib.hid cp9; replace xp9 := Lib.hid xp9; refine Hid.out ?_)
        refine Lib.hid ?_
        go_wp2_with ((with_reducible refine Lay.stL Tryz.tFns true (xp9.out) ?_ ?_ ?_); exact rfl; exact rfl; intro WA cWA xWA; replace cWA := Lib.hid cWA; replace xWA := Lib.hid xWA; refine Hid.out ?_)
        refine Lib.hid ?_
        have SA := Lib.hid (HD.out.pure bc b (i + 1) _ _ S8.out (cp9.out.new cWA.out (by rw [ep9.out]; exact Nat.le_refl _)))
        unfold Act.put
        simp only [List.setIfInBounds_toArray, List.set_cons_zero, List.set_cons_succ]
        go_wp2
        go_roundw
        case rel => exact ⟨i + 1, _, hN, rfl, xWA.out, SA.out⟩
        case measure =>
          have h1 := (HD.out.is_ bc b (i + 1) _ SA.out).1.cell1b
          have h2 := CU.out.cell1b
          have h3 := HD.out.le (i + 1)
          rw [h1, h2, curM_some, curM_some]
          dsimp only
          omega
      · have hN : i = N := by omega
        subst hN
        obtain ⟨hq, _, hst⟩ : q ≠ 0 ∧ P i < B.length ∧ ∀ bc b W0 W1, St W2 bc b i W0 → Chg [bc] W0 W1 → CurB W1 bc ⟨B, P i + 1, false, false⟩ → Calls Tryz.prog (fn i) #[.pointer (some ⟨b, 0, none⟩)] (W1.setCell ⟨b, 26, none⟩ (.int .u8 (imm i))) fun e w' => e = stopB q ∧ Chg [] W2 w' := by
          rcases HD.out.fin with h | h
          · exact absurd h.2 (Nat.ne_of_lt hl)
          · exact h
        replace hst := fun W1 => hst bc b wr W1 ST.out
        rw [hmm, hf] at hst
        have Hby := Lib.hid hby
        have Hns := Lib.hid hns
        have Hnv := Lib.hid hnv
        have Hx := Lib.hid hx
        have Hdd := Lib.hid hdd
        have Ho := Lib.hid ho
        have Hmm := Lib.hid hmm
        have HST := Lib.hid hst
        have Hf := Lib.hid hf
        have Hend := Lib.hid hend
        have Hfo := Lib.hid hfo
        have Hq := Lib.hid hq
        clear hby hns hnv hx hdd ho hmm hst hf hend hfo hq
        go_wp2_with fail
        refine (HLF.out).mono ?_
        rintro e W4 ⟨rfl, hd⟩
        have C4 : Hid (Chg [] wr W4) := Lib.hid ((Chg.refl [] wr).dr hd)
        clear hd
        replace x0 := C4.out.cell x0 (by simp)
        have x37 := Brd.c_ended (BX.out.frame C4.out)
        rw [Hend.out] at x37
        go_wp2_with fail
        refine (HNM.out _ (CU.out.frame C4.out)).mono ?_
        rintro e W5 ⟨rfl, hc5, h5⟩
        have C5 : Hid (Chg [bc] wr W5) := Lib.hid (C4.out.add.same h5)
        have CU5 := Lib.hid hc5
        clear hc5
        clear x0 h5 x37
        have B5 := Lib.hid (BX.out.frameS C5.out (by simp; omega))
        have F5 : Hid (fnsL.Box W5 p true) := Lib.hid (FX.out.frameS C5.out (by simp; exact fns_ne_c CU.out FX.out))
        have x26 := Brd.c_imm B5.out
        have z26 := B5.out.frozen 26
        go_upto_region 11 with fail
        refine Lay.with_world (fun W => W = W5.setCell ⟨b, 26, none⟩ (.int .u8 mm) ∧ fnsL.Box W p true) ⟨rfl, F5.out.setCell _ _ (by show p ≠ b; exact fns_ne_b B5.out F5.out)⟩ (fun W6 hW => ?_)
        obtain ⟨hW6, hf6⟩ := hW
        have y1 : W6.cell? ⟨p, o, none⟩ = some (.func (.func f) #[] #[]) := by
          have := hf6.in o (by exact ho1)
          rw [Nat.zero_add] at this
          rw [this]
          exact Hfo.out
        have F6 := Lib.hid hf6
        have HW6 := Lib.hid hW6
        clear hf6 hW6
        clear x26 z26
        go_wp2_with fail
        refine (refuse_ok 14 _).mono ?_
        rintro e W7 ⟨rfl, hw7⟩
        subst hw7
        go_wp2_with fail
        have hst7 := HST.out W5 C5.out CU5.out
        rw [← HW6.out] at hst7
        refine hst7.mono ?_
        rintro e W8 ⟨rfl, h8⟩
        have L8 := Lib.hid (L2.out.frame h8)
        have E8 := Lib.hid (E2.out.frame h8)
        have C8 := Lib.hid (C2.out.then h8)
        clear h8 y1
        unfold stopB
        refine leaves_cons (f := 28) (args := #[.pointer (some ⟨bl, 0, none⟩), .pointer (some ⟨be, 0, none⟩)]) (by simp) (by simp [go_sem]) ?_
        refine (dclos_stop bl be _ _ q _ L8.out E8.out hne).mono ?_
        rintro e u' W9 ⟨rfl, rfl, hl9, he9, hc9⟩
        simp only [settle]
        refine ⟨.tuple #[.slice none 0 0, .int .i64 q], results2B Tryz.results10 rfl rfl (load_slB (slcL.c hl9)) (load_errB (errL.c he9)), ⟨none, 0, 0⟩, rfl, ?_, fun _ => rfl, fun h => absurd h Hq.out⟩
        exact C8.out.trans hc9 (fun i hi hw => by simp at hi; omega)
    · have hgt : decide ((0 : Int) < d) = false := by simp; omega
      have hN : i = N := by
        rcases Nat.lt_or_ge i N with h | h
        · exact absurd (HD.out.lt i h).1 hl
        · omega
      subst hN
      have hq : q = 0 := by
        rcases HD.out.fin with h | h
        · exact h.1
        · exact absurd h.2.1 hl
      have Hdd := Lib.hid hdd
      have Hq := Lib.hid hq
      clear hdd hq
      go_wp2_with fail
      refine (HLF.out).mono ?_
      rintro e W4 ⟨rfl, hd⟩
      have C4 : Hid (Chg [] wr W4) := Lib.hid ((Chg.refl [] wr).dr hd)
      clear hd x0
      have x29 := Brd.c_out (BX.out.frame C4.out)
      have L4 := Lib.hid (L2.out.frame (CWr.out.then C4.out))
      have E4 := Lib.hid (E2.out.frame (CWr.out.then C4.out))
      have y1 := slcL.c L4.out
      have y2 := errL.c E4.out
      have z1 := L4.out.frozen 0
      have z2 := E4.out.frozen 0
      have hne2 : be ≠ bl := fun e => hne e.symm
      go_wp2
      obtain ⟨WZ, hWZ⟩ : ∃ x, x = (W4.setCell ⟨bl, 0, none⟩ (.slice r.out.a r.out.n r.out.cap)).setCell ⟨be, 0, none⟩ (.int .i64 0) := ⟨_, rfl⟩
      rw [← hWZ]
      have l1 : slcL.Box WZ bl r.out := by rw [hWZ]; exact (slcL.set L4.out r.out).setCell _ _ hne
      have e1 : errL.Box WZ be 0 := by rw [hWZ]; exact errL.set (E4.out.setCell _ _ hne2) 0
      have c1 : Chg [bl, be] W4 WZ := by rw [hWZ]; exact ((Chg.refl _ _).setCell _ _ (.inl (by simp))).setCell _ _ (.inl (by simp))
      clear hWZ y1 y2 z1 z2 x29
      refine leaves_cons (f := 28) (args := #[.pointer (some ⟨bl, 0, none⟩), .pointer (some ⟨be, 0, none⟩)]) (by simp) (by simp [go_sem]) ?_
      refine (dclos_idle _ _ _).mono ?_
      rintro e u' W9 ⟨rfl, rfl, rfl⟩
      simp only [settle, Leaves]
      have hbl2 := L2.out.lt
      have hbe2 := E2.out.lt
      refine ⟨.tuple #[.slice r.out.a r.out.n r.out.cap, .int .i64 0], results2B Tryz.results10 rfl rfl (load_slB (slcL.c l1)) (load_errB (errL.c e1)), r.out, by rw [Hq.out]; rfl, ?_, fun h => absurd Hq.out h, fun _ => ⟨W2, bc, b, W4, [bl, be], C2.out, hle1, hbc, HD.out.pure bc b i _ _ ST.out C4.out, ?_, c1, ?_⟩⟩
      · exact ((C2.out.then CWr.out).then C4.out).trans c1 (fun i hi hw => by simp at hi; omega)
      · exact HD.out.pureK bc b i r.out wr W4 KK.out C4.out
      · intro i hi
        simp at hi
        omega
end Go.Proofs.YtkomocgodljecaaGreatDoor
/- bind: many; the state of a reading. -/
namespace Go.Proofs.YtkomocgodljecaaGreatDoor
open Go.RowKit
set_option maxRecDepth 100000

theorem one_stop (q : Int) (b : Nat) (R : World → Prop) (w : World) (hm : Calls Tryz.prog 75 #[.pointer (some ⟨b, 0, none⟩), .int .u64 1, .int .u64 0] w fun e w' => e = stopB q ∧ R w') :
    Calls Tryz.prog 57 #[.pointer (some ⟨b, 0, none⟩)] w fun e w' => e = stopB q ∧ R w' := by
  have Hm := Lib.hid hm
  clear hm
  go_enter Tryz.func57, Tryz.ntmps57
  go_wp2_with fail
  refine (Hm.out).mono ?_
  rintro e W1 ⟨rfl, h1⟩
  exact ⟨rfl, rfl, h1⟩
end Go.Proofs.YtkomocgodljecaaGreatDoor
