/- Lemmas, laid together: part 42 of 46. Conditions: none but each lemma's own. -/
import Derived.Test.YtaipelkegemoeaaGreatDoorJ41
import Derived.Deep.DeepCutAuto
/- rebase.Make, whatever the list. -/
namespace Go.Proofs.YtaipelkegemoeaaGreatDoor
open Go.RowKit
set_option maxRecDepth 100000

set_option linter.unusedSimpArgs false in
set_option maxHeartbeats 8000000 in
theorem Make_any (m : Img) (ls : List Seg) (hls : SegR ls) (l : List Fx) (hl5 : l.length ≤ 100000) (hat : ∀ f ∈ l, 0 ≤ f.at_ ∧ f.at_ < 18446744073709551616) (v : Value) (w : World) (rd : segL.Rd w m.segs.v ls) (hl : FxRd w v l) :
    Calls Tryz.prog 6 #[imgL.val m, v] w (MakeP ls (setF l) w) := by
  obtain ⟨S, hS⟩ : ∃ S, S = setF l := ⟨_, rfl⟩
  have hSat : ∀ f ∈ S, 0 ≤ f.at_ ∧ f.at_ < 18446744073709551616 := fun f hf => hat f (mem_setF.1 (hS ▸ hf))
  have hSl : S.length ≤ 100000 := by have := setF_len l; rw [← hS] at this; omega
  have hSat' : ∀ k, k < S.length → 0 ≤ (S.getD k fxl.d).at_ ∧ (S.getD k fxl.d).at_ < 18446744073709551616 := fun k hk => by
    rw [List.getD_eq_getElem?_getD, List.getElem?_eq_getElem hk]
    exact hSat _ (List.getElem_mem hk)
  have HSE := Lib.hid (fun w rd => FSet_any l v w rd hl5)
  have HME := Lib.hid (fun v w rd => FMeet_any S v w rd hSl hSat)
  have HWR := Lib.hid (fun A h w rd => Writable_any m ls hls.b A 8 h w rd)
  rw [← hS] at HSE ⊢
  have HRD := Lib.hid rd
  have Hl := Lib.hid hl
  have HLS := Lib.hid hls
  have HS := Lib.hid hS
  have HSat := Lib.hid hSat
  have HAT := Lib.hid hSat'
  clear rd hl hls hS hSat hSat'
  go_enter Tryz.func6, Tryz.ntmps6
  go_wp2_with ((with_reducible refine Lay.bxL (L := imgL) 32 m ?_ ?_); exact rfl; intro W1 bi ebi cbi xbi; replace ebi := Lib.hid ebi; replace cbi := Lib.hid cbi; replace xbi := Lib.hid xbi; refine Hid.out ?_)
  refine Lib.hid ?_
  go_wp2_with fail
  refine (HSE.out _ (Hl.out.frame cbi.out)).mono ?_
  rintro e W2 ⟨v2, rfl, hb, hc⟩
  have FB2 := Lib.hid (fb_of hb)
  obtain ⟨A, C, g, rfl, hne⟩ : ∃ A C g, v2 = .slice A S.length C ∧ (S.length ≠ 0 → A = some ⟨g, 0, none⟩ ∧ W1.heap.size ≤ g ∧ g < W2.heap.size ∧ S.length ≤ C ∧ C ≤ maxLen ∧ ∀ k, k < S.length → fxl.In W2 g (k * 7) (S.getD k fxl.d)) := by
    by_cases h0 : S.length = 0
    · obtain ⟨a', c', h1, _, _⟩ := FB2.out.rd.shape
      exact ⟨a', c', 0, h1, fun h => absurd h0 h⟩
    · obtain ⟨g, cap, h1, hg0, hg1, hcp, hcm, hown, hfz, hIn⟩ := FB2.out.at h0
      exact ⟨_, cap, g, h1, fun _ => ⟨rfl, hg0, hg1, hcp, hcm, hIn⟩⟩
  have C2 : Hid (Chg [] w W2) := Lib.hid (cbi.out.then hc)
  have BI2 := Lib.hid (xbi.out.frame hc)
  have Hne := Lib.hid hne
  clear hne
  clear hb hc
  have hbi := xbi.out.lt
  go_wp2_with fail
  go_loopw [21] (fun s21 wr => ∃ k : Nat, k ≤ S.length ∧ s21 = .int .i64 (k : Int) ∧ (∀ i, i < k → (S.getD i fxl.d).kind = 1 ∧ mayR (S.getD i fxl.d) = true) ∧ Chg [] W2 wr) (fun s21 _ => S.length - (intOf s21).toNat)
  case atStart => exact ⟨0, Nat.zero_le _, rfl, fun i hi => absurd hi (Nat.not_lt_zero _), Chg.refl _ _⟩
  case round =>
    obtain ⟨k, hk, rfl, hmk, hc⟩ := hrel
    have CW := Lib.hid hc
    have Hmk := Lib.hid hmk
    clear hc hmk
    by_cases hlt : k < S.length
    · have dlt : decide ((k : Int) < (S.length : Int)) = true := decide_eq_true (by omega)
      obtain ⟨x, hx⟩ : ∃ x, x = S.getD k fxl.d := ⟨_, rfl⟩
      obtain ⟨hA, hg0, hg1, hcp, hcm, hIn⟩ := Hne.out (by omega)
      have hI := (hIn k hlt).frame CW.out
      rw [← hx] at hI
      have hka : k ≤ 100000 := by omega
      have hw1 : wrap64 ((k : Int) + 1) = (k : Int) + 1 := by unfold wrap64; omega
      subst hA
      clear hIn
      have HI := Lib.hid hI
      have Hx := Lib.hid hx
      clear hI hx
      go_wp2_with ((with_reducible refine Lay.ldL Tryz.tFx x (HI.out) ?_ ?_); exact rfl; refine Hid.out ?_)
      refine Lib.hid ?_
      go_wp2_with ((with_reducible refine Lay.alL Tryz.tFx ?_); intro W3 bx ebx cbx xbx; replace ebx := Lib.hid ebx; replace cbx := Lib.hid cbx; replace xbx := Lib.hid xbx; refine Hid.out ?_)
      refine Lib.hid ?_
      go_wp2_with ((with_reducible refine Lay.stL Tryz.tFx x (xbx.out) ?_ ?_ ?_); exact rfl; exact rfl; intro W4 cW4 xW4; replace cW4 := Lib.hid cW4; replace xW4 := Lib.hid xW4; refine Hid.out ?_)
      refine Lib.hid ?_
      have f1 : W4.cell? ⟨bx, 1, none⟩ = some (.int .i64 x.kind) := by
        have := xW4.out.in 1 (by decide)
        rw [Nat.zero_add] at this
        rw [this, show (fxl.f x)[1]? = some (.int .i64 x.kind) from rfl]
      have C4 : Hid (Chg [] W2 W4) := Lib.hid (CW.out.then (cbx.out.new cW4.out (by rw [ebx.out]; exact Nat.le_refl _)))
      by_cases hkd : x.kind = 1
      · have dk : (x.kind == 1) = true := by rw [hkd]; rfl
        have HMA := Lib.hid (fun w => MayR_any x hkd w)
        obtain ⟨q, hq⟩ : ∃ q, mayR x = q := ⟨_, rfl⟩
        rw [hq] at HMA
        go_wp2_with ((with_reducible refine Lay.ldG2 Tryz.tFx x (xW4.out.in) ?_ ?_ ?_); exact rfl; exact rfl; refine Hid.out ?_)
        refine Lib.hid ?_
        go_wp2_with fail
        refine (HMA.out _).mono ?_
        rintro e W5 ⟨rfl, h5⟩
        have C5 := Lib.hid (C4.out.then h5)
        clear h5
        cases q
        · go_wp2
          go_ret2
          exact MakeP.no (by decide) (C2.out.then C5.out)
        · go_wp2
          go_roundw
          case rel =>
            refine ⟨k + 1, hlt, by first | rfl | exact congrArg (Value.int .i64) hw1 | go_num, fun i hi => ?_, C5.out⟩
            by_cases e : i = k
            · rw [e, ← Hx.out]; exact ⟨hkd, hq⟩
            · exact Hmk.out i (by omega)
          case measure =>
            first
            | exact (show S.length - ((k : Int) + 1).toNat < S.length - (k : Int).toNat by omega)
            | (rw [hw1]; exact (show S.length - ((k : Int) + 1).toNat < S.length - (k : Int).toNat by omega))
      · have dk : (x.kind == 1) = false := by rw [beq_eq_false_iff_ne]; exact hkd
        go_wp2
        go_ret2
        exact MakeP.no (by decide) (C2.out.then C4.out)
    · obtain rfl : k = S.length := by omega
      have dlt : decide ((S.length : Int) < (S.length : Int)) = false := decide_eq_false (by omega)
      have R2 := Lib.hid ((FB2.out.pure CW.out).rd)
      go_wp2_with fail
      refine (HME.out _ _ R2.out).mono ?_
      rintro e W6 ⟨rfl, h6⟩
      have C6 := Lib.hid (CW.out.then h6)
      clear h6
      obtain ⟨q, hq⟩ : ∃ q, meetF S = q := ⟨_, rfl⟩
      rw [hq]
      cases q
      case true =>
        go_wp2
        go_ret2
        exact MakeP.no (by decide) (C2.out.then C6.out)
      by_cases hbig : S.length ≤ 20000
      case neg =>
        have db : decide ((20000 : Int) < (S.length : Int)) = true := decide_eq_true (by omega)
        go_wp2
        go_ret2
        exact MakeP.no (by decide) (C2.out.then C6.out)
      have db : decide ((20000 : Int) < (S.length : Int)) = false := decide_eq_false (by omega)
      have Hq := Lib.hid hq
      clear hq
      go_wp2_with fail
      go_loopw [43] (fun s43 wr => ∃ k : Nat, k ≤ S.length ∧ s43 = .int .i64 (k : Int) ∧ (∀ i, i < k → writS ls (S.getD i fxl.d).at_ 8 = true) ∧ Chg [] W2 wr) (fun s43 _ => S.length - (intOf s43).toNat)
      case atStart => exact ⟨0, Nat.zero_le _, rfl, fun i hi => absurd hi (Nat.not_lt_zero _), C6.out⟩
      case round =>
        clear R2 C6 CW
        clear hlt hk dlt
        obtain ⟨k, hk, rfl, hwk, hc⟩ := hrel
        have CW := Lib.hid hc
        have Hwk := Lib.hid hwk
        clear hc hwk
        by_cases hlt : k < S.length
        · have dlt : decide ((k : Int) < (S.length : Int)) = true := decide_eq_true (by omega)
          obtain ⟨x, hx⟩ : ∃ x, x = S.getD k fxl.d := ⟨_, rfl⟩
          obtain ⟨hA, hg0, hg1, hcp, hcm, hIn⟩ := Hne.out (by omega)
          have hI := (hIn k hlt).frame CW.out
          have hxa := HAT.out k hlt
          rw [← hx] at hI hxa
          have hw1 : wrap64 ((k : Int) + 1) = (k : Int) + 1 := by unfold wrap64; omega
          have HWX := Lib.hid (fun w rd => HWR.out x.at_ hxa.2 w rd)
          obtain ⟨q, hq⟩ : ∃ q, writS ls x.at_ 8 = q := ⟨_, rfl⟩
          rw [hq] at HWX
          subst hA
          clear hIn hxa
          have HI := Lib.hid hI
          have Hx := Lib.hid hx
          clear hI hx
          go_wp2_with ((with_reducible refine Lay.ldL Tryz.tFx x (HI.out) ?_ ?_); exact rfl; refine Hid.out ?_)
          refine Lib.hid ?_
          go_wp2_with ((with_reducible refine Lay.alL Tryz.tFx ?_); intro W3 bx ebx cbx xbx; replace ebx := Lib.hid ebx; replace cbx := Lib.hid cbx; replace xbx := Lib.hid xbx; refine Hid.out ?_)
          refine Lib.hid ?_
          go_wp2_with ((with_reducible refine Lay.stL Tryz.tFx x (xbx.out) ?_ ?_ ?_); exact rfl; exact rfl; intro W4 cW4 xW4; replace cW4 := Lib.hid cW4; replace xW4 := Lib.hid xW4; refine Hid.out ?_)
          refine Lib.hid ?_
          have f0 : W4.cell? ⟨bx, 0, none⟩ = some (.int .u64 x.at_) := by
            have := xW4.out.in 0 (by decide)
            rw [Nat.zero_add] at this
            rw [this]
            rfl
          have C4 : Hid (Chg [] W2 W4) := Lib.hid (CW.out.then (cbx.out.new cW4.out (by rw [ebx.out]; exact Nat.le_refl _)))
          go_wp2_with ((with_reducible refine Lay.ldL Tryz.tImg m (((BI2.out.frame C4.out).in)) ?_ ?_); exact rfl; refine Hid.out ?_)
          refine Lib.hid ?_
          go_wp2_with fail
          refine (HWX.out _ (HRD.out.frame (C2.out.then C4.out))).mono ?_
          rintro e W5 ⟨rfl, h5⟩
          have C5 := Lib.hid (C4.out.then h5)
          clear h5
          cases q
          · go_wp2
            go_ret2
            exact MakeP.no (by decide) (C2.out.then C5.out)
          · go_wp2
            go_roundw
            case rel =>
              refine ⟨k + 1, hlt, by first | rfl | exact congrArg (Value.int .i64) hw1 | go_num, fun i hi => ?_, C5.out⟩
              by_cases e : i = k
              · rw [e, ← Hx.out]; exact hq
              · exact Hwk.out i (by omega)
            case measure =>
              first
              | exact (show S.length - ((k : Int) + 1).toNat < S.length - (k : Int).toNat by omega)
              | (rw [hw1]; exact (show S.length - ((k : Int) + 1).toNat < S.length - (k : Int).toNat by omega))
        · obtain rfl : k = S.length := by omega
          have dlt : decide ((S.length : Int) < (S.length : Int)) = false := decide_eq_false (by omega)
          have hmf : ∀ (fn : Fn) (first cap : Array Value) (w : World), (Instr.makeFunc fn first cap).run Tryz.prog w = .ok (.func fn first cap) w := fun _ _ _ _ => rfl
          go_wp2_with fail
          obtain ⟨p, hp⟩ : ∃ p, p = wr.heap.size + 1 := ⟨_, rfl⟩
          obtain ⟨B0, hB0⟩ : ∃ B0, B0 = wr.heap.size := ⟨_, rfl⟩
          rw [← hp]
          obtain ⟨WB, hWB⟩ : ∃ WB, WB = (wr.alloc (.cells #[.int .u8 17] 5)).alloc (.cells #[.slice (some ⟨wr.heap.size, 0, none⟩) 1 1] 22) := ⟨_, rfl⟩
          rw [← hWB]
          have PB : Hid (svL.Box WB p ⟨some ⟨B0, 0, none⟩, 1, 1⟩) := by
            refine Lib.hid ?_
            have := Lay.Box.of_alloc (L := svL) (wr.alloc (.cells #[.int .u8 17] 5)) ⟨some ⟨B0, 0, none⟩, 1, 1⟩ 22
            rw [show (wr.alloc (.cells #[.int .u8 17] 5)).heap.size = wr.heap.size + 1 by simp] at this
            rw [hWB, hp, hB0]
            rw [hB0] at this
            exact this
          have BB0 : Hid (BB WB B0 (.slice (some ⟨B0, 0, none⟩) 1 1) [17]) := by
            refine Lib.hid ?_
            have h2 := bb_one 17 wr
            rw [hWB, hB0]
            exact h2.pure ((Chg.refl _ _).alloc _)
          have CB : Hid (Chg [] W2 WB) := by
            refine Lib.hid ?_
            rw [hWB]
            exact (CW.out.alloc _).alloc _
          have HpB : Hid (p = B0 + 1) := Lib.hid (by omega)
          have HBW : Hid (B0 ≤ WB.heap.size) := Lib.hid (by rw [hWB, hB0]; simp; omega)
          have HB2 : Hid (W2.heap.size ≤ B0) := Lib.hid (by rw [hB0]; exact CW.out.size)
          have HG : Hid (GoodR ls S) := by
            refine Lib.hid ?_
            refine ⟨fun x hx => ?_, fun j hj => good_up (HS.out ▸ ss_setF l) Hq.out j hj⟩
            obtain ⟨i, hi, rfl⟩ := List.mem_iff_getElem.1 hx
            have := Hwk.out i hi
            rwa [List.getD_eq_getElem?_getD, List.getElem?_eq_getElem hi] at this
          clear hWB CW hlt hk hB0 hp dlt
          go_loopw [6, 12, 13] (fun s6 s12 s13 wq => ∃ (k r : Nat) (A : Option Addr) (c : Nat) (seg : Int) (a : Nat) (so : SlV) (out : List UInt8), MkI ls S g C k r A c seg a out ∧ s6 = .slice A r c ∧ s12 = .int .i64 seg ∧ s13 = .int .u64 (a : Int) ∧ svL.Box wq p so ∧ BB wq B0 so.v out ∧ p ∉ so.v.ownBlock.toList ∧ Chg [] W2 wq) (fun s6 _ _ _ => slN s6)
          case atStart =>
            refine ⟨0, S.length, A, C, -1, 0, ⟨some ⟨B0, 0, none⟩, 1, 1⟩, [17], ⟨by omega, fun h => ⟨by rw [(Hne.out (by omega)).1, Nat.zero_mul], by omega⟩, ⟨S.length, by omega, rfl⟩, fun _ => .inl rfl, by decide⟩, rfl, rfl, rfl, PB.out, BB0.out, ?_, CB.out⟩
            have := HpB.out
            show p ∉ [B0]
            simp
            omega
          case round =>
            obtain ⟨k, r, A', c, seg, a, so, out, hI, rfl, rfl, rfl, h1, h2, h3, h4⟩ := hrel
            by_cases hlt : k < S.length
            · have hlen := hI.len
              obtain ⟨rfl, hck⟩ := hI.at_ hlt
              obtain ⟨hA, hg0, hg1, hcp, hcm, hIn⟩ := Hne.out (by omega)
              have HA := Lib.hid hA
              clear hA
              obtain ⟨x, hx⟩ : ∃ x, x = S.getD k fxl.d := ⟨_, rfl⟩
              have hxm : x ∈ S := by
                rw [hx, List.getD_eq_getElem?_getD, List.getElem?_eq_getElem hlt]
                exact List.getElem_mem hlt
              obtain ⟨j, hj1, hj, hh, hj2, hj3⟩ := wr_facts (HG.out.wr x hxm)
              have hxa := HAT.out k hlt
              rw [← hx] at hxa
              have HA0 := Lib.hid (fun w rd => At_img m ls HLS.out.b x.at_ hxa.2 w rd)
              rw [hj1, show idxI (some j) = (j : Int) from rfl] at HA0
              obtain ⟨o, ho⟩ : ∃ o, o = k * 7 := ⟨_, rfl⟩
              have y0 : wr.cell? ⟨g, o, none⟩ = some (.int .u64 x.at_) := by
                have := ((hIn k hlt).frame h4) 0 (by decide)
                rw [Nat.add_zero] at this
                rw [hx, ho]
                exact this
              rw [← ho]
              have hr0 : 0 < r := by omega
              have hr1 : (0 : Int) < (r : Int) := by omega
              have dlt : decide ((0 : Int) < (r : Int)) = true := decide_eq_true hr1
              have P1 := Lib.hid h1
              have B1 := Lib.hid h2
              have N1 := Lib.hid h3
              have C1 := Lib.hid h4
              have HIn := Lib.hid hIn
              have HI := Lib.hid hI
              have Hx := Lib.hid hx
              have HO := Lib.hid ho
              clear h1 h2 h3 h4 hIn hI hx ho
              have BIB := Lib.hid (BI2.out.frame C1.out)
              have RB := Lib.hid (HRD.out.frame (C2.out.then C1.out))
              go_upto_region 22 with fail
              refine wp_region_noPanic ?_
              refine wp_region_held_drew (S := fun w' => Chg [] wr w') (by kernel_rfl) ((Chg.refl _ _).drew) (fun hHeld => ?_)
              refine take_read (i := 0) (v := ?_) (by simp only [List.getElem?_toArray, List.getElem?_cons_zero]; rfl) (by kernel_rfl) (by kernel_rfl) (by kernel_rfl) (fun _ _ _ h => h) hHeld ?_ ?_
              rotate_left
              · intro w hSw
                refine Lay.read_ld Tryz.tImg ((BIB.out.frame hSw).in) ?_ ?_
                exact rfl
                exact rfl
              try simp only [Act.put, List.setIfInBounds_toArray, List.set_cons_zero, List.set_cons_succ]
              refine take_read (i := 1) (v := ?_) (by simp only [List.getElem?_toArray, List.getElem?_cons_succ, List.getElem?_cons_zero]; rfl) (by kernel_rfl) (by kernel_rfl) (by kernel_rfl) (fun _ _ _ h => h) hHeld ?_ ?_
              rotate_left
              · intro w hSw
                go_simp
                try with_reducible rfl
              try simp only [Act.put, List.setIfInBounds_toArray, List.set_cons_zero, List.set_cons_succ]
              refine take_read (i := 2) (v := ?_) (by simp only [List.getElem?_toArray, List.getElem?_cons_succ, List.getElem?_cons_zero]; rfl) (by kernel_rfl) (by kernel_rfl) (by kernel_rfl) (fun _ _ _ h => h) hHeld ?_ ?_
              rotate_left
              · intro w hSw
                go_simp
                try with_reducible rfl
              try simp only [Act.put, List.setIfInBounds_toArray, List.set_cons_zero, List.set_cons_succ]
              refine take_read (i := 3) (v := ?_) (by simp only [List.getElem?_toArray, List.getElem?_cons_succ, List.getElem?_cons_zero]; rfl) (by kernel_rfl) (by kernel_rfl) (by kernel_rfl) (fun _ _ _ h => h) hHeld ?_ ?_
              rotate_left
              · intro w hSw
                go_simp
                try with_reducible rfl
              try simp only [Act.put, List.setIfInBounds_toArray, List.set_cons_zero, List.set_cons_succ]
              refine take_read (i := 4) (v := ?_) (by simp only [List.getElem?_toArray, List.getElem?_cons_succ, List.getElem?_cons_zero]; rfl) (by kernel_rfl) (by kernel_rfl) (by kernel_rfl) (fun _ _ _ h => h) hHeld ?_ ?_
              rotate_left
              · intro w hSw
                have y0 := hSw.cell y0 (by simp)
                go_simp
                try with_reducible rfl
              try simp only [Act.put, List.setIfInBounds_toArray, List.set_cons_zero, List.set_cons_succ]
              refine wpAnyH_ready (rs := [5]) (by kernel_rfl) (by simp) ?_
              refine AllReadyH.cons rfl (fun K hK => ?_) AllReadyH.nil
              go_simp
              refine (HA0.out _ (RB.out.frame hHeld)).mono ?_
              rintro e W5 ⟨rfl, hc⟩
              have A5 := Lib.hid (hHeld.then hc)
              clear hc
              refine hK.out _ _ A5.out (fun hHeld2 => ?_)
              clear hK hHeld K
              have hHeld := hHeld2
              clear hHeld2
              try (unfold Act.put; simp only [List.setIfInBounds_toArray, List.set_cons_zero, List.set_cons_succ])
              refine take_read (i := 6) (v := ?_) (by simp only [List.getElem?_toArray, List.getElem?_cons_succ, List.getElem?_cons_zero]; rfl) (by kernel_rfl) (by kernel_rfl) (by kernel_rfl) (fun _ _ _ h => h) hHeld ?_ ?_
              rotate_left
              · intro w hSw
                go_simp
                try with_reducible rfl
              try simp only [Act.put, List.setIfInBounds_toArray, List.set_cons_zero, List.set_cons_succ]
              refine wpAnyH_done (by kernel_rfl) ?_ _
              refine NoPanic.normal ?_
              clear hHeld
              replace y0 := A5.out.cell y0 (by simp)
              have P5 := Lib.hid (P1.out.frame A5.out)
              have B5 := Lib.hid (B1.out.pure A5.out)
              have C5 := Lib.hid (C1.out.then A5.out)
              have hsz5 : B0 ≤ W5.heap.size := by have := P5.out.lt; have := HpB.out; omega
              obtain ⟨n, hn⟩ : ∃ n, n = runN ls (S.drop k) := ⟨_, rfl⟩
              obtain ⟨hn1, hn2⟩ := HI.out.run_le hlt
              rw [← hn] at hn1 hn2
              obtain ⟨l0, l1, l2⟩ := run_last HLS.out HG.out hlt (n - 1) (by omega)
              have NM : Hid (∀ b, b < W2.heap.size → b ∉ p :: so.v.ownBlock.toList) := by
                refine Lib.hid ?_
                intro b hb
                have q1 := HpB.out
                have q2 := HB2.out
                rcases hob : so.v.ownBlock with _ | b'
                · simp; omega
                · have q3 := (B5.out.lt b' hob).1
                  simp
                  omega
              obtain ⟨sa, scap, hsv, hs1, hs2⟩ := HRD.out.shape
              have rd2 := HRD.out
              rw [hsv] at rd2
              obtain ⟨sb, soff, rfl, hsb0, hscell⟩ := rd2.at (by omega)
              have hsb := hscell j hj
              obtain ⟨sA, hsA⟩ : ∃ q, q = (ls.getD j .zero).addr := ⟨_, rfl⟩
              have s8w : w.cell? ⟨sb, soff + j * 7 + 1, none⟩ = some (.int .u64 sA) := by
                have := hsb 1 (by decide)
                rw [hsA]
                exact this
              have hsl : sb < W2.heap.size := Nat.lt_of_lt_of_le (World.block_lt_of_cell? _ _ s8w) C2.out.size
              have s8 := (C2.out.then C5.out).cell s8w (by simp)
              have x4 := Img.c_segs (BI2.out.frame C5.out)
              unfold SlV.v at hsv
              rw [hsv] at x4
              have hgl : g < W2.heap.size := hg1
              have hbl : bi < W2.heap.size := BI2.out.lt
              have hj0 : (j : Int) < (ls.length : Int) := by omega
              rw [← hsA] at hj2 hj3
              have hjn : j < 16 := by have := HLS.out.n; omega
              have hsA0 : 0 ≤ sA := by rw [hsA]; exact (HLS.out.b j hj).1.1
              obtain ⟨op, hop⟩ : ∃ q : Nat, q = 32 + j := ⟨_, rfl⟩
              obtain ⟨dd, hdd⟩ : ∃ q : Nat, q = (x.at_ - sA).toNat := ⟨_, rfl⟩
              obtain ⟨de, hde⟩ : ∃ q : Nat, q = (x.at_ - (a : Int)).toNat := ⟨_, rfl⟩
              have hor : bits .or .u8 32 (IntKind.u8.wrap (j : Int)) = (op : Int) := by rw [hop]; exact or32 j hjn
              have hwd : IntKind.u64.wrap (x.at_ - sA) = (dd : Int) := by rw [IntKind.wrap_u64]; omega
              have hop2 : op < 256 := by omega
              have hdd2 : dd < 18446744073709551616 := by omega
              have hde2 : de < 18446744073709551616 := by omega
              have hol : out.length ≤ 1000000 := by
                have h1 := HI.out.n
                have h2 := hbig
                omega
              obtain ⟨OH, hOH⟩ : ∃ q, q = out ++ headB ls x seg a := ⟨_, rfl⟩
              have hOHl : OH.length ≤ 1000000 := by
                have h1 := HI.out.n
                have h2 := hbig
                have h3 := headB_len ls x seg a
                rw [hOH, List.length_append]
                omega
              have hjx : idxI (atS ls x.at_) = (j : Int) := by rw [hj1]; rfl
              have hr2 : r ≤ S.length := by omega
              have Hsb := Lib.hid hsb
              have Hscell := Lib.hid hscell
              have Rd2 := Lib.hid rd2
              have HsA := Lib.hid hsA
              have Hs2 := Lib.hid hs2
              have L0 := Lib.hid l0
              have L1 := Lib.hid l1
              have L2 := Lib.hid l2
              have Hj1 := Lib.hid hj1
              have Hj2 := Lib.hid hj2
              have Hj3 := Lib.hid hj3
              have HsA0 := Lib.hid hsA0
              have Hxa := Lib.hid hxa
              have Hop := Lib.hid hop
              have Hdd := Lib.hid hdd
              have Hde := Lib.hid hde
              have HOHD := Lib.hid hOH
              have Hjx := Lib.hid hjx
              have Hn := Lib.hid hn
              have Hlen := Lib.hid hlen
              have Hck := Lib.hid hck
              have Hsv := Lib.hid hsv
              have Hj := Lib.hid hj
              clear hsb hscell rd2 hsA hs2 l0 l1 l2 hj1 hj2 hj3 hsA0 hxa hop hdd hde hOH hjx hn hlen hck hsv hj
              clear hs1 hsb0 s8w hh HA0
              go_upto_if 66 with fail
              go_cut [12] (fun s12 wx => s12 = .int .i64 (j : Int) ∧ ∃ s1 : SlV, svL.Box wx p s1 ∧ BB wx B0 s1.v OH ∧ p ∉ s1.v.ownBlock.toList ∧ Chg [] W2 wx)
              case first =>
                by_cases hse : (j : Int) = seg
                · have dse : ((j : Int) == seg) = true := by rw [hse]; simp
                  have hup : (a : Int) ≤ x.at_ := by
                    have := HI.out.up hlt
                    rw [← Hx.out] at this
                    omega
                  have hxu : IntKind.u64.wrap (x.at_ - (a : Int)) = (de : Int) := by have := Hxa.out; have := Hde.out; rw [IntKind.wrap_u64]; omega
                  have HOH : Hid (OH = out ++ UInt8.ofNat 48 :: putU de) := by
                    refine Lib.hid ?_
                    rw [HOHD.out, Hde.out]
                    unfold headB
                    rw [Hjx.out, if_pos hse]
                    rfl
                  have HMP := Lib.hid (fun w' h1 h2 h3 => mput_any 48 de (by decide) hde2 p B0 so out hol w' h1 h2 N1.out h3)
                  clear hwd hor hup
                  have Hse := Lib.hid hse
                  clear hse
                  go_wp2_with fail
                  refine (HMP.out _ P5.out B5.out hsz5).mono ?_
                  rintro e W6 ⟨rfl, s1, p6, b6, c6, l6, n6⟩
                  rw [← HOH.out] at b6
                  have P6 := Lib.hid p6
                  have B6 := Lib.hid b6
                  have C6 := Lib.hid c6
                  have N6 := Lib.hid n6
                  clear p6 b6 c6 n6
                  clear l6
                  go_wp2_with fail
                  go_meet
                  exact ⟨congrArg (Value.int .i64) Hse.out.symm, s1, P6.out, B6.out, N6.out, C5.out.trans C6.out (fun i hm hi => absurd hm (NM.out i hi))⟩
                · have dse : ((j : Int) == seg) = false := by rw [beq_eq_false_iff_ne]; exact hse
                  have HOH : Hid (OH = out ++ UInt8.ofNat op :: putU dd) := by
                    refine Lib.hid ?_
                    rw [HOHD.out, Hdd.out, HsA.out, Hop.out]
                    unfold headB
                    rw [Hjx.out, if_neg hse, Int.toNat_natCast]
                  have HMP := Lib.hid (fun w' h1 h2 h3 => mput_any op dd hop2 hdd2 p B0 so out hol w' h1 h2 N1.out h3)
                  have hgm := NM.out g hgl
                  have hbm := NM.out bi hbl
                  have hsm := NM.out sb hsl
                  have Hse := Lib.hid hse
                  clear hse
                  go_upto_region 25 with fail
                  refine wp_region_noPanic ?_
                  refine wp_region_held_drew (S := fun w' => Chg (p :: so.v.ownBlock.toList) W5 w') (by kernel_rfl) ((Chg.refl [] W5).drew).add (fun hHeld => ?_)
                  refine take_read (i := 0) (v := ?_) (by simp only [List.getElem?_toArray, List.getElem?_cons_zero]; rfl) (by kernel_rfl) (by kernel_rfl) (by kernel_rfl) (fun _ _ _ h => h) hHeld ?_ ?_
                  rotate_left
                  · intro w hSw
                    go_simp
                    try with_reducible rfl
                  try simp only [Act.put, List.setIfInBounds_toArray, List.set_cons_zero, List.set_cons_succ]
                  refine take_read (i := 1) (v := ?_) (by simp only [List.getElem?_toArray, List.getElem?_cons_succ, List.getElem?_cons_zero]; rfl) (by kernel_rfl) (by kernel_rfl) (by kernel_rfl) (fun _ _ _ h => h) hHeld ?_ ?_
                  rotate_left
                  · intro w hSw
                    go_simp
                    try with_reducible rfl
                  try simp only [Act.put, List.setIfInBounds_toArray, List.set_cons_zero, List.set_cons_succ]
                  refine take_read (i := 2) (v := ?_) (by simp only [List.getElem?_toArray, List.getElem?_cons_succ, List.getElem?_cons_zero]; rfl) (by kernel_rfl) (by kernel_rfl) (by kernel_rfl) (fun _ _ _ h => h) hHeld ?_ ?_
                  rotate_left
                  · intro w hSw
                    go_simp
                    try with_reducible rfl
                  try simp only [Act.put, List.setIfInBounds_toArray, List.set_cons_zero, List.set_cons_succ]
                  refine take_read (i := 3) (v := ?_) (by simp only [List.getElem?_toArray, List.getElem?_cons_succ, List.getElem?_cons_zero]; rfl) (by kernel_rfl) (by kernel_rfl) (by kernel_rfl) (fun _ _ _ h => h) hHeld ?_ ?_
                  rotate_left
                  · intro w hSw
                    go_simp
                    try with_reducible rfl
                  try simp only [Act.put, List.setIfInBounds_toArray, List.set_cons_zero, List.set_cons_succ]
                  refine take_read (i := 4) (v := ?_) (by simp only [List.getElem?_toArray, List.getElem?_cons_succ, List.getElem?_cons_zero]; rfl) (by kernel_rfl) (by kernel_rfl) (by kernel_rfl) (fun _ _ _ h => h) hHeld ?_ ?_
                  rotate_left
                  · intro w hSw
                    go_simp
                    try with_reducible rfl
                  try simp only [Act.put, List.setIfInBounds_toArray, List.set_cons_zero, List.set_cons_succ]
                  refine take_read (i := 5) (v := ?_) (by simp only [List.getElem?_toArray, List.getElem?_cons_succ, List.getElem?_cons_zero]; rfl) (by kernel_rfl) (by kernel_rfl) (by kernel_rfl) (fun _ _ _ h => h) hHeld ?_ ?_
                  rotate_left
                  · intro w hSw
                    go_simp
                    try with_reducible rfl
                  try simp only [Act.put, List.setIfInBounds_toArray, List.set_cons_zero, List.set_cons_succ]
                  refine take_read (i := 6) (v := ?_) (by simp only [List.getElem?_toArray, List.getElem?_cons_succ, List.getElem?_cons_zero]; rfl) (by kernel_rfl) (by kernel_rfl) (by kernel_rfl) (fun _ _ _ h => h) hHeld ?_ ?_
                  rotate_left
                  · intro w hSw
                    go_simp
                    try with_reducible rfl
                  try simp only [Act.put, List.setIfInBounds_toArray, List.set_cons_zero, List.set_cons_succ]
                  refine take_read (i := 7) (v := ?_) (by simp only [List.getElem?_toArray, List.getElem?_cons_succ, List.getElem?_cons_zero]; rfl) (by kernel_rfl) (by kernel_rfl) (by kernel_rfl) (fun _ _ _ h => h) hHeld ?_ ?_
                  rotate_left
                  · intro w hSw
                    have y0 := hSw.cell y0 hgm
                    go_simp
                    try with_reducible rfl
                  try simp only [Act.put, List.setIfInBounds_toArray, List.set_cons_zero, List.set_cons_succ]
                  refine take_read (i := 8) (v := ?_) (by simp only [List.getElem?_toArray, List.getElem?_cons_succ, List.getElem?_cons_zero]; rfl) (by kernel_rfl) (by kernel_rfl) (by kernel_rfl) (fun _ _ _ h => h) hHeld ?_ ?_
                  rotate_left
                  · intro w hSw
                    go_simp
                    try with_reducible rfl
                  try simp only [Act.put, List.setIfInBounds_toArray, List.set_cons_zero, List.set_cons_succ]
                  refine take_read (i := 9) (v := ?_) (by simp only [List.getElem?_toArray, List.getElem?_cons_succ, List.getElem?_cons_zero]; rfl) (by kernel_rfl) (by kernel_rfl) (by kernel_rfl) (fun _ _ _ h => h) hHeld ?_ ?_
                  rotate_left
                  · intro w hSw
                    have x4 := hSw.cell x4 hbm
                    go_simp
                    try with_reducible rfl
                  try simp only [Act.put, List.setIfInBounds_toArray, List.set_cons_zero, List.set_cons_succ]
                  refine take_read (i := 10) (v := ?_) (by simp only [List.getElem?_toArray, List.getElem?_cons_succ, List.getElem?_cons_zero]; rfl) (by kernel_rfl) (by kernel_rfl) (by kernel_rfl) (fun _ _ _ h => h) hHeld ?_ ?_
                  rotate_left
                  · intro w hSw
                    go_simp
                    try with_reducible rfl
                  try simp only [Act.put, List.setIfInBounds_toArray, List.set_cons_zero, List.set_cons_succ]
                  refine take_read (i := 11) (v := ?_) (by simp only [List.getElem?_toArray, List.getElem?_cons_succ, List.getElem?_cons_zero]; rfl) (by kernel_rfl) (by kernel_rfl) (by kernel_rfl) (fun _ _ _ h => h) hHeld ?_ ?_
                  rotate_left
                  · intro w hSw
                    go_simp
                    try with_reducible rfl
                  try simp only [Act.put, List.setIfInBounds_toArray, List.set_cons_zero, List.set_cons_succ]
                  refine take_read (i := 12) (v := ?_) (by simp only [List.getElem?_toArray, List.getElem?_cons_succ, List.getElem?_cons_zero]; rfl) (by kernel_rfl) (by kernel_rfl) (by kernel_rfl) (fun _ _ _ h => h) hHeld ?_ ?_
                  rotate_left
                  · intro w hSw
                    go_simp
                    try with_reducible rfl
                  try simp only [Act.put, List.setIfInBounds_toArray, List.set_cons_zero, List.set_cons_succ]
                  refine take_read (i := 13) (v := ?_) (by simp only [List.getElem?_toArray, List.getElem?_cons_succ, List.getElem?_cons_zero]; rfl) (by kernel_rfl) (by kernel_rfl) (by kernel_rfl) (fun _ _ _ h => h) hHeld ?_ ?_
                  rotate_left
                  · intro w hSw
                    have s8 := hSw.cell s8 hsm
                    go_simp
                    try with_reducible rfl
                  try simp only [Act.put, List.setIfInBounds_toArray, List.set_cons_zero, List.set_cons_succ]
                  refine take_read (i := 14) (v := ?_) (by simp only [List.getElem?_toArray, List.getElem?_cons_succ, List.getElem?_cons_zero]; rfl) (by kernel_rfl) (by kernel_rfl) (by kernel_rfl) (fun _ _ _ h => h) hHeld ?_ ?_
                  rotate_left
                  · intro w hSw
                    go_simp
                    try with_reducible rfl
                  try simp only [Act.put, List.setIfInBounds_toArray, List.set_cons_zero, List.set_cons_succ]
                  refine wpAnyH_ready (rs := [15]) (by kernel_rfl) (by simp) ?_
                  refine AllReadyH.cons rfl (fun K hK => ?_) AllReadyH.nil
                  go_simp
                  refine (HMP.out _ (P5.out.frame ((Chg.refl [] W5).drew)) (B5.out.pure ((Chg.refl [] W5).drew)) hsz5).mono ?_
                  rintro e W6 ⟨rfl, s1, p6, b6, c6, l6, n6⟩
                  have A6 : Hid (Chg (p :: so.v.ownBlock.toList) W5 W6) := Lib.hid (((Chg.refl [] W5).drew).add.same c6)
                  rw [← HOH.out] at b6
                  have P6 := Lib.hid p6
                  have B6 := Lib.hid b6
                  have N6 := Lib.hid n6
                  clear p6 b6 n6
                  clear c6 l6
                  refine hK.out _ _ A6.out (fun hHeld2 => ?_)
                  clear hK hHeld K
                  have hHeld := hHeld2
                  clear hHeld2
                  try (unfold Act.put; simp only [List.setIfInBounds_toArray, List.set_cons_zero, List.set_cons_succ])
                  refine wpAnyH_done (by kernel_rfl) ?_ _
                  refine NoPanic.normal ?_
                  clear hHeld
                  go_wp2_with fail
                  go_meet
                  exact ⟨rfl, s1, P6.out, B6.out, N6.out, C5.out.trans A6.out (fun i hm hi => absurd hm (NM.out i hi))⟩
              case rest =>
                obtain ⟨rfl, s1, p6, b6, n6, c6⟩ := hcut
                obtain ⟨W6, rfl⟩ : ∃ W6, W6 = wc := ⟨_, rfl⟩
                have P6 := Lib.hid p6
                have B6 := Lib.hid b6
                have N6 := Lib.hid n6
                have C6 := Lib.hid c6
                clear p6 b6 n6 c6
                clear P5 B5 C5 A5 hwd hor y0 x4 s8 NM RB BIB P1 B1 N1 C1 hsz5
                have hlr : (S.drop k).length = r := by have := Hlen.out; rw [List.length_drop]; omega
                have hatd : ∀ i, i < (S.drop k).length → ((S.drop k).getD i fxl.d).at_ < 18446744073709551616 := by
                  intro i hi
                  rw [show (S.drop k).getD i fxl.d = S.getD (k + i) fxl.d by rw [List.getD_eq_getElem?_getD, List.getD_eq_getElem?_getD, List.getElem?_drop]]
                  exact (HAT.out (k + i) (by have := Hlen.out; omega)).2
                have FR : Hid (fxl.Rd W6 (.slice (some ⟨g, o, none⟩) r c) (S.drop k)) := by
                  refine Lib.hid ?_
                  have h0 := (FB2.out.pure C6.out).rd
                  rw [HA.out] at h0
                  have hlen := Hlen.out
                  have hck := Hck.out
                  have h1 := rd_drop h0 k hlt
                  rw [show S.length - k = r by omega, show C - k = c by omega, show 0 + k * fxl.n = o by rw [HO.out, Nat.zero_add]; rfl] at h1
                  exact h1
                have HRU : Hid (∀ wx, segL.Rd wx m.segs.v ls → fxl.Rd wx (.slice (some ⟨g, o, none⟩) r c) (S.drop k) → Calls Tryz.prog 21 #[imgL.val m, .slice (some ⟨g, o, none⟩) r c] wx fun e w' => e = .returned (.int .i64 (n : Nat)) ∧ Chg [] wx w') := by
                  refine Lib.hid ?_
                  have h := run_any m ls HLS.out.b (S.drop k) (by rw [hlr]; omega) hatd g o c
                  rw [hlr, ← Hn.out] at h
                  exact h
                go_wp2_with ((with_reducible refine Lay.ldL Tryz.tImg m (((BI2.out.frame C6.out).in)) ?_ ?_); exact rfl; refine Hid.out ?_)
                refine Lib.hid ?_
                go_wp2_with fail
                refine (HRU.out W6 (HRD.out.frame (C2.out.then C6.out)) FR.out).mono ?_
                rintro e W7 ⟨rfl, h7⟩
                have C7 := Lib.hid (C6.out.then h7)
                have P7 := Lib.hid (P6.out.frame h7)
                have B7 := Lib.hid (B6.out.pure h7)
                have hsz7 : B0 ≤ W7.heap.size := by have := P7.out.lt; have := HpB.out; omega
                clear h7 P6 B6 C6 FR HRU hatd
                have x7 := svL.c P7.out
                obtain ⟨q80, hq80⟩ : ∃ q : Nat, q = 80 + n := ⟨_, rfl⟩
                obtain ⟨OL, hOL⟩ : ∃ q, q = OH ++ lenB n := ⟨_, rfl⟩
                have hnb : n ≤ 20000 := by omega
                go_upto_if 96 with fail
                go_cut [] (fun wx => ∃ s2 : SlV, svL.Box wx p s2 ∧ BB wx B0 s2.v OL ∧ p ∉ s2.v.ownBlock.toList ∧ Chg [] W2 wx)
                case first =>
                  by_cases h15 : n ≤ 15
                  · have d15 : decide ((n : Int) ≤ 15) = true := decide_eq_true (by omega)
                    have hor2 : bits .or .u8 80 (IntKind.u8.wrap (n : Int)) = (q80 : Int) := by rw [hq80]; exact or80 n (by omega)
                    have Q : Hid ([Value.int .u8 (q80 : Int)] = byteL.vals [UInt8.ofNat q80]) := by
                      refine Lib.hid ?_
                      rw [Lay.vals_single]
                      show [Value.int .u8 q80] = [Value.int .u8 ((UInt8.ofNat q80).toNat : Nat)]
                      rw [UInt8.toNat_ofNat', Nat.mod_eq_of_lt (by omega)]
                    have HOL : Hid (OL = OH ++ [UInt8.ofNat q80]) := by
                      refine Lib.hid ?_
                      rw [hOL, hq80]
                      unfold lenB
                      rw [if_pos h15]
                    have hor4 : bits .or .u8 80 (n : Int) = (q80 : Int) := by
                      rw [← hor2, show IntKind.u8.wrap (n : Int) = (n : Int) by rw [IntKind.wrap_u8]; omega]
                    clear hor2
                    have HOLD := Lib.hid hOL
                    have Hq80 := Lib.hid hq80
                    clear hOL hq80
                    go_wp2_with (at_builtin; refine Lay.app (L := byteL) Tryz.infoByte rfl _ _ rfl B0 s1.v OH rfl (B7.out.pure ((Chg.refl _ _).alloc _)) _ rfl [UInt8.ofNat q80] (Lay.Rd.of_heap (heap_alloc_eq _ _) Q.out rfl (show 1 ≤ maxLen by decide)) (by simp; omega) (by simp; omega) (Nat.le_trans hsz7 (by simp)) ?_; intro v8 W8 hov hgv hlc; refine Hid.out ?_)
                    refine Lib.hid ?_
                    have A8 : Hid (Chg s1.v.ownBlock.toList W7 W8) := Lib.hid (((Chg.refl _ _).alloc _).trans (Lay.chg_grown hgv) (fun i hi _ => hi))
                    have P8 := Lib.hid (P7.out.frameS A8.out N6.out)
                    have C8 : Hid (Chg [] W2 W8) := Lib.hid (C7.out.trans A8.out (fun i hm hi => by have := (B7.out.lt i (by simpa using hm)).1; have := HB2.out; omega))
                    have hp8 : p ∉ v8.ownBlock.toList := by
                      have hpl := P7.out.lt
                      rcases hlc with e | e
                      · rw [e]; exact N6.out
                      · rw [e]; simp; omega
                    obtain ⟨s2, rfl⟩ := BB_shape hov
                    rw [← HOL.out] at hov
                    have B8 := Lib.hid hov
                    clear hov
                    clear hgv hlc x7
                    have x8 := svL.c P8.out
                    have z8 := P8.out.frozen 0
                    have BN : Hid (BB (W8.setCell ⟨p, 0, none⟩ (.slice s2.a s2.n s2.cap)) B0 s2.v OL) := Lib.hid (B8.out.frame (S := [p]) ((Chg.refl _ _).setCell _ _ (.inl (by simp))) (fun k hk hm => by simp at hm; exact hp8 (by rw [hk, hm]; simp)))
                    have CN : Hid (Chg [] W2 (W8.setCell ⟨p, 0, none⟩ (.slice s2.a s2.n s2.cap))) := Lib.hid (C8.out.setCell _ _ (.inr (by show W2.heap.size ≤ p; have := HpB.out; have := HB2.out; omega)))
                    unfold SlV.v
                    go_wp2_with fail
                    go_meet
                    exact ⟨s2, svL.set P8.out s2, BN.out, hp8, CN.out⟩
                  · have d15 : decide ((n : Int) ≤ 15) = false := decide_eq_false (by omega)
                    have hwn : IntKind.u64.wrap (n : Int) = (n : Int) := by rw [IntKind.wrap_u64]; omega
                    have HOL : Hid (OL = OH ++ UInt8.ofNat 96 :: putU n) := by
                      refine Lib.hid ?_
                      rw [hOL]
                      unfold lenB
                      rw [if_neg h15]
                      rfl
                    have HMP := Lib.hid (fun w' h1 h2 h3 => mput_any 96 n (by decide) (by omega) p B0 s1 OH hOHl w' h1 h2 N6.out h3)
                    have NM7 : Hid (∀ i, i ∈ p :: s1.v.ownBlock.toList → ¬ i < W2.heap.size) := by
                      refine Lib.hid ?_
                      intro i hm hi
                      have q1 := HpB.out
                      have q2 := HB2.out
                      rcases List.mem_cons.1 hm with rfl | hm
                      · omega
                      · have := (B7.out.lt i (by simpa using hm)).1
                        omega
                    have HOLD := Lib.hid hOL
                    have Hq80 := Lib.hid hq80
                    clear hOL hq80
                    clear x7
                    go_wp2_with fail
                    refine (HMP.out _ P7.out B7.out hsz7).mono ?_
                    rintro e W8 ⟨rfl, s2, p8, b8, c8, l8, n8⟩
                    rw [← HOL.out] at b8
                    have P8 := Lib.hid p8
                    have B8 := Lib.hid b8
                    have C8 := Lib.hid c8
                    have N8 := Lib.hid n8
                    clear p8 b8 c8 n8
                    clear l8
                    go_wp2_with fail
                    go_meet
                    exact ⟨s2, P8.out, B8.out, N8.out, C7.out.trans C8.out (fun i hm hi => absurd hi (NM7.out i hm))⟩
                case rest =>
                  obtain ⟨s2, p9, b9, n9, c9⟩ := hcut
                  obtain ⟨W9, rfl⟩ : ∃ W9, W9 = wc := ⟨_, rfl⟩
                  obtain ⟨z, hz⟩ : ∃ z, z = S.getD (k + (n - 1)) fxl.d := ⟨_, rfl⟩
                  have hlen := Hlen.out
                  have yp : W9.cell? ⟨g, o + (n - 1) * 7, none⟩ = some (.int .u64 z.at_) := by
                    have := ((HIn.out (k + (n - 1)) (by omega)).frame c9) 0 (by decide)
                    rw [Nat.add_zero, Nat.add_mul] at this
                    rw [hz, HO.out]
                    exact this
                  have hwm : IntKind.i64.wrap ((n : Int) - 1) = ((n - 1 : Nat) : Int) := by rw [IntKind.wrap_i64]; omega
                  have hlt2 : n - 1 < r := by omega
                  have dlt3 : decide (((n - 1 : Nat) : Int) < (r : Int)) = true := decide_eq_true (by omega)
                  obtain ⟨a', ha'⟩ : ∃ q : Nat, q = x.at_.toNat + 8 * n := ⟨_, rfl⟩
                  have hwz : IntKind.u64.wrap (z.at_ + 8) = (a' : Int) := by
                    have q0 := L0.out
                    have q1 := L1.out
                    have q2 := L2.out
                    rw [← Hx.out] at q0 q1
                    rw [IntKind.wrap_u64, hz, q1]
                    omega
                  have hrc : r ≤ c := by have := Hck.out; omega
                  have hnr : n ≤ r := hn2
                  have HSTEP : Hid (∀ A2 c2, (k + n < S.length → A2 = some ⟨g, (k + n) * 7, none⟩ ∧ c2 + (k + n) = C) → MkI ls S g C (k + n) (r - n) A2 c2 (j : Int) a' OL) := by
                    refine Lib.hid ?_
                    intro A2 c2 h
                    have := HI.out.step hlt HLS.out HG.out Hx.out Hn.out h
                    rw [Hjx.out] at this
                    rw [ha', hOL, HOHD.out]
                    exact this
                  have P9 := Lib.hid p9
                  have B9 := Lib.hid b9
                  have N9 := Lib.hid n9
                  have C9 := Lib.hid c9
                  have Hz := Lib.hid hz
                  have Ha' := Lib.hid ha'
                  have HOL := Lib.hid hOL
                  have Hq80 := Lib.hid hq80
                  clear p9 b9 n9 c9 hz ha' hOL hq80
                  clear hlen hlr
                  clear x7 P7 B7 C7
                  by_cases hcn : n = c
                  · subst hcn
                    obtain rfl : r = n := by omega
                    have HST0 : Hid (MkI ls S g C (k + r) 0 (some ⟨g, o, none⟩) 0 (j : Int) a' OL) := by
                      refine Lib.hid ?_
                      have := HSTEP.out (some ⟨g, o, none⟩) 0 (fun h => absurd h (by have := Hlen.out; omega))
                      rw [Nat.sub_self] at this
                      exact this
                    clear hnr hrc
                    go_wp2
                    go_roundw
                    case rel => exact ⟨k + r, 0, _, _, (j : Int), a', s2, OL, HST0.out, rfl, rfl, rfl, P9.out, B9.out, N9.out, C9.out⟩
                    case measure => exact hr0
                  · go_wp2
                    go_roundw
                    case rel => exact ⟨k + n, r - n, _, _, (j : Int), a', s2, OL, HSTEP.out (some ⟨g, o + n * 7, none⟩) (c - n) (fun _ => ⟨by rw [Nat.add_mul, ← HO.out], by have := Hck.out; omega⟩), rfl, rfl, rfl, P9.out, B9.out, N9.out, C9.out⟩
                    case measure => exact (show r - n < r by omega)
            · have P9 := Lib.hid h1
              have B9 := Lib.hid h2
              have C9 := Lib.hid h4
              clear h1 h2 h4
              obtain rfl : k = S.length := by have := hI.len; omega
              obtain rfl : r = 0 := by have := hI.len; omega
              have HO : Hid (out ++ [0] = mkAll ls S) := by
                refine Lib.hid ?_
                obtain ⟨f, _, hf⟩ := hI.eq
                rw [List.drop_eq_nil_of_le (Nat.le_refl _)] at hf
                have hm : mkB ls f seg a [] = [] := by cases f <;> rfl
                rw [hm, List.append_nil] at hf
                rw [hf]
                rfl
              have hol : out.length ≤ 1 + 30 * 20000 := by have := hI.n; omega
              have x9 := svL.c P9.out
              have Q : Hid ([Value.int .u8 0] = byteL.vals [0]) := Lib.hid (rfl)
              have hsz9 : B0 ≤ wr.heap.size := by have := P9.out.lt; have := HpB.out; omega
              go_wp2_with (at_builtin; refine Lay.app (L := byteL) Tryz.infoByte rfl _ _ rfl B0 so.v out rfl (B9.out.pure ((Chg.refl _ _).alloc _)) _ rfl [0] (Lay.Rd.of_heap (heap_alloc_eq _ _) Q.out rfl (show 1 ≤ maxLen by decide)) (by simp; omega) (by simp; omega) (Nat.le_trans hsz9 (by simp)) ?_; intro v8 W8 hov hgv hlc; refine Hid.out ?_)
              refine Lib.hid ?_
              have A8 : Hid (Chg so.v.ownBlock.toList wr W8) := Lib.hid (((Chg.refl _ _).alloc _).trans (Lay.chg_grown hgv) (fun i hi _ => hi))
              have C8 : Hid (Chg [] W2 W8) := Lib.hid (C9.out.trans A8.out (fun i hm hi => by have := (B9.out.lt i (by simpa using hm)).1; have := HB2.out; omega))
              obtain ⟨s2, rfl⟩ := BB_shape hov
              have BF : Hid (BB W8 w.heap.size s2.v (mkAll ls S)) := Lib.hid (HO.out ▸ Lay.Buf.mono hov (Nat.le_trans C2.out.size HB2.out))
              clear hov hgv hlc
              have HK : Hid (∀ x ∈ S, x.kind = 1 ∧ mayR x = true ∧ writS ls x.at_ 8 = true) := by
                refine Lib.hid ?_
                intro x hx
                have hw := HG.out.wr x hx
                obtain ⟨i, hi, rfl⟩ := List.mem_iff_getElem.1 hx
                have := Hmk.out i hi
                rw [List.getD_eq_getElem?_getD, List.getElem?_eq_getElem hi] at this
                exact ⟨this.1, this.2, hw⟩
              unfold SlV.v
              go_wp2
              go_ret2
              exact ⟨s2, 0, rfl, C2.out.then C8.out, fun _ => ⟨BF.out, HK.out, Hq.out⟩⟩
end Go.Proofs.YtaipelkegemoeaaGreatDoor
