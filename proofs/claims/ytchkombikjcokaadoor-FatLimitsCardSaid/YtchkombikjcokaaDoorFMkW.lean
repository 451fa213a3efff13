/- fat.Make, walked (wide: true). -/
import Derived.Test.YtchkombikjcokaaDoorFatA
import Derived.Deep.CutRange
namespace Go.Proofs.YtchkombikjcokaaDoor
open Go.RowKit
set_option maxRecDepth 100000

set_option maxHeartbeats 4000000 in
theorem FMake_true (ms : List Mem) (hok : ∀ m ∈ ms, m.ok) (hn : ms.length ≤ 1000) (hb : ∀ m ∈ ms, m.bytes.length ≤ 2097152) (a : Option Addr) (cap : Nat) (w : World) (hg : Env w) (rd : MemRd w (.slice a ms.length cap) ms) :
    Calls Tryd.prog 37 #[.bool true, .slice a ms.length cap] w fun e w' => ∃ v, e = .returned (.tuple #[v, .int .i64 (fatE true ms)]) ∧ (fatE true ms = 0 → Buf w' w.heap.size v (fatL true ms)) ∧ (fatE true ms ≠ 0 → v = .slice none 0 0) ∧ Chg [] w w' := by
  obtain ⟨_, _, _, he, _, hc1, hc2, hx⟩ := rd
  cases he
  unfold maxLen at hc2
  obtain ⟨E, hE⟩ : ∃ E, E = endOf true ms := ⟨_, rfl⟩
  have hE' : E = 8 + ms.length * 32 := hE
  have HSM : Hid (∀ k, k ≤ ms.length → (∀ m ∈ ms.take k, alB m = true) → atL E (ms.take k) ≤ 2147483648) := by
    refine Lib.hid ?_
    intro k hk ha
    have := atL_small E 2097152 ms hb k hk ha
    have : k * (2097152 + 32768) ≤ 1000 * (2097152 + 32768) := Nat.mul_le_mul_right _ (by omega)
    omega
  have hEi : 8 + (ms.length : Int) * 32 = (E : Int) := by omega
  have hEb : E ≤ 40000 := by omega
  have Hok := Lib.hid hok
  have HB := Lib.hid hb
  have HG := Lib.hid hg
  have Hx := Lib.hid hx
  have HE0 := Lib.hid hE
  clear hok hb hg hx hE
  clear hE'
  go_enter Tryd.func37, Tryd.ntmps37
  go_wp2_with fail
  refine (fput_any (.slice none 0 0) [] 3405691583 4 (by decide) w.heap.size w (Buf.nil _ _) (Nat.le_refl _) (by simp)).mono ?_
  rintro e w1 ⟨vb1, rfl, hg1⟩
  have FM1 := Lib.hid ((FM.start w).b hg1)
  clear hg1
  go_wp2_with fail
  refine (fput_any vb1 ([] ++ bgL 3405691583 4) ms.length 4 (by decide) w.heap.size w1 FM1.out.two.one FM1.out.chg.size (by simp [bgL_len])).mono ?_
  rintro e w2 ⟨vb2, rfl, hg2⟩
  have FM2 : Hid (FM w w2 vb2 (headF true ms.length) (.slice none 0 0) [] (.slice none 0 0) []) := Lib.hid (FM1.out.b hg2)
  clear hg2
  clear FM1
  go_wp2_with fail
  clear hEi
  go_loopw [10, 11, 12, 31] (fun s10 s11 s12 s31 wr => ∃ k : Nat, k ≤ ms.length ∧ s31 = .int .i64 (k : Int) ∧ (∀ m ∈ ms.take k, alB m = true) ∧ FM w wr s10 (headF true ms.length ++ entsL true E ms k) s11 (sls E ms k) s12 (bodyL E (ms.take k))) (fun _ _ _ s31 _ => ms.length - (intOf s31).toNat)
  case atStart =>
    refine ⟨0, Nat.zero_le _, rfl, by simp, ?_⟩
    have e : headF true ms.length ++ entsL true E ms 0 = headF true ms.length := List.append_nil _
    rw [e]
    exact FM2.out
  case round =>
    obtain ⟨k, hk, rfl, hal, hfm⟩ := hrel
    have Hal := Lib.hid hal
    have Hfm := Lib.hid hfm
    clear hal hfm
    by_cases hlt : k < ms.length
    · obtain ⟨b, off, rfl, hb0, hcell⟩ := Hx.out (by rintro rfl; simp at hlt)
      obtain ⟨h1, h2, h3, a', cap', h4, h5⟩ := hcell k hlt
      obtain ⟨p, hp⟩ : ∃ p, p = ms.getD k .zero := ⟨_, rfl⟩
      rw [← hp] at h1 h2 h3 h4 h5
      have HMEM : Hid (p ∈ ms) := Lib.hid (by rw [hp]; exact mem_getD hlt)
      have HP := Lib.hid (hp)
      have kk := Hfm.out.chg
      have k1 := kk.cell h1 (by simp)
      have k2 := kk.cell h2 (by simp)
      have k3 := kk.cell h3 (by simp)
      have k4 := kk.cell h4 (by simp)
      have HR0 := Lib.hid (h5)
      clear h1 h2 h3 h4 h5 hcell hb0 kk hp
      have hbl : p.bytes.length ≤ 2097152 := HB.out p HMEM.out
      obtain ⟨hcpu, hsub, _, _⟩ := Hok.out p HMEM.out
      cases hab : alB p with
      | false =>
        have HE : Hid (fatE true ms = 2) := by
          refine Lib.hid ?_
          unfold fatE
          rw [if_pos]
          rw [List.all_eq_false]
          exact ⟨p, HMEM.out, by simpa using hab⟩
        have hx : p.align < 0 ∨ 15 < p.align := by unfold alB at hab; simp at hab; omega
        clear hab
        by_cases ha : p.align < 0
        · have d1 : decide (p.align < 0) = true := by simpa using ha
          clear ha hx
          go_wp2
          go_ret2
          rw [HE.out]
          exact ⟨_, rfl, fun h => absurd h (by decide), fun _ => rfl, Hfm.out.chg.alloc _⟩
        · have d1 : decide (p.align < 0) = false := by simpa using ha
          have d2 : decide (15 < p.align) = true := by simp; omega
          clear ha hx
          go_wp2
          go_ret2
          rw [HE.out]
          exact ⟨_, rfl, fun h => absurd h (by decide), fun _ => rfl, Hfm.out.chg.alloc _⟩
      | true =>
        obtain ⟨ha15, hae⟩ := alignN_le hab
        have HAL1 : Hid (∀ m ∈ ms.take (k + 1), alB m = true) := by
          refine Lib.hid ?_
          rw [getD_take ms .zero k hlt, ← HP.out]
          intro m hm
          rw [List.mem_append, List.mem_singleton] at hm
          rcases hm with hm | rfl
          · exact Hal.out m hm
          · exact hab
        have hat1 := HSM.out (k + 1) hlt HAL1.out
        rw [atL_take E ms k hlt, ← HP.out] at hat1
        obtain ⟨PL, hPL⟩ : ∃ PL, PL = placeOf E ms k := ⟨_, rfl⟩
        obtain ⟨YB, hYB⟩ : ∃ YB, YB = bodyL E (ms.take k) := ⟨_, rfl⟩
        have HBD1 : Hid (bodyL E (ms.take (k + 1)) = (YB ++ zerosL (PL - (E + YB.length))) ++ p.bytes) := by
          refine Lib.hid ?_
          rw [hPL, hYB, bodyL_atk E ms k hk, HP.out]; exact bodyL_take E ms k hlt
        have HPLE : Hid (PL = padTo (E + YB.length) (alignN p)) := Lib.hid (by rw [hPL, hYB, bodyL_atk E ms k hk, HP.out]; rfl)
        have HSL1 : Hid (sls E ms (k + 1) = sls E ms k ++ [⟨p.cpu, p.sub, PL, p.bytes.length, p.align⟩]) := Lib.hid (by rw [hPL, HP.out]; exact sls_succ E ms k)
        have HEN1 : Hid (headF true ms.length ++ entsL true E ms (k + 1) = (headF true ms.length ++ entsL true E ms k) ++ entL true ⟨p.cpu, p.sub, PL, p.bytes.length, p.align⟩) := by
          refine Lib.hid ?_
          rw [hPL, HP.out, List.append_assoc, entsL_succ]; rfl
        rw [← hPL] at hat1
        rw [← hYB] at Hfm
        obtain ⟨LB, hLB⟩ : ∃ LB, LB = headF true ms.length ++ entsL true E ms k := ⟨_, rfl⟩
        have HLB : Hid (LB.length = 8 + k * 32) := Lib.hid (by rw [hLB, List.length_append, headF_len, entsL_len]; rfl)
        rw [← hLB] at Hfm HEN1
        clear hLB
        have HYK : Hid (YB.length ≤ 2147483648) := Lib.hid (by have := padTo_ge (E + YB.length) (alignN p); have := HPLE.out; omega)
        clear hPL hYB HMEM HP hab
        obtain ⟨pc, ps, pa, pb⟩ := p
        simp only at k1 k2 k3 k4 hcpu hsub hbl hae hat1
        simp only [alignN] at hae ha15 HPLE
        obtain ⟨A, hA⟩ : ∃ A : Nat, A = pa.toNat := ⟨_, rfl⟩
        rw [← hA] at hae ha15 HPLE
        subst hae
        clear hA
        obtain ⟨P, hP⟩ : ∃ P, P = pw2 A := ⟨_, rfl⟩
        have h2A : (2 : Int) ^ A = (P : Int) := by rw [hP]; unfold pw2; push_cast; rfl
        have hP1 : 1 ≤ P := by rw [hP]; exact pw2_pos A
        have hP2 : P ≤ 32768 := by rw [hP]; exact pw2_mono ha15
        have HMK := Lib.hid (fun X hX => imask X A P hX ha15 hP)
        have HPD : Hid (∀ x, E + YB.length ≤ x → x ≤ PL → x % P = 0 → x = PL) := Lib.hid (fun x h1 h2 h3 => by rw [HPLE.out] at h2 ⊢; exact padTo_done h1 h2 (by rw [← hP]; exact h3))
        have HPM : Hid (∀ x, x ≤ PL → ¬ x % P = 0 → x + 1 ≤ PL) := Lib.hid (fun x h2 h3 => by rw [HPLE.out] at h2 ⊢; exact padTo_more h2 (by rw [← hP]; exact h3))
        clear hP
        have d1 : decide ((A : Int) < 0) = false := by simp
        have d2 : decide (15 < (A : Int)) = false := by simp; omega
        have HCPU := Lib.hid hcpu
        have HSUB := Lib.hid hsub
        have HBL := Lib.hid hbl
        have HAT1 := Lib.hid hat1
        have HC2 := Lib.hid hc2
        have HC1 := Lib.hid hc1
        have HN := Lib.hid hn
        have HEB := Lib.hid hEb
        clear hcpu hsub hbl hat1 hc2 hc1 hn hEb
        obtain ⟨aY, cY, rfl⟩ := Hfm.out.two.two.form
        go_wp2_with fail
        obtain ⟨w3, hw3⟩ : ∃ x, x = wr.alloc (.cells #[.int .u32 pc, .int .u32 ps, .int .i64 A, .slice a' pb.length cap'] 82) := ⟨_, rfl⟩
        obtain ⟨q, hq⟩ : ∃ x, x = wr.heap.size := ⟨_, rfl⟩
        have BP : Hid (w3.heap[q]? = some (.cells #[.int .u32 pc, .int .u32 ps, .int .i64 A, .slice a' pb.length cap'] 82 (0, 0))) := Lib.hid (by rw [hw3, hq]; exact heap_alloc_eq _ _)
        have C3 : Hid (Chg [] wr w3) := Lib.hid (by rw [hw3]; exact (Chg.refl _ _).alloc _)
        rw [← hw3, ← hq]
        clear hw3 hq k1 k2 k3 k4
        have FM3 := Lib.hid (Hfm.out.pure C3.out)
        have hYP : E + YB.length ≤ PL := by rw [HPLE.out]; exact padTo_ge _ _
        obtain ⟨wo, rfl⟩ : ∃ wo, wo = wr := ⟨_, rfl⟩
        go_loopw [12] (fun s12 wl => ∃ (j : Nat) (aJ : Option Addr) (cJ : Nat), s12 = .slice aJ (YB.length + j) cJ ∧ E + YB.length + j ≤ PL ∧ FM w wl u10 LB u11 (sls E ms k) s12 (YB ++ zerosL j) ∧
          wl.heap[q]? = some (.cells #[.int .u32 pc, .int .u32 ps, .int .i64 A, .slice a' pb.length cap'] 82 (0, 0))) (fun s12 _ => match s12 with | .slice _ n _ => PL - E - n | _ => 0)
        case atStart => exact ⟨0, aY, cY, rfl, hYP, by rw [show YB ++ zerosL 0 = YB from List.append_nil _]; exact FM3.out, BP.out⟩
        case round =>
          obtain ⟨j, aJ, cJ, rfl, hj, hfm2, hq2⟩ := hrel
          obtain ⟨wq, rfl⟩ : ∃ wq, wq = wr := ⟨_, rfl⟩
          have p0 := cell_of_heap hq2 0
          have p1 := cell_of_heap hq2 1
          have p2 := cell_of_heap hq2 2
          have p3 := cell_of_heap hq2 3
          simp at p0 p1 p2 p3
          have FMJ := Lib.hid (hfm2)
          have BPJ := Lib.hid (hq2)
          have hpl : PL ≤ 2147483648 := by have := HAT1.out; omega
          clear hfm2 hq2
          obtain ⟨X, hX⟩ : ∃ X, X = E + YB.length + j := ⟨_, rfl⟩
          have hm := HMK.out X (by omega)
          have hX' : (E : Int) + ((YB.length : Int) + (j : Int)) = (X : Int) := by omega
          by_cases h0 : X % P = 0
          · have hmb : (bits .and .i64 (X : Int) ((P : Int) - 1) != 0) = false := by rw [hm, h0]; rfl
            have HXP := Lib.hid (HPD.out X (by omega) (by omega) h0)
            have HX := Lib.hid (hX)
            clear hm h0 hX
            have hXle : X ≤ 2147483648 := by omega
            have hbl := HBL.out
            have HLJ : Hid (YB ++ zerosL j = YB ++ zerosL (PL - (E + YB.length))) := Lib.hid (by have h1 := HX.out; have h2 := HXP.out; rw [show PL - (E + YB.length) = j by omega])
            go_upto_region 16 with fail
            obtain ⟨w4, hw4⟩ : ∃ x, x = wq.alloc (.cells #[.int .u32 pc, .int .u32 ps, .int .u64 X, .int .u64 pb.length, .int .i64 A] 52) := ⟨_, rfl⟩
            obtain ⟨r, hr⟩ : ∃ x, x = wq.heap.size := ⟨_, rfl⟩
            have BS : Hid (w4.heap[r]? = some (.cells #[.int .u32 pc, .int .u32 ps, .int .u64 X, .int .u64 pb.length, .int .i64 A] 52 (0, 0))) := Lib.hid (by rw [hw4, hr]; exact heap_alloc_eq _ _)
            have C4 : Hid (Chg [] wq w4) := Lib.hid (by rw [hw4]; exact (Chg.refl _ _).alloc _)
            rw [← hw4, ← hr]
            have FM4 := Lib.hid (FMJ.out.pure C4.out)
            have BP4 := Lib.hid (C4.out.heap BPJ.out (by simp))
            obtain ⟨SS, hSS⟩ : ∃ SS, SS = u11.ownBlock.toList ++ (Value.slice aJ (YB.length + j) cJ).ownBlock.toList := ⟨_, rfl⟩
            have HSA : Hid (∀ i ∈ u11.ownBlock.toList, i ∈ SS) := Lib.hid (fun i hi => by rw [hSS]; exact List.mem_append_left _ hi)
            have HSB : Hid (∀ i ∈ (Value.slice aJ (YB.length + j) cJ).ownBlock.toList, i ∈ SS) := Lib.hid (fun i hi => by rw [hSS]; exact List.mem_append_right _ hi)
            have HRS : Hid (r ∉ SS) := by
              refine Lib.hid ?_
              rw [hSS, List.mem_append]
              rintro (hm | hm)
              · have := (World.ownsRow.lt FMJ.out.sl r (by simpa using hm)).2
                omega
              · exact own_ne FM4.out.two.two BS.out (by decide) hm
            have HQS : Hid (q ∉ SS) := by
              refine Lib.hid ?_
              rw [hSS, List.mem_append]
              rintro (hm | hm)
              · exact own_ne FM4.out.sl BP4.out (by decide) hm
              · exact own_ne FM4.out.two.two BP4.out (by decide) hm
            have HLEN : Hid ((YB ++ zerosL j).length + pb.length ≤ 140737488355328) := Lib.hid (by have h1 := HX.out; simp [zerosL]; omega)
            have HLS : Hid ((sls E ms k).length ≤ 1000000) := Lib.hid (by have := HN.out; rw [sls_len]; omega)
            have HSX : Hid (sls E ms (k + 1) = sls E ms k ++ [⟨pc, ps, X, pb.length, A⟩]) := Lib.hid (by rw [HXP.out]; exact HSL1.out)
            clear hw4 hr hSS p0 p1 p2 p3
            have hs := BS.out
            have s0 := cell_of_heap hs 0
            have s1 := cell_of_heap hs 1
            have s2 := cell_of_heap hs 2
            have s3 := cell_of_heap hs 3
            have s4 := cell_of_heap hs 4
            have hp := BP4.out
            have p3 := cell_of_heap hp 3
            simp at s0 s1 s2 s3 s4 p3
            clear hs hp
            have FM5 := Lib.hid (FM4.out.pure ((Chg.refl [] w4).drew))
            have D5 : Hid (Chg SS w4 w4.drew) := Lib.hid ((Chg.refl SS w4).drew)
            refine wp_region_noPanic ?_
            refine wp_region_held_drew (S := fun w' => Chg SS w4 w') (by kernel_rfl) D5.out (fun hHeld => ?_)
            refine take_read (i := 0) (v := ?_) (by simp only [List.getElem?_toArray, List.getElem?_cons_zero]; rfl) (by kernel_rfl) (by kernel_rfl) (by kernel_rfl) (fun _ _ _ h => h) hHeld ?_ ?_
            rotate_left
            · intro w hSw
              go_simp
              try with_reducible rfl
            try simp only [Act.put, List.setIfInBounds_toArray, List.set_cons_zero, List.set_cons_succ]
            refine take_read (i := 1) (v := ?_) (by simp only [List.getElem?_toArray, List.getElem?_cons_succ, List.getElem?_cons_zero]; rfl) (by kernel_rfl) (by kernel_rfl) (by kernel_rfl) (fun _ _ _ h => h) hHeld ?_ ?_
            rotate_left
            · intro w hSw
              (have s0 := hSw.cell s0 HRS.out; have s1 := hSw.cell s1 HRS.out; have s2 := hSw.cell s2 HRS.out; have s3 := hSw.cell s3 HRS.out; have s4 := hSw.cell s4 HRS.out)
              go_simp
              try with_reducible rfl
            try simp only [Act.put, List.setIfInBounds_toArray, List.set_cons_zero, List.set_cons_succ]
            refine take_read (i := 4) (v := ?_) (by simp only [List.getElem?_toArray, List.getElem?_cons_succ, List.getElem?_cons_zero]; rfl) (by kernel_rfl) (by kernel_rfl) (by kernel_rfl) (fun _ _ _ h => h) hHeld ?_ ?_
            rotate_left
            · intro w hSw
              skip
              go_simp
              try with_reducible rfl
            try simp only [Act.put, List.setIfInBounds_toArray, List.set_cons_zero, List.set_cons_succ]
            refine take_read (i := 5) (v := ?_) (by simp only [List.getElem?_toArray, List.getElem?_cons_succ, List.getElem?_cons_zero]; rfl) (by kernel_rfl) (by kernel_rfl) (by kernel_rfl) (fun _ _ _ h => h) hHeld ?_ ?_
            rotate_left
            · intro w hSw
              skip
              go_simp
              try with_reducible rfl
            try simp only [Act.put, List.setIfInBounds_toArray, List.set_cons_zero, List.set_cons_succ]
            refine take_read (i := 6) (v := ?_) (by simp only [List.getElem?_toArray, List.getElem?_cons_succ, List.getElem?_cons_zero]; rfl) (by kernel_rfl) (by kernel_rfl) (by kernel_rfl) (fun _ _ _ h => h) hHeld ?_ ?_
            rotate_left
            · intro w hSw
              (have p3 := hSw.cell p3 HQS.out)
              go_simp
              try with_reducible rfl
            try simp only [Act.put, List.setIfInBounds_toArray, List.set_cons_zero, List.set_cons_succ]
            clear s0 s1 s2 s3 s4 p3
            refine wpAnyH_ready (rs := [2]) (by kernel_rfl) (by simp) ?_
            refine AllReadyH.cons rfl (fun K hK => ?_) AllReadyH.nil
            go_simp
            obtain ⟨w6, hw6⟩ : ∃ x, x = (w4.alloc (.cells #[.int .u32 pc, .int .u32 ps, .int .u64 X, .int .u64 pb.length, .int .i64 A] 52)).drew := ⟨_, rfl⟩
            obtain ⟨r6, hr6⟩ : ∃ x, x = w4.heap.size := ⟨_, rfl⟩
            have B6 : Hid (w6.heap[r6]? = some (.cells #[.int .u32 pc, .int .u32 ps, .int .u64 X, .int .u64 pb.length, .int .i64 A] 52 (0, 0))) := Lib.hid (by rw [hw6, hr6]; exact heap_alloc_eq _ _)
            have C6 : Hid (Chg [] w4 w6) := Lib.hid (by rw [hw6]; exact ((Chg.refl _ _).alloc _).drew)
            rw [← hw6, ← hr6]
            clear hw6 hr6
            have D6 : Hid (Chg SS w4 w6) := Lib.hid (C6.out.add)
            refine hK.out _ _ D6.out (fun _ => ?_)
            clear hK hHeld K
            have hHeld := D6.out
            try (unfold Act.put; simp only [List.setIfInBounds_toArray, List.set_cons_zero, List.set_cons_succ])
            have FM6 := Lib.hid (FM4.out.pure C6.out)
            refine wpAnyH_ready (rs := [3]) (by kernel_rfl) (by simp) ?_
            refine AllReadyH.cons (by simp only [List.getElem?_toArray, List.getElem?_cons_succ, List.getElem?_cons_zero]; rfl) (fun K hK => ?_) AllReadyH.nil
            refine arm_sl rfl _ _ rfl w.heap.size u11 (sls E ms k) rfl FM6.out.sl r6 ⟨pc, ps, X, pb.length, A⟩ rfl B6.out HLS.out FM6.out.chg.size (fun v7 w7 hsl hga => ?_)
            have FM7 : Hid (FM w w7 u10 LB v7 (sls E ms (k + 1)) (.slice aJ (YB.length + j) cJ) (YB ++ zerosL j)) := Lib.hid (by rw [HSX.out]; exact FM6.out.s hsl hga)
            have D7 : Hid (Chg SS w4 w7) := Lib.hid (D6.out.same ((Chg.of_grown hga).mono (fun i hi _ => HSA.out i hi)))
            clear hsl hga
            refine hK.out _ _ D7.out (fun _ => ?_)
            clear hK hHeld K
            have hHeld := D7.out
            try (unfold Act.put; simp only [List.setIfInBounds_toArray, List.set_cons_zero, List.set_cons_succ])
            refine wpAnyH_ready (rs := [7]) (by kernel_rfl) (by simp) ?_
            refine AllReadyH.cons (by simp only [List.getElem?_toArray, List.getElem?_cons_succ, List.getElem?_cons_zero]; rfl) (fun K hK => ?_) AllReadyH.nil
            refine arm_bytes rfl _ _ rfl w.heap.size (.slice aJ (YB.length + j) cJ) (YB ++ zerosL j) rfl FM7.out.two.two _ rfl pb (HR0.out.frame FM7.out.chg (fun _ _ hm => by cases hm)) HLEN.out FM7.out.chg.size (fun v8 w8 hga => ?_)
            have FM8 : Hid (FM w w8 u10 LB v7 (sls E ms (k + 1)) v8 (bodyL E (ms.take (k + 1)))) := Lib.hid (by rw [HBD1.out, ← HLJ.out]; exact FM7.out.y hga)
            have D8 : Hid (Chg SS w4 w8) := Lib.hid (D7.out.same (hga.chg.mono (fun i hi _ => HSB.out i hi)))
            clear hga
            refine hK.out _ _ D8.out (fun _ => ?_)
            clear hK hHeld K
            have hHeld := D8.out
            try (unfold Act.put; simp only [List.setIfInBounds_toArray, List.set_cons_zero, List.set_cons_succ])
            refine take_read (i := 8) (v := ?_) (by simp only [List.getElem?_toArray, List.getElem?_cons_succ, List.getElem?_cons_zero]; rfl) (by kernel_rfl) (by kernel_rfl) (by kernel_rfl) (fun _ _ _ h => h) hHeld ?_ ?_
            rotate_left
            · intro w hSw
              skip
              go_simp
              try with_reducible rfl
            try simp only [Act.put, List.setIfInBounds_toArray, List.set_cons_zero, List.set_cons_succ]
            refine take_read (i := 9) (v := ?_) (by simp only [List.getElem?_toArray, List.getElem?_cons_succ, List.getElem?_cons_zero]; rfl) (by kernel_rfl) (by kernel_rfl) (by kernel_rfl) (fun _ _ _ h => h) hHeld ?_ ?_
            rotate_left
            · intro w hSw
              skip
              go_simp
              try with_reducible rfl
            try simp only [Act.put, List.setIfInBounds_toArray, List.set_cons_zero, List.set_cons_succ]
            refine wpAnyH_done (by kernel_rfl) ?_ _
            refine NoPanic.normal ?_
            have BP8 := Lib.hid (D8.out.heap BP4.out HQS.out)
            have BS8 := Lib.hid (D8.out.heap BS.out HRS.out)
            clear hHeld FM4 FM5 D5 FM6 D6 FM7 D7 D8 B6 C6
            go_upto_region 17 with fail
            have HLK : Hid (LB.length ≤ 70368744177664) := Lib.hid (by have := HLB.out; have := HN.out; omega)
            have HPB : Hid (q ∉ u10.ownBlock.toList) := Lib.hid (own_ne FM8.out.two.one BP8.out (by decide))
            have HRB : Hid (r ∉ u10.ownBlock.toList) := Lib.hid (own_ne FM8.out.two.one BS8.out (by decide))
            have hwc : IntKind.u64.wrap (pc : Int) = (pc : Int) := by have := HCPU.out; rw [IntKind.wrap_u64]; omega
            have hws : IntKind.u64.wrap (ps : Int) = (ps : Int) := by have := HSUB.out; rw [IntKind.wrap_u64]; omega
            have hp := BP8.out
            have p0 := cell_of_heap hp 0
            have p1 := cell_of_heap hp 1
            have p2 := cell_of_heap hp 2
            simp at p0 p1 p2
            clear hp
            refine wp_region_noPanic ?_
            refine wp_region_held_drew (S := fun w' => Chg u10.ownBlock.toList w8 w') (by kernel_rfl) ((Chg.refl _ _).drew) (fun hHeld => ?_)
            refine take_read (i := 0) (v := ?_) (by simp only [List.getElem?_toArray, List.getElem?_cons_zero]; rfl) (by kernel_rfl) (by kernel_rfl) (by kernel_rfl) (fun _ _ _ h => h) hHeld ?_ ?_
            rotate_left
            · intro w hSw
              go_simp
              try with_reducible rfl
            try simp only [Act.put, List.setIfInBounds_toArray, List.set_cons_zero, List.set_cons_succ]
            refine take_read (i := 1) (v := ?_) (by simp only [List.getElem?_toArray, List.getElem?_cons_succ, List.getElem?_cons_zero]; rfl) (by kernel_rfl) (by kernel_rfl) (by kernel_rfl) (fun _ _ _ h => h) hHeld ?_ ?_
            rotate_left
            · intro w hSw
              skip
              go_simp
              try with_reducible rfl
            try simp only [Act.put, List.setIfInBounds_toArray, List.set_cons_zero, List.set_cons_succ]
            refine take_read (i := 2) (v := ?_) (by simp only [List.getElem?_toArray, List.getElem?_cons_succ, List.getElem?_cons_zero]; rfl) (by kernel_rfl) (by kernel_rfl) (by kernel_rfl) (fun _ _ _ h => h) hHeld ?_ ?_
            rotate_left
            · intro w hSw
              (have p0 := hSw.cell p0 HPB.out)
              go_simp
              try with_reducible rfl
            try simp only [Act.put, List.setIfInBounds_toArray, List.set_cons_zero, List.set_cons_succ]
            refine take_read (i := 3) (v := ?_) (by simp only [List.getElem?_toArray, List.getElem?_cons_succ, List.getElem?_cons_zero]; rfl) (by kernel_rfl) (by kernel_rfl) (by kernel_rfl) (fun _ _ _ h => h) hHeld ?_ ?_
            rotate_left
            · intro w hSw
              skip
              go_simp
              try with_reducible rfl
            try simp only [Act.put, List.setIfInBounds_toArray, List.set_cons_zero, List.set_cons_succ]
            refine take_read (i := 5) (v := ?_) (by simp only [List.getElem?_toArray, List.getElem?_cons_succ, List.getElem?_cons_zero]; rfl) (by kernel_rfl) (by kernel_rfl) (by kernel_rfl) (fun _ _ _ h => h) hHeld ?_ ?_
            rotate_left
            · intro w hSw
              skip
              go_simp
              try with_reducible rfl
            try simp only [Act.put, List.setIfInBounds_toArray, List.set_cons_zero, List.set_cons_succ]
            refine take_read (i := 6) (v := ?_) (by simp only [List.getElem?_toArray, List.getElem?_cons_succ, List.getElem?_cons_zero]; rfl) (by kernel_rfl) (by kernel_rfl) (by kernel_rfl) (fun _ _ _ h => h) hHeld ?_ ?_
            rotate_left
            · intro w hSw
              (have p1 := hSw.cell p1 HPB.out)
              go_simp
              try with_reducible rfl
            try simp only [Act.put, List.setIfInBounds_toArray, List.set_cons_zero, List.set_cons_succ]
            refine take_read (i := 7) (v := ?_) (by simp only [List.getElem?_toArray, List.getElem?_cons_succ, List.getElem?_cons_zero]; rfl) (by kernel_rfl) (by kernel_rfl) (by kernel_rfl) (fun _ _ _ h => h) hHeld ?_ ?_
            rotate_left
            · intro w hSw
              skip
              go_simp
              try with_reducible rfl
            try simp only [Act.put, List.setIfInBounds_toArray, List.set_cons_zero, List.set_cons_succ]
            refine wpAnyH_ready (rs := [4]) (by kernel_rfl) (by simp) ?_
            refine AllReadyH.cons rfl (fun K hK => ?_) AllReadyH.nil
            go_simp
            have FM9 := Lib.hid (FM8.out.pure ((Chg.refl [] w8).drew))
            refine (fput_any u10 LB pc 4 (by decide) w.heap.size w8.drew FM9.out.two.one FM9.out.chg.size HLK.out).mono ?_
            rintro e w9 ⟨v9, rfl, hg9⟩
            have G9 := Lib.hid (hg9)
            have FM10 := Lib.hid (FM9.out.b hg9)
            clear hg9
            refine hK.out _ _ (show Chg u10.ownBlock.toList w8 w9 from ((Chg.refl _ w8).drew).same G9.out.chg) (fun _ => ?_)
            clear hK hHeld K
            have hHeld := (show Chg u10.ownBlock.toList w8 w9 from ((Chg.refl _ w8).drew).same G9.out.chg)
            try (unfold Act.put; simp only [List.setIfInBounds_toArray, List.set_cons_zero, List.set_cons_succ])
            refine wpAnyH_ready (rs := [8]) (by kernel_rfl) (by simp) ?_
            refine AllReadyH.cons rfl (fun K hK => ?_) AllReadyH.nil
            go_simp
            refine (fput_any v9 (LB ++ bgL pc 4) ps 4 (by decide) w.heap.size w9 FM10.out.two.one FM10.out.chg.size (by have := HLB.out; have := HN.out; rw [List.length_append, bgL_len]; omega)).mono ?_
            rintro e wa ⟨va, rfl, hga⟩
            have GA := Lib.hid (G9.out.trans hga)
            have FMA := Lib.hid (FM10.out.b hga)
            clear hga G9
            refine hK.out _ _ (show Chg u10.ownBlock.toList w8 wa from ((Chg.refl _ w8).drew).same GA.out.chg) (fun _ => ?_)
            clear hK hHeld K
            have hHeld := (show Chg u10.ownBlock.toList w8 wa from ((Chg.refl _ w8).drew).same GA.out.chg)
            try (unfold Act.put; simp only [List.setIfInBounds_toArray, List.set_cons_zero, List.set_cons_succ])
            refine take_read (i := 9) (v := ?_) (by simp only [List.getElem?_toArray, List.getElem?_cons_succ, List.getElem?_cons_zero]; rfl) (by kernel_rfl) (by kernel_rfl) (by kernel_rfl) (fun _ _ _ h => h) hHeld ?_ ?_
            rotate_left
            · intro w hSw
              skip
              go_simp
              try with_reducible rfl
            try simp only [Act.put, List.setIfInBounds_toArray, List.set_cons_zero, List.set_cons_succ]
            refine wpAnyH_done (by kernel_rfl) ?_ _
            refine NoPanic.normal ?_
            have DA : Hid (Chg u10.ownBlock.toList w8 wa) := Lib.hid (((Chg.refl _ w8).drew).same GA.out.chg)
            have BPA := Lib.hid (DA.out.heap BP8.out HPB.out)
            have BSA := Lib.hid (DA.out.heap BS8.out HRB.out)
            clear hHeld FM8 FM9 FM10 DA GA BP8 BS8 HPB HRB p0 p1 p2 hwc hws
            go_upto_region 18 with fail
            obtain ⟨LC, hLC⟩ : ∃ LC, LC = LB ++ (bgL pc 4 ++ bgL ps 4) := ⟨_, rfl⟩
            have hLCl : LC.length = 16 + k * 32 := by have := HLB.out; rw [hLC]; simp only [List.length_append, bgL_len]; omega
            have HLC := Lib.hid (hLC)
            have HLCL := Lib.hid (hLCl)
            replace FMA : Hid (FM w wa va LC v7 (sls E ms (k + 1)) v8 (bodyL E (ms.take (k + 1)))) := by rw [hLC, ← List.append_assoc]; exact FMA
            clear hLC hLCl
            have HPB : Hid (q ∉ va.ownBlock.toList) := Lib.hid (own_ne FMA.out.two.one BPA.out (by decide))
            have HRB : Hid (r ∉ va.ownBlock.toList) := Lib.hid (own_ne FMA.out.two.one BSA.out (by decide))
            have hwA : IntKind.u64.wrap (A : Int) = (A : Int) := by rw [IntKind.wrap_u64]; omega
            have hp := BPA.out
            have hs := BSA.out
            have p2 := cell_of_heap hp 2
            have s2 := cell_of_heap hs 2
            have s3 := cell_of_heap hs 3
            simp at p2 s2 s3
            clear hp hs
            refine wp_region_noPanic ?_
            refine wp_region_held_drew (S := fun w' => Chg va.ownBlock.toList wa w') (by kernel_rfl) ((Chg.refl _ _).drew) (fun hHeld => ?_)
            refine take_read (i := 0) (v := ?_) (by simp only [List.getElem?_toArray, List.getElem?_cons_zero]; rfl) (by kernel_rfl) (by kernel_rfl) (by kernel_rfl) (fun _ _ _ h => h) hHeld ?_ ?_
            rotate_left
            · intro w hSw
              go_simp
              try with_reducible rfl
            try simp only [Act.put, List.setIfInBounds_toArray, List.set_cons_zero, List.set_cons_succ]
            refine take_read (i := 1) (v := ?_) (by simp only [List.getElem?_toArray, List.getElem?_cons_succ, List.getElem?_cons_zero]; rfl) (by kernel_rfl) (by kernel_rfl) (by kernel_rfl) (fun _ _ _ h => h) hHeld ?_ ?_
            rotate_left
            · intro w hSw
              skip
              go_simp
              try with_reducible rfl
            try simp only [Act.put, List.setIfInBounds_toArray, List.set_cons_zero, List.set_cons_succ]
            refine take_read (i := 2) (v := ?_) (by simp only [List.getElem?_toArray, List.getElem?_cons_succ, List.getElem?_cons_zero]; rfl) (by kernel_rfl) (by kernel_rfl) (by kernel_rfl) (fun _ _ _ h => h) hHeld ?_ ?_
            rotate_left
            · intro w hSw
              skip
              go_simp
              try with_reducible rfl
            try simp only [Act.put, List.setIfInBounds_toArray, List.set_cons_zero, List.set_cons_succ]
            refine take_read (i := 3) (v := ?_) (by simp only [List.getElem?_toArray, List.getElem?_cons_succ, List.getElem?_cons_zero]; rfl) (by kernel_rfl) (by kernel_rfl) (by kernel_rfl) (fun _ _ _ h => h) hHeld ?_ ?_
            rotate_left
            · intro w hSw
              (have s2 := hSw.cell s2 HRB.out)
              go_simp
              try with_reducible rfl
            try simp only [Act.put, List.setIfInBounds_toArray, List.set_cons_zero, List.set_cons_succ]
            refine take_read (i := 4) (v := ?_) (by simp only [List.getElem?_toArray, List.getElem?_cons_succ, List.getElem?_cons_zero]; rfl) (by kernel_rfl) (by kernel_rfl) (by kernel_rfl) (fun _ _ _ h => h) hHeld ?_ ?_
            rotate_left
            · intro w hSw
              skip
              go_simp
              try with_reducible rfl
            try simp only [Act.put, List.setIfInBounds_toArray, List.set_cons_zero, List.set_cons_succ]
            refine take_read (i := 6) (v := ?_) (by simp only [List.getElem?_toArray, List.getElem?_cons_succ, List.getElem?_cons_zero]; rfl) (by kernel_rfl) (by kernel_rfl) (by kernel_rfl) (fun _ _ _ h => h) hHeld ?_ ?_
            rotate_left
            · intro w hSw
              skip
              go_simp
              try with_reducible rfl
            try simp only [Act.put, List.setIfInBounds_toArray, List.set_cons_zero, List.set_cons_succ]
            refine take_read (i := 7) (v := ?_) (by simp only [List.getElem?_toArray, List.getElem?_cons_succ, List.getElem?_cons_zero]; rfl) (by kernel_rfl) (by kernel_rfl) (by kernel_rfl) (fun _ _ _ h => h) hHeld ?_ ?_
            rotate_left
            · intro w hSw
              skip
              go_simp
              try with_reducible rfl
            try simp only [Act.put, List.setIfInBounds_toArray, List.set_cons_zero, List.set_cons_succ]
            refine take_read (i := 8) (v := ?_) (by simp only [List.getElem?_toArray, List.getElem?_cons_succ, List.getElem?_cons_zero]; rfl) (by kernel_rfl) (by kernel_rfl) (by kernel_rfl) (fun _ _ _ h => h) hHeld ?_ ?_
            rotate_left
            · intro w hSw
              (have s3 := hSw.cell s3 HRB.out)
              go_simp
              try with_reducible rfl
            try simp only [Act.put, List.setIfInBounds_toArray, List.set_cons_zero, List.set_cons_succ]
            refine take_read (i := 9) (v := ?_) (by simp only [List.getElem?_toArray, List.getElem?_cons_succ, List.getElem?_cons_zero]; rfl) (by kernel_rfl) (by kernel_rfl) (by kernel_rfl) (fun _ _ _ h => h) hHeld ?_ ?_
            rotate_left
            · intro w hSw
              skip
              go_simp
              try with_reducible rfl
            try simp only [Act.put, List.setIfInBounds_toArray, List.set_cons_zero, List.set_cons_succ]
            refine take_read (i := 11) (v := ?_) (by simp only [List.getElem?_toArray, List.getElem?_cons_succ, List.getElem?_cons_zero]; rfl) (by kernel_rfl) (by kernel_rfl) (by kernel_rfl) (fun _ _ _ h => h) hHeld ?_ ?_
            rotate_left
            · intro w hSw
              skip
              go_simp
              try with_reducible rfl
            try simp only [Act.put, List.setIfInBounds_toArray, List.set_cons_zero, List.set_cons_succ]
            refine take_read (i := 12) (v := ?_) (by simp only [List.getElem?_toArray, List.getElem?_cons_succ, List.getElem?_cons_zero]; rfl) (by kernel_rfl) (by kernel_rfl) (by kernel_rfl) (fun _ _ _ h => h) hHeld ?_ ?_
            rotate_left
            · intro w hSw
              (have p2 := hSw.cell p2 HPB.out)
              go_simp
              try with_reducible rfl
            try simp only [Act.put, List.setIfInBounds_toArray, List.set_cons_zero, List.set_cons_succ]
            refine take_read (i := 13) (v := ?_) (by simp only [List.getElem?_toArray, List.getElem?_cons_succ, List.getElem?_cons_zero]; rfl) (by kernel_rfl) (by kernel_rfl) (by kernel_rfl) (fun _ _ _ h => h) hHeld ?_ ?_
            rotate_left
            · intro w hSw
              skip
              go_simp
              try with_reducible rfl
            try simp only [Act.put, List.setIfInBounds_toArray, List.set_cons_zero, List.set_cons_succ]
            refine wpAnyH_ready (rs := [5]) (by kernel_rfl) (by simp) ?_
            refine AllReadyH.cons rfl (fun K hK => ?_) AllReadyH.nil
            go_simp
            have FM9 := Lib.hid (FMA.out.pure ((Chg.refl [] wa).drew))
            refine (fput_any va LC X 8 (by decide) w.heap.size wa.drew FM9.out.two.one FM9.out.chg.size (by have := HLCL.out; have := HN.out; omega)).mono ?_
            rintro e w9 ⟨v9, rfl, hg9⟩
            have G9 := Lib.hid (hg9)
            have FM10 := Lib.hid (FM9.out.b hg9)
            clear hg9
            refine hK.out _ _ (show Chg va.ownBlock.toList wa w9 from ((Chg.refl _ wa).drew).same G9.out.chg) (fun _ => ?_)
            clear hK hHeld K
            have hHeld := (show Chg va.ownBlock.toList wa w9 from ((Chg.refl _ wa).drew).same G9.out.chg)
            try (unfold Act.put; simp only [List.setIfInBounds_toArray, List.set_cons_zero, List.set_cons_succ])
            refine wpAnyH_ready (rs := [10]) (by kernel_rfl) (by simp) ?_
            refine AllReadyH.cons rfl (fun K hK => ?_) AllReadyH.nil
            go_simp
            refine (fput_any v9 (LC ++ bgL X 8) pb.length 8 (by decide) w.heap.size w9 FM10.out.two.one FM10.out.chg.size (by have := HLCL.out; have := HN.out; rw [List.length_append, bgL_len]; omega)).mono ?_
            rintro e wb ⟨vb, rfl, hga⟩
            have GB := Lib.hid (G9.out.trans hga)
            have FMB := Lib.hid (FM10.out.b hga)
            clear hga G9
            refine hK.out _ _ (show Chg va.ownBlock.toList wa wb from ((Chg.refl _ wa).drew).same GB.out.chg) (fun _ => ?_)
            clear hK hHeld K
            have hHeld := (show Chg va.ownBlock.toList wa wb from ((Chg.refl _ wa).drew).same GB.out.chg)
            try (unfold Act.put; simp only [List.setIfInBounds_toArray, List.set_cons_zero, List.set_cons_succ])
            refine wpAnyH_ready (rs := [14]) (by kernel_rfl) (by simp) ?_
            refine AllReadyH.cons rfl (fun K hK => ?_) AllReadyH.nil
            go_simp
            refine (fput_any vb ((LC ++ bgL X 8) ++ bgL pb.length 8) A 4 (by decide) w.heap.size wb FMB.out.two.one FMB.out.chg.size (by have := HLCL.out; have := HN.out; rw [List.length_append, List.length_append, bgL_len, bgL_len]; omega)).mono ?_
            rintro e wz ⟨vz, rfl, hga⟩
            have GZ : Hid (Grew wa.drew w.heap.size va LC wz vz ((bgL X 8 ++ bgL pb.length 8) ++ bgL A 4)) := Lib.hid (GB.out.trans (by rw [← List.append_assoc]; exact hga))
            have FMZ := Lib.hid (FMB.out.b hga)
            clear hga GB
            refine hK.out _ _ (show Chg va.ownBlock.toList wa wz from ((Chg.refl _ wa).drew).same GZ.out.chg) (fun _ => ?_)
            clear hK hHeld K
            have hHeld := (show Chg va.ownBlock.toList wa wz from ((Chg.refl _ wa).drew).same GZ.out.chg)
            try (unfold Act.put; simp only [List.setIfInBounds_toArray, List.set_cons_zero, List.set_cons_succ])
            refine take_read (i := 15) (v := ?_) (by simp only [List.getElem?_toArray, List.getElem?_cons_succ, List.getElem?_cons_zero]; rfl) (by kernel_rfl) (by kernel_rfl) (by kernel_rfl) (fun _ _ _ h => h) hHeld ?_ ?_
            rotate_left
            · intro w hSw
              skip
              go_simp
              try with_reducible rfl
            try simp only [Act.put, List.setIfInBounds_toArray, List.set_cons_zero, List.set_cons_succ]
            refine wpAnyH_done (by kernel_rfl) ?_ _
            refine NoPanic.normal ?_
            clear hHeld FMA FM9 FM10 FMB GZ BPA BSA HPB HRB p2 s2 s3 hwA
            obtain ⟨LZ, hLZ⟩ : ∃ LZ, LZ = ((LC ++ bgL X 8) ++ bgL pb.length 8) ++ bgL A 4 := ⟨_, rfl⟩
            rw [← hLZ] at FMZ
            have hLZl : LZ.length + 4 = 8 + (k + 1) * 32 := by have := HLCL.out; rw [hLZ]; simp only [List.length_append, bgL_len]; omega
            have HNEW : Hid (headF true ms.length ++ entsL true E ms (k + 1) = LZ ++ zerosL 4) := by
              refine Lib.hid ?_
              rw [HEN1.out, hLZ, HLC.out, HXP.out]
              unfold entL
              simp only [List.append_assoc, Int.toNat_natCast]
              rfl
            have HLZL := Lib.hid (hLZl)
            clear hLZ hLZl
            obtain ⟨aS, cS, hv7⟩ := FMZ.out.sl.form
            rw [sls_len] at hv7
            subst hv7
            obtain ⟨aB, cB, rfl⟩ := FMZ.out.two.one.form
            have hkn : k + 1 ≤ 1000 := by have := HN.out; omega
            have hlz : LZ.length ≤ 40000 := by have := HLZL.out; omega
            clear hX' hmb h2A hP1 hP2 hpl hj hXle hbl d1 d2
            go_wp2_with fail
            obtain ⟨wn, rfl⟩ : ∃ wn, wn = wq := ⟨_, rfl⟩
            go_loopw [10] (fun s10 wl => ∃ (i : Nat) (aJ : Option Addr) (cJ : Nat), s10 = .slice aJ (LZ.length + i) cJ ∧ i ≤ 4 ∧ FM w wl s10 (LZ ++ zerosL i) (.slice aS (k + 1) cS) (sls E ms (k + 1)) v8 (bodyL E (ms.take (k + 1)))) (fun s10 _ => match s10 with | .slice _ n _ => LZ.length + 4 - n | _ => 0)
            case atStart => exact ⟨0, aB, cB, rfl, Nat.zero_le _, by rw [show LZ ++ zerosL 0 = LZ from List.append_nil _]; exact FMZ.out⟩
            case round =>
              obtain ⟨i, aI, cI, rfl, hi, hfm2⟩ := hrel
              have FMI := Lib.hid (hfm2)
              clear hfm2
              obtain ⟨wi, rfl⟩ : ∃ wi, wi = wr := ⟨_, rfl⟩
              by_cases hlt2 : i < 4
              · have c1 : decide ((LZ.length : Int) + (i : Int) < 8 + ((k : Int) + 1) * 32) = true := by have := HLZL.out; rw [decide_eq_true_iff]; omega
                have HGI := Lib.hid (FMI.out.two.one)
                go_wp2_with (at_builtin; refine app_buf rfl _ _ rfl w.heap.size (.slice aI (LZ.length + i) cI) (LZ ++ zerosL i) rfl (HGI.out.pure ((Chg.refl [] wi).alloc _)) _ rfl [0] (Rd_byte wi 0 (by decide) _) (by simp [zerosL]; omega) (by have := FMI.out.chg.size; simp only [World.alloc, Array.size_push]; omega) ?_; intro va2 wa2 hoa hga haa; refine Hid.out ?_)
                refine Lib.hid ?_
                have HGR : Hid (Grew wi w.heap.size (.slice aI (LZ.length + i) cI) (LZ ++ zerosL i) wa2 va2 [0]) := Lib.hid (Grew.mk' ((Chg.refl [] wi).alloc _) hoa hga haa)
                have hz : zerosL (i + 1) = zerosL i ++ [0] := List.replicate_succ'
                have FMN : Hid (FM w wa2 va2 (LZ ++ zerosL (i + 1)) (.slice aS (k + 1) cS) (sls E ms (k + 1)) v8 (bodyL E (ms.take (k + 1)))) := Lib.hid (by rw [hz, ← List.append_assoc]; exact FMI.out.b HGR.out)
                clear hoa hga haa hz
                obtain ⟨aN, cN, rfl⟩ := FMN.out.two.one.form
                have hln : (LZ ++ zerosL (i + 1)).length = LZ.length + (i + 1) := by simp [zerosL]
                rw [hln] at FMN HGR
                rw [hln]
                go_wp2
                go_roundw
                case rel => exact ⟨i + 1, aN, cN, rfl, hlt2, FMN.out⟩
                case measure => simp; omega
              · obtain rfl : i = 4 := by omega
                have c1 : decide ((LZ.length : Int) + 4 < 8 + ((k : Int) + 1) * 32) = false := by have := HLZL.out; rw [decide_eq_false_iff_not]; omega
                rw [← HNEW.out] at FMI
                go_wp2
                go_roundw
                case rel => exact ⟨k + 1, hlt, by go_num, HAL1.out, FMI.out⟩
                case measure => simp [intOf]; omega
          · have hmb : (bits .and .i64 (X : Int) ((P : Int) - 1) != 0) = true := by rw [hm, bne_iff_ne]; omega
            have hXP := HPM.out X (by omega) h0
            have HX := Lib.hid (hX)
            clear hm h0 p0 p1 p3 hX
            have HGJ := Lib.hid (FMJ.out.two.two)
            go_wp2_with (at_builtin; refine app_buf rfl _ _ rfl w.heap.size (.slice aJ (YB.length + j) cJ) (YB ++ zerosL j) rfl (HGJ.out.pure ((Chg.refl [] wq).alloc _)) _ rfl [0] (Rd_byte wq 0 (by decide) _) (by have := HYK.out; simp [zerosL]; omega) (by have := FMJ.out.chg.size; simp only [World.alloc, Array.size_push]; omega) ?_; intro va wa hoa hga haa; refine Hid.out ?_)
            refine Lib.hid ?_
            have HGR : Hid (Grew wq w.heap.size (.slice aJ (YB.length + j) cJ) (YB ++ zerosL j) wa va [0]) := Lib.hid (Grew.mk' ((Chg.refl [] wq).alloc _) hoa hga haa)
            have hz : zerosL (j + 1) = zerosL j ++ [0] := List.replicate_succ'
            have FMN : Hid (FM w wa u10 LB u11 (sls E ms k) va (YB ++ zerosL (j + 1))) := Lib.hid (by rw [hz, ← List.append_assoc]; exact FMJ.out.y HGR.out)
            have BPN := Lib.hid (HGR.out.keep HGJ.out BPJ.out (by decide))
            clear hoa hga haa hz
            obtain ⟨aN, cN, rfl⟩ := FMN.out.two.two.form
            have hln : (YB ++ zerosL (j + 1)).length = YB.length + (j + 1) := by simp [zerosL]
            rw [hln] at FMN HGR
            rw [hln]
            go_wp2
            go_roundw
            case rel => exact ⟨j + 1, aN, cN, rfl, by have := HX.out; omega, FMN.out, BPN.out⟩
            case measure => have := HX.out; simp; omega
    · obtain rfl : k = ms.length := by omega
      rw [List.take_length] at Hal Hfm
      have HALL : Hid ((ms.all alB) = true) := Lib.hid (List.all_eq_true.2 Hal.out)
      obtain ⟨T, hT⟩ : ∃ T, T = (bodyL E ms).length := ⟨_, rfl⟩
      have hAT : E + T = atL (endOf true ms) ms := by rw [hT, ← HE0.out]; exact bodyL_at E ms
      obtain ⟨aY, cY, hu12⟩ := Hfm.out.two.two.form
      rw [← hT] at hu12
      subst hu12
      have HTB : Hid ((bodyL E ms).length = T) := Lib.hid (hT.symm)
      have HAT := Lib.hid (hAT)
      have hTk : E + T ≤ 2147483648 := by have := HSM.out ms.length (Nat.le_refl _) (by rw [List.take_length]; exact Hal.out); rw [List.take_length] at this; have e := HE0.out; rw [hAT, ← e]; exact this
      clear hT hAT hlt hk
      by_cases hn0 : ms.length = 0
      · have k0 : ((ms.length : Int) == 0) = true := by rw [beq_iff_eq]; omega
        have HE : Hid (fatE true ms = 2) := Lib.hid (by unfold fatE; rw [HALL.out, if_neg (by decide), if_pos hn0])
        clear hn0
        go_wp2
        go_ret2
        rw [HE.out]
        exact ⟨_, rfl, fun h => absurd h (by decide), fun _ => rfl, Hfm.out.chg⟩
      · have k0 : ((ms.length : Int) == 0) = false := by rw [beq_eq_false_iff_ne]; omega
        by_cases h1 : 32 < ms.length
        · have d1 : decide ((32 : Int) < ms.length) = true := by simp; omega
          have HE : Hid (fatE true ms = 11) := Lib.hid (by unfold fatE; rw [HALL.out, if_neg (by decide), if_neg hn0, if_pos (.inl h1)])
          clear hn0 h1
          go_wp2
          go_ret2
          rw [HE.out]
          exact ⟨_, rfl, fun h => absurd h (by decide), fun _ => rfl, Hfm.out.chg⟩
        · have d1 : decide ((32 : Int) < ms.length) = false := by simp; omega
          by_cases h2 : 1048576 < E + T
          · have d2 : decide ((1048576 : Int) < (E : Int) + (T : Int)) = true := by simp; omega
            have HE : Hid (fatE true ms = 11) := Lib.hid (by unfold fatE; rw [HALL.out, if_neg (by decide), if_neg hn0, if_pos (.inr (by rw [← HAT.out]; exact h2))])
            clear hn0 h1
            go_wp2
            go_ret2
            rw [HE.out]
            exact ⟨_, rfl, fun h => absurd h (by decide), fun _ => rfl, Hfm.out.chg⟩
          · have d2 : decide ((1048576 : Int) < (E : Int) + (T : Int)) = false := by simp; omega
            have HE : Hid (fatE true ms = if anyM ms ms.length = true then 21 else 0) := Lib.hid (by unfold fatE; rw [HALL.out, if_neg (by decide), if_neg hn0, if_neg (by rw [← HAT.out]; omega)])
            have HLT : Hid (T ≤ 1048576) := Lib.hid (by omega)
            have HAP := Lib.hid (apE_sls E ms)
            have HSO : Hid (∀ s ∈ sls E ms ms.length, s.ok) := by
              refine Lib.hid ?_
              intro s hs
              obtain ⟨i, hi, rfl⟩ := List.mem_map.1 hs
              rw [List.mem_range] at hi
              exact slOf_ok E ms ms.length i (Nat.le_refl _) hi Hok.out (by rw [List.take_length]; have := bodyL_at E ms; have := HTB.out; omega)
            have HSK : Hid ((sls E ms ms.length).length ≤ 1000) := Lib.hid (by rw [sls_len]; exact hn)
            clear hn0 h1 h2
            go_wp2_with fail
            refine (apart_any (sls E ms ms.length) HSK.out HSO.out u11 wr Hfm.out.sl.rd).mono ?_
            rintro e w3 ⟨ve, rfl, he, hch⟩
            rw [HAP.out] at he
            have C3 := Lib.hid (hch)
            clear hch
            have FM3 := Lib.hid (Hfm.out.pure C3.out)
            cases hany : anyM ms ms.length with
            | true =>
              rw [hany, if_pos rfl] at he HE
              rcases he with ⟨h0, _⟩ | ⟨h0, bE, atE, rfl, hb⟩
              · exact absurd h0 (by decide)
              · have HBE := Lib.hid (hb)
                clear hb hany h0
                go_wp2_with fail
                refine (Code_wrong bE _ 21 w3 (HG.out.frame FM3.out.chg (by simp)) HBE.out).mono ?_
                rintro e w4 ⟨rfl, hch⟩
                have C4 := Lib.hid (FM3.out.chg.then hch)
                clear hch
                go_wp2
                go_ret2
                rw [HE.out]
                exact ⟨_, rfl, fun h => absurd h (by decide), fun _ => rfl, C4.out⟩
            | false =>
              rw [hany, if_neg (by decide)] at he HE
              rcases he with ⟨_, rfl⟩ | ⟨h0, _⟩
              · clear hany
                go_wp2_with fail
                refine (Code_nil w3).mono ?_
                rintro e w4 ⟨rfl, hch⟩
                have FM4 := Lib.hid (FM3.out.pure hch)
                clear hch
                have HLB : Hid ((headF true ms.length ++ entsL true E ms ms.length).length = E) := Lib.hid (by rw [List.length_append, headF_len, entsL_len]; exact HE0.out.symm)
                go_wp2_with (at_builtin; refine app_buf rfl _ _ rfl w.heap.size u10 (headF true ms.length ++ entsL true E ms ms.length) rfl FM4.out.two.one _ rfl (bodyL E ms) FM4.out.two.two.rd (by have h1 := HLB.out; have h2 := HTB.out; have h3 := HLT.out; omega) FM4.out.chg.size ?_; intro va wa hoa hga haa; refine Hid.out ?_)
                refine Lib.hid ?_
                have GA : Hid (Grew w4 w.heap.size u10 (headF true ms.length ++ entsL true E ms ms.length) wa va (bodyL E ms)) := Lib.hid (Grew.mk' (Chg.refl _ _) hoa hga haa)
                have FMA := Lib.hid (FM4.out.b GA.out)
                have HFL : Hid (fatL true ms = (headF true ms.length ++ entsL true E ms ms.length) ++ bodyL E ms) := Lib.hid (by rw [HE0.out]; rfl)
                clear hoa hga haa
                go_wp2
                go_ret2
                rw [HE.out, HFL.out]
                exact ⟨_, rfl, fun _ => GA.out.buf, fun h => absurd rfl h, FMA.out.chg⟩
              · exact absurd rfl h0
end Go.Proofs.YtchkombikjcokaaDoor
