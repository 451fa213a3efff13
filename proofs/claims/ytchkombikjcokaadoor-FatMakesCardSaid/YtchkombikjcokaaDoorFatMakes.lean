/- clevislaw03.FatMakes. -/
import Derived.Test.YtchkombikjcokaaDoorFew
import Derived.Test.YtchkombikjcokaaDoorFewF
import Derived.Test.YtchkombikjcokaaDoorMembR
import Derived.Test.YtchkombikjcokaaDoorFatRp
import Derived.Test.YtchkombikjcokaaDoorKnown3
import Derived.Deep.CutRange
namespace Go.Proofs.YtchkombikjcokaaDoor
open Go.RowKit
set_option maxRecDepth 100000

theorem taken_pick (arch : Int) (l : List UInt8) (h : sliceE l = 0) : takenE arch l = pickE arch (sliceL l) ∧ takenO arch l = (pickV arch (sliceL l)).off ∧ takenZ arch l = (pickV arch (sliceL l)).size := by
  unfold takenE takenO takenZ pickE
  by_cases ha : arch = 1 ∨ arch = 2
  · refine ⟨?_, ?_, ?_⟩ <;> simp [ha, h]
  · have hz : pickV arch (sliceL l) = .zero := by
      unfold pickV pickS
      rw [if_neg (fun h => ha (.inr h)), if_neg (fun h => ha (.inl h))]
      rfl
    refine ⟨?_, ?_, ?_⟩ <;> simp [ha, hz, SL.zero]
/-- A part of a slice of bytes. -/
theorem Rd_part {w : World} {b off n cap : Nat} {l : List UInt8} (rd : Rd w (.slice (some ⟨b, off, none⟩) n cap) (bytesV l)) (p m c : Nat) (h : p + m ≤ l.length) (hc : m ≤ c) (hc2 : c ≤ maxLen) :
    Rd w (.slice (some ⟨b, off + p, none⟩) m c) (bytesV ((l.drop p).take m)) := by
  obtain ⟨a', n', cap', he, hn, h1, h2, h3⟩ := rd
  cases he
  have hl : ((l.drop p).take m).length = m := by simp; omega
  refine ⟨_, m, c, rfl, by rw [bytesV_length, hl], hc, hc2, fun _ => ⟨b, off + p, rfl, fun j hj => ?_⟩⟩
  rw [bytesV_length, hl] at hj
  obtain ⟨b', off', hb, hcell⟩ := h3 (by intro e; have := congrArg List.length e; rw [bytesV_length] at this; simp at this; rw [this] at h; simp at h; omega)
  cases hb
  rw [Nat.add_assoc, hcell (p + j) (by rw [bytesV_length]; omega), bytesV_get l _ (by omega), bytesV_get _ j (by rw [hl]; exact hj)]
  simp [List.getD_eq_getElem?_getD, hj]

set_option maxHeartbeats 4000000 in
theorem FatMakes_walk (w : World) (hg : Env w) (wide : Bool) (ms : List Mem) (a : Option Addr) (cap : Nat) (rd : MemRd w (.slice a ms.length cap) ms) (hok : ∀ m ∈ ms, m.ok) (arch : Int) (_ : (Lit.int .i64 arch).wf = true) :
    Calls Tryd.prog 10 #[.bool wide, .slice a ms.length cap, .int .i64 arch] w fun e w' => e = .returned (.bool true) ∧ Chg [] w w' := by
  obtain ⟨_, _, _, he, _, hc1, hc2, hx⟩ := id rd
  cases he
  unfold maxLen at hc2
  have HG := Lib.hid hg
  have HR := Lib.hid rd
  have HOK := Lib.hid hok
  have Hx := Lib.hid hx
  clear hg rd hok hx
  have HFEW := Lib.hid (few_any ms 40 a cap w HR.out)
  cases hfb : fewB ms 40 with
  | false =>
    rw [hfb] at HFEW
    clear hfb
    go_enter Tryd.func10, Tryd.ntmps10
    go_wp2_with fail
    refine (HFEW.out).mono ?_
    rintro e w1 ⟨rfl, rfl⟩
    go_wp2_with fail
    refine (known3 _ (HG.out.frame (Chg.refl [] w1) (by simp))).mono ?_
    rintro e wk ⟨rfl, hch⟩
    have HK := Lib.hid (((Chg.refl [] w1)).then hch)
    clear hch
    go_wp2
    go_ret
    exact ⟨rfl, HK.out⟩
  | true =>
    rw [hfb] at HFEW
    obtain ⟨hl40, hb3⟩ := fewB_len hfb
    have HB3 : Hid (∀ m ∈ ms, m.bytes.length ≤ 2097152) := Lib.hid (fun m hm => by have := hb3 m hm; omega)
    clear hb3 hfb
    have HM := Lib.hid (fun w hg rd => FMake_any wide ms HOK.out (by omega) HB3.out a cap w hg rd)
    have HW := Lib.hid (fun w rd => RMake_any wide ms HOK.out (by omega) HB3.out a cap w rd)
    have HRE := Lib.hid (fun h => fat_reads wide ms HOK.out h)
    generalize hE : fatE wide ms = E at *
    have HE := Lib.hid hE
    clear hE
    go_enter Tryd.func10, Tryd.ntmps10
    go_wp2_with fail
    refine (HFEW.out).mono ?_
    rintro e w0 ⟨rfl, rfl⟩
    go_wp2_with fail
    refine (HM.out w0 HG.out HR.out).mono ?_
    rintro e w1 ⟨v, rfl, hv, hvn, hch⟩
    have C1 := Lib.hid (hch)
    have HV := Lib.hid (hv)
    have HVN := Lib.hid (hvn)
    clear hv hvn hch
    go_wp2_with fail
    refine (HW.out w1 (HR.out.frame C1.out)).mono ?_
    rintro e w2 ⟨v2, rfl, hv, hvn, hch⟩
    have D2 := Lib.hid (hch)
    have C2 := Lib.hid (C1.out.then hch)
    have HV2 := Lib.hid (hv)
    have HVN2 := Lib.hid (hvn)
    clear hv hvn hch
    have kE : (E != E) = false := by simp
    by_cases h0 : E = 0
    · subst h0
      obtain ⟨hs0, hsl, hal, h32, hat⟩ := HRE.out rfl
      have HL : Hid ((fatL wide ms).length ≤ 1048576) := Lib.hid (by rw [fatL_len]; exact hat)
      have HB := Lib.hid ((HV.out rfl).pure D2.out)
      have t1 := HB.out.rd
      have t2 := HV2.out rfl
      obtain ⟨gV, cV, rfl, hcV, hcV2, _⟩ := owned_at HB.out (by
        have := atL_ge (endOf wide ms) ms ms.length (Nat.le_refl _)
        rw [List.take_length] at this
        have e : endOf wide ms = 8 + ms.length * esz wide := rfl
        rw [fatL_len]
        omega)
      unfold maxLen at hcV2
      obtain ⟨aW, nW, cW, rfl, hnW, _⟩ := id t2
      rw [bytesV_length] at hnW
      subst hnW
      replace t1 := run_str t1
      replace t2 := run_str t2
      have HFB := Lib.hid (fun k hk => fat_bytes wide ms k hk)
      have HTP := Lib.hid (taken_pick arch _ hs0)
      rw [hsl] at HTP
      have HSL := Lib.hid (Slices_any (fatL wide ms) (some ⟨gV, 0, none⟩) cV)
      rw [hs0, hsl] at HSL
      have HS1 := Lib.hid (fun w hg rd => Slice_any arch (fatL wide ms) (some ⟨gV, 0, none⟩) cV w hg rd (by have := HL.out; omega))
      rw [takenV_eq, HTP.out.1, HTP.out.2.1, HTP.out.2.2] at HS1
      unfold spanV at HS1
      have HSO : Hid (∀ s ∈ sls (endOf wide ms) ms ms.length, s.ok) := by
        refine Lib.hid ?_
        intro s hs
        obtain ⟨i, hi, rfl⟩ := List.mem_map.1 hs
        rw [List.mem_range] at hi
        exact slOf_ok _ ms ms.length i (Nat.le_refl _) hi HOK.out (by rw [List.take_length]; exact hat)
      have HIN : Hid (∀ k, k < ms.length → placeOf (endOf wide ms) ms k + (ms.getD k .zero).bytes.length ≤ (fatL wide ms).length) := by
        refine Lib.hid ?_
        intro k hk
        have h3 := atL_take (endOf wide ms) ms k hk
        have h4 := atL_le (endOf wide ms) ms (k + 1) (ms.length - (k + 1)) (by omega)
        rw [show k + 1 + (ms.length - (k + 1)) = ms.length by omega, List.take_length] at h4
        rw [fatL_len]
        omega
      clear hs0 hsl hal h32 hat HTP HM HW HRE HV HVN HV2 HVN2
      generalize fatL wide ms = L at *
      generalize endOf wide ms = D at *
      have hLk := HL.out
      go_wp2_with fail
      refine (HSL.out w2 (HG.out.frame C2.out (by simp)) HB.out.rd (by omega)).mono ?_
      rintro e w3 ⟨v3, rfl, hs3, _, hch⟩
      have D3 := Lib.hid (hch)
      have C3 := Lib.hid (C2.out.then hch)
      have S3 := Lib.hid (hs3 (by trivial))
      clear hs3 hch t1 t2
      obtain ⟨a3, n3, c3, rfl, hn3, hc31, hc32, hx3⟩ := id S3.out
      rw [sls_len] at hn3 hx3
      subst hn3
      unfold maxLen at hc32
      have Hx3 := Lib.hid hx3
      clear hx3
      have kn : ((ms.length : Int) != (ms.length : Int)) = false := by simp
      go_wp2_with fail
      go_loopw [13] (fun s13 wr => ∃ k : Nat, k ≤ ms.length ∧ s13 = .int .i64 (k : Int) ∧ Chg [] w3 wr) (fun s13 _ => ms.length - (intOf s13).toNat)
      case atStart => exact ⟨0, Nat.zero_le _, rfl, Chg.refl _ _⟩
      case round =>
        obtain ⟨k, hk, rfl, hch⟩ := hrel
        have HCK := Lib.hid hch
        clear hch
        obtain ⟨wk, hwk⟩ : ∃ x, x = wr := ⟨_, rfl⟩
        rw [← hwk]
        rw [← hwk] at HCK
        clear hwk
        by_cases hlt : k < ms.length
        · obtain ⟨b, off, rfl, _, hcell⟩ := Hx.out (by rintro rfl; simp at hlt)
          obtain ⟨m1, m2, m3, a', cap', m4, m5⟩ := hcell k hlt
          obtain ⟨b3, o3, rfl, _, hc3⟩ := Hx3.out (by intro e; have := congrArg List.length e; rw [sls_len] at this; rw [this] at hlt; simp at hlt)
          obtain ⟨s0, s1, s2, s3, s4⟩ := hc3 k hlt
          rw [sls_get _ _ _ _ hlt] at s0 s1 s2 s3 s4
          have hin := HIN.out k hlt
          have hby := HFB.out k hlt
          obtain ⟨p, hp⟩ : ∃ p, p = ms.getD k .zero := ⟨_, rfl⟩
          obtain ⟨PL, hPL⟩ : ∃ PL, PL = placeOf D ms k := ⟨_, rfl⟩
          unfold slOf at s0 s1 s2 s3 s4
          rw [← hp] at m1 m2 m3 m4 m5 hin hby
          rw [← hPL] at hin hby
          simp only [← hp, ← hPL] at s0 s1 s2 s3 s4
          have kk := C3.out.then HCK.out
          replace m1 := kk.cell m1 (by simp)
          replace m2 := kk.cell m2 (by simp)
          replace m3 := kk.cell m3 (by simp)
          replace m4 := kk.cell m4 (by simp)
          replace m5 := m5.frame kk (fun _ _ hm => by cases hm)
          replace s0 := HCK.out.cell s0 (by simp)
          replace s1 := HCK.out.cell s1 (by simp)
          replace s2 := HCK.out.cell s2 (by simp)
          replace s3 := HCK.out.cell s3 (by simp)
          replace s4 := HCK.out.cell s4 (by simp)
          clear hp hPL hcell hc3 kk
          obtain ⟨pc, ps, pa, pb⟩ := p
          simp only at m1 m2 m3 m4 m5 hin hby s0 s1 s2 s3 s4
          have HBY := Lib.hid hby
          have M5 := Lib.hid m5
          clear hby m5
          go_upto_region 16 with fail
          obtain ⟨w9, hw9⟩ : ∃ x, x = wk.alloc (.cells #[.int .u32 pc, .int .u32 ps, .int .u64 PL, .int .u64 pb.length, .int .i64 pa] 52) := ⟨_, rfl⟩
          obtain ⟨q, hq⟩ : ∃ x, x = wk.heap.size := ⟨_, rfl⟩
          have hb9 : w9.heap[q]? = some (.cells #[.int .u32 pc, .int .u32 ps, .int .u64 PL, .int .u64 pb.length, .int .i64 pa] 52 (0, 0)) := by rw [hw9, hq]; exact heap_alloc_eq _ _
          have C9 : Hid (Chg [] wk w9) := Lib.hid (by rw [hw9]; exact (Chg.refl _ _).alloc _)
          rw [← hw9, ← hq]
          clear hw9 hq s0 s1 s2 s3 s4
          have x0 := cell_of_heap hb9 0
          have x1 := cell_of_heap hb9 1
          have x2 := cell_of_heap hb9 2
          have x3 := cell_of_heap hb9 3
          have x4 := cell_of_heap hb9 4
          simp at x0 x1 x2 x3 x4
          clear hb9
          replace m1 := C9.out.cell m1 (by simp)
          replace m2 := C9.out.cell m2 (by simp)
          replace m3 := C9.out.cell m3 (by simp)
          replace m4 := C9.out.cell m4 (by simp)
          have T4 : Hid (∀ w', Chg [] w9 w' → (convert 24 9 (.slice a' pb.length cap')).run Tryd.prog w' = .ok (.string ⟨pb.toArray⟩) w') := Lib.hid (fun w' hc => run_str (M5.out.frame (C9.out.then hc) (fun _ _ hm => by cases hm)))
          have T3 : Hid (∀ w', Chg [] w9 w' → (convert 24 9 (.slice (if cV = PL then some ⟨gV, 0, none⟩ else some ⟨gV, PL, none⟩) pb.length (cV - PL))).run Tryd.prog w' = .ok (.string ⟨pb.toArray⟩) w') := by
            refine Lib.hid ?_
            intro w' hc
            split
            · rename_i hcp
              obtain rfl : pb = [] := List.eq_nil_of_length_eq_zero (by omega)
              exact run_str (l := []) ⟨_, _, _, rfl, rfl, Nat.zero_le _, by unfold maxLen; omega, fun h => absurd rfl h⟩
            · have := Rd_part (HB.out.rd.frame (D3.out.then (HCK.out.then (C9.out.then hc))) (fun _ _ hm => by cases hm)) PL pb.length (cV - PL) hin (by omega) (by unfold maxLen; omega)
              rw [HBY.out, Nat.zero_add] at this
              exact run_str this
          have q1 : (0 : Int) ≤ (PL : Int) + (pb.length : Int) := by omega
          have q2 : (PL : Int) + (pb.length : Int) ≤ (cV : Int) := by omega
          have q3 : ((PL : Int) + (pb.length : Int)).toNat = PL + pb.length := by omega
          have g0 : ((pc : Int) != (pc : Int)) = false := by simp
          have g1 : ((ps : Int) != (ps : Int)) = false := by simp
          have g2 : (pa != pa) = false := by simp
          have g3 : decide ((L.length : Int) < (PL : Int) + (pb.length : Int)) = false := by rw [decide_eq_false_iff_not]; omega
          have g4 : IntKind.u64.wrap ((PL : Int) + (pb.length : Int)) = (PL : Int) + (pb.length : Int) := by rw [IntKind.wrap_u64]; omega
          have g5 : IntKind.u64.wrap (L.length : Int) = (L.length : Int) := by rw [IntKind.wrap_u64]; omega
          refine wp_region_noPanic ?_
          refine wp_region_held_drew (S := fun w' => Chg [] w9 w') (by kernel_rfl) ((Chg.refl _ _).drew) (fun hHeld => ?_)
          refine take_read (i := 0) (v := ?_) (by simp only [List.getElem?_toArray, List.getElem?_cons_zero]; rfl) (by kernel_rfl) (by kernel_rfl) (by kernel_rfl) (fun _ _ _ h => h) hHeld ?_ ?_
          rotate_left
          · intro w hSw
            go_simp
            try with_reducible rfl
          try simp only [Act.put, List.setIfInBounds_toArray, List.set_cons_zero, List.set_cons_succ]
          refine take_read (i := 1) (v := ?_) (by simp only [List.getElem?_toArray, List.getElem?_cons_succ, List.getElem?_cons_zero]; rfl) (by kernel_rfl) (by kernel_rfl) (by kernel_rfl) (fun _ _ _ h => h) hHeld ?_ ?_
          rotate_left
          · intro w hSw
            have x0 := hSw.cell x0 (by simp)
            go_simp
            try with_reducible rfl
          try simp only [Act.put, List.setIfInBounds_toArray, List.set_cons_zero, List.set_cons_succ]
          refine take_read (i := 2) (v := ?_) (by simp only [List.getElem?_toArray, List.getElem?_cons_succ, List.getElem?_cons_zero]; rfl) (by kernel_rfl) (by kernel_rfl) (by kernel_rfl) (fun _ _ _ h => h) hHeld ?_ ?_
          rotate_left
          · intro w hSw
            go_simp
            try with_reducible rfl
          try simp only [Act.put, List.setIfInBounds_toArray, List.set_cons_zero, List.set_cons_succ]
          refine take_read (i := 3) (v := ?_) (by simp only [List.getElem?_toArray, List.getElem?_cons_succ, List.getElem?_cons_zero]; rfl) (by kernel_rfl) (by kernel_rfl) (by kernel_rfl) (fun _ _ _ h => h) hHeld ?_ ?_
          rotate_left
          · intro w hSw
            go_simp
            try with_reducible rfl
          try simp only [Act.put, List.setIfInBounds_toArray, List.set_cons_zero, List.set_cons_succ]
          refine take_read (i := 4) (v := ?_) (by simp only [List.getElem?_toArray, List.getElem?_cons_succ, List.getElem?_cons_zero]; rfl) (by kernel_rfl) (by kernel_rfl) (by kernel_rfl) (fun _ _ _ h => h) hHeld ?_ ?_
          rotate_left
          · intro w hSw
            go_simp
            try with_reducible rfl
          try simp only [Act.put, List.setIfInBounds_toArray, List.set_cons_zero, List.set_cons_succ]
          refine take_read (i := 5) (v := ?_) (by simp only [List.getElem?_toArray, List.getElem?_cons_succ, List.getElem?_cons_zero]; rfl) (by kernel_rfl) (by kernel_rfl) (by kernel_rfl) (fun _ _ _ h => h) hHeld ?_ ?_
          rotate_left
          · intro w hSw
            go_simp
            try with_reducible rfl
          try simp only [Act.put, List.setIfInBounds_toArray, List.set_cons_zero, List.set_cons_succ]
          refine take_read (i := 6) (v := ?_) (by simp only [List.getElem?_toArray, List.getElem?_cons_succ, List.getElem?_cons_zero]; rfl) (by kernel_rfl) (by kernel_rfl) (by kernel_rfl) (fun _ _ _ h => h) hHeld ?_ ?_
          rotate_left
          · intro w hSw
            have m1 := hSw.cell m1 (by simp)
            go_simp
            try with_reducible rfl
          try simp only [Act.put, List.setIfInBounds_toArray, List.set_cons_zero, List.set_cons_succ]
          refine take_read (i := 7) (v := ?_) (by simp only [List.getElem?_toArray, List.getElem?_cons_succ, List.getElem?_cons_zero]; rfl) (by kernel_rfl) (by kernel_rfl) (by kernel_rfl) (fun _ _ _ h => h) hHeld ?_ ?_
          rotate_left
          · intro w hSw
            go_simp
            try with_reducible rfl
          try simp only [Act.put, List.setIfInBounds_toArray, List.set_cons_zero, List.set_cons_succ]
          refine take_read (i := 8) (v := ?_) (by simp only [List.getElem?_toArray, List.getElem?_cons_succ, List.getElem?_cons_zero]; rfl) (by kernel_rfl) (by kernel_rfl) (by kernel_rfl) (fun _ _ _ h => h) hHeld ?_ ?_
          rotate_left
          · intro w hSw
            go_simp
            try with_reducible rfl
          try simp only [Act.put, List.setIfInBounds_toArray, List.set_cons_zero, List.set_cons_succ]
          refine take_read (i := 9) (v := ?_) (by simp only [List.getElem?_toArray, List.getElem?_cons_succ, List.getElem?_cons_zero]; rfl) (by kernel_rfl) (by kernel_rfl) (by kernel_rfl) (fun _ _ _ h => h) hHeld ?_ ?_
          rotate_left
          · intro w hSw
            go_simp
            try with_reducible rfl
          try simp only [Act.put, List.setIfInBounds_toArray, List.set_cons_zero, List.set_cons_succ]
          refine take_read (i := 10) (v := ?_) (by simp only [List.getElem?_toArray, List.getElem?_cons_succ, List.getElem?_cons_zero]; rfl) (by kernel_rfl) (by kernel_rfl) (by kernel_rfl) (fun _ _ _ h => h) hHeld ?_ ?_
          rotate_left
          · intro w hSw
            have x1 := hSw.cell x1 (by simp)
            go_simp
            try with_reducible rfl
          try simp only [Act.put, List.setIfInBounds_toArray, List.set_cons_zero, List.set_cons_succ]
          refine take_read (i := 11) (v := ?_) (by simp only [List.getElem?_toArray, List.getElem?_cons_succ, List.getElem?_cons_zero]; rfl) (by kernel_rfl) (by kernel_rfl) (by kernel_rfl) (fun _ _ _ h => h) hHeld ?_ ?_
          rotate_left
          · intro w hSw
            go_simp
            try with_reducible rfl
          try simp only [Act.put, List.setIfInBounds_toArray, List.set_cons_zero, List.set_cons_succ]
          refine take_read (i := 12) (v := ?_) (by simp only [List.getElem?_toArray, List.getElem?_cons_succ, List.getElem?_cons_zero]; rfl) (by kernel_rfl) (by kernel_rfl) (by kernel_rfl) (fun _ _ _ h => h) hHeld ?_ ?_
          rotate_left
          · intro w hSw
            go_simp
            try with_reducible rfl
          try simp only [Act.put, List.setIfInBounds_toArray, List.set_cons_zero, List.set_cons_succ]
          refine take_read (i := 13) (v := ?_) (by simp only [List.getElem?_toArray, List.getElem?_cons_succ, List.getElem?_cons_zero]; rfl) (by kernel_rfl) (by kernel_rfl) (by kernel_rfl) (fun _ _ _ h => h) hHeld ?_ ?_
          rotate_left
          · intro w hSw
            go_simp
            try with_reducible rfl
          try simp only [Act.put, List.setIfInBounds_toArray, List.set_cons_zero, List.set_cons_succ]
          refine take_read (i := 14) (v := ?_) (by simp only [List.getElem?_toArray, List.getElem?_cons_succ, List.getElem?_cons_zero]; rfl) (by kernel_rfl) (by kernel_rfl) (by kernel_rfl) (fun _ _ _ h => h) hHeld ?_ ?_
          rotate_left
          · intro w hSw
            go_simp
            try with_reducible rfl
          try simp only [Act.put, List.setIfInBounds_toArray, List.set_cons_zero, List.set_cons_succ]
          refine take_read (i := 15) (v := ?_) (by simp only [List.getElem?_toArray, List.getElem?_cons_succ, List.getElem?_cons_zero]; rfl) (by kernel_rfl) (by kernel_rfl) (by kernel_rfl) (fun _ _ _ h => h) hHeld ?_ ?_
          rotate_left
          · intro w hSw
            have m2 := hSw.cell m2 (by simp)
            go_simp
            try with_reducible rfl
          try simp only [Act.put, List.setIfInBounds_toArray, List.set_cons_zero, List.set_cons_succ]
          refine take_read (i := 16) (v := ?_) (by simp only [List.getElem?_toArray, List.getElem?_cons_succ, List.getElem?_cons_zero]; rfl) (by kernel_rfl) (by kernel_rfl) (by kernel_rfl) (fun _ _ _ h => h) hHeld ?_ ?_
          rotate_left
          · intro w hSw
            go_simp
            try with_reducible rfl
          try simp only [Act.put, List.setIfInBounds_toArray, List.set_cons_zero, List.set_cons_succ]
          refine take_read (i := 17) (v := ?_) (by simp only [List.getElem?_toArray, List.getElem?_cons_succ, List.getElem?_cons_zero]; rfl) (by kernel_rfl) (by kernel_rfl) (by kernel_rfl) (fun _ _ _ h => h) hHeld ?_ ?_
          rotate_left
          · intro w hSw
            go_simp
            try with_reducible rfl
          try simp only [Act.put, List.setIfInBounds_toArray, List.set_cons_zero, List.set_cons_succ]
          refine take_read (i := 18) (v := ?_) (by simp only [List.getElem?_toArray, List.getElem?_cons_succ, List.getElem?_cons_zero]; rfl) (by kernel_rfl) (by kernel_rfl) (by kernel_rfl) (fun _ _ _ h => h) hHeld ?_ ?_
          rotate_left
          · intro w hSw
            go_simp
            try with_reducible rfl
          try simp only [Act.put, List.setIfInBounds_toArray, List.set_cons_zero, List.set_cons_succ]
          refine take_read (i := 19) (v := ?_) (by simp only [List.getElem?_toArray, List.getElem?_cons_succ, List.getElem?_cons_zero]; rfl) (by kernel_rfl) (by kernel_rfl) (by kernel_rfl) (fun _ _ _ h => h) hHeld ?_ ?_
          rotate_left
          · intro w hSw
            go_simp
            try with_reducible rfl
          try simp only [Act.put, List.setIfInBounds_toArray, List.set_cons_zero, List.set_cons_succ]
          refine take_read (i := 20) (v := ?_) (by simp only [List.getElem?_toArray, List.getElem?_cons_succ, List.getElem?_cons_zero]; rfl) (by kernel_rfl) (by kernel_rfl) (by kernel_rfl) (fun _ _ _ h => h) hHeld ?_ ?_
          rotate_left
          · intro w hSw
            have x4 := hSw.cell x4 (by simp)
            go_simp
            try with_reducible rfl
          try simp only [Act.put, List.setIfInBounds_toArray, List.set_cons_zero, List.set_cons_succ]
          refine take_read (i := 21) (v := ?_) (by simp only [List.getElem?_toArray, List.getElem?_cons_succ, List.getElem?_cons_zero]; rfl) (by kernel_rfl) (by kernel_rfl) (by kernel_rfl) (fun _ _ _ h => h) hHeld ?_ ?_
          rotate_left
          · intro w hSw
            go_simp
            try with_reducible rfl
          try simp only [Act.put, List.setIfInBounds_toArray, List.set_cons_zero, List.set_cons_succ]
          refine take_read (i := 22) (v := ?_) (by simp only [List.getElem?_toArray, List.getElem?_cons_succ, List.getElem?_cons_zero]; rfl) (by kernel_rfl) (by kernel_rfl) (by kernel_rfl) (fun _ _ _ h => h) hHeld ?_ ?_
          rotate_left
          · intro w hSw
            go_simp
            try with_reducible rfl
          try simp only [Act.put, List.setIfInBounds_toArray, List.set_cons_zero, List.set_cons_succ]
          refine take_read (i := 23) (v := ?_) (by simp only [List.getElem?_toArray, List.getElem?_cons_succ, List.getElem?_cons_zero]; rfl) (by kernel_rfl) (by kernel_rfl) (by kernel_rfl) (fun _ _ _ h => h) hHeld ?_ ?_
          rotate_left
          · intro w hSw
            go_simp
            try with_reducible rfl
          try simp only [Act.put, List.setIfInBounds_toArray, List.set_cons_zero, List.set_cons_succ]
          refine take_read (i := 24) (v := ?_) (by simp only [List.getElem?_toArray, List.getElem?_cons_succ, List.getElem?_cons_zero]; rfl) (by kernel_rfl) (by kernel_rfl) (by kernel_rfl) (fun _ _ _ h => h) hHeld ?_ ?_
          rotate_left
          · intro w hSw
            go_simp
            try with_reducible rfl
          try simp only [Act.put, List.setIfInBounds_toArray, List.set_cons_zero, List.set_cons_succ]
          refine take_read (i := 25) (v := ?_) (by simp only [List.getElem?_toArray, List.getElem?_cons_succ, List.getElem?_cons_zero]; rfl) (by kernel_rfl) (by kernel_rfl) (by kernel_rfl) (fun _ _ _ h => h) hHeld ?_ ?_
          rotate_left
          · intro w hSw
            have m3 := hSw.cell m3 (by simp)
            go_simp
            try with_reducible rfl
          try simp only [Act.put, List.setIfInBounds_toArray, List.set_cons_zero, List.set_cons_succ]
          refine take_read (i := 26) (v := ?_) (by simp only [List.getElem?_toArray, List.getElem?_cons_succ, List.getElem?_cons_zero]; rfl) (by kernel_rfl) (by kernel_rfl) (by kernel_rfl) (fun _ _ _ h => h) hHeld ?_ ?_
          rotate_left
          · intro w hSw
            go_simp
            try with_reducible rfl
          try simp only [Act.put, List.setIfInBounds_toArray, List.set_cons_zero, List.set_cons_succ]
          refine take_read (i := 27) (v := ?_) (by simp only [List.getElem?_toArray, List.getElem?_cons_succ, List.getElem?_cons_zero]; rfl) (by kernel_rfl) (by kernel_rfl) (by kernel_rfl) (fun _ _ _ h => h) hHeld ?_ ?_
          rotate_left
          · intro w hSw
            go_simp
            try with_reducible rfl
          try simp only [Act.put, List.setIfInBounds_toArray, List.set_cons_zero, List.set_cons_succ]
          refine take_read (i := 28) (v := ?_) (by simp only [List.getElem?_toArray, List.getElem?_cons_succ, List.getElem?_cons_zero]; rfl) (by kernel_rfl) (by kernel_rfl) (by kernel_rfl) (fun _ _ _ h => h) hHeld ?_ ?_
          rotate_left
          · intro w hSw
            go_simp
            try with_reducible rfl
          try simp only [Act.put, List.setIfInBounds_toArray, List.set_cons_zero, List.set_cons_succ]
          refine take_read (i := 29) (v := ?_) (by simp only [List.getElem?_toArray, List.getElem?_cons_succ, List.getElem?_cons_zero]; rfl) (by kernel_rfl) (by kernel_rfl) (by kernel_rfl) (fun _ _ _ h => h) hHeld ?_ ?_
          rotate_left
          · intro w hSw
            go_simp
            try with_reducible rfl
          try simp only [Act.put, List.setIfInBounds_toArray, List.set_cons_zero, List.set_cons_succ]
          refine take_read (i := 30) (v := ?_) (by simp only [List.getElem?_toArray, List.getElem?_cons_succ, List.getElem?_cons_zero]; rfl) (by kernel_rfl) (by kernel_rfl) (by kernel_rfl) (fun _ _ _ h => h) hHeld ?_ ?_
          rotate_left
          · intro w hSw
            go_simp
            try with_reducible rfl
          try simp only [Act.put, List.setIfInBounds_toArray, List.set_cons_zero, List.set_cons_succ]
          refine take_read (i := 31) (v := ?_) (by simp only [List.getElem?_toArray, List.getElem?_cons_succ, List.getElem?_cons_zero]; rfl) (by kernel_rfl) (by kernel_rfl) (by kernel_rfl) (fun _ _ _ h => h) hHeld ?_ ?_
          rotate_left
          · intro w hSw
            have x2 := hSw.cell x2 (by simp)
            go_simp
            try with_reducible rfl
          try simp only [Act.put, List.setIfInBounds_toArray, List.set_cons_zero, List.set_cons_succ]
          refine take_read (i := 32) (v := ?_) (by simp only [List.getElem?_toArray, List.getElem?_cons_succ, List.getElem?_cons_zero]; rfl) (by kernel_rfl) (by kernel_rfl) (by kernel_rfl) (fun _ _ _ h => h) hHeld ?_ ?_
          rotate_left
          · intro w hSw
            go_simp
            try with_reducible rfl
          try simp only [Act.put, List.setIfInBounds_toArray, List.set_cons_zero, List.set_cons_succ]
          refine take_read (i := 33) (v := ?_) (by simp only [List.getElem?_toArray, List.getElem?_cons_succ, List.getElem?_cons_zero]; rfl) (by kernel_rfl) (by kernel_rfl) (by kernel_rfl) (fun _ _ _ h => h) hHeld ?_ ?_
          rotate_left
          · intro w hSw
            go_simp
            try with_reducible rfl
          try simp only [Act.put, List.setIfInBounds_toArray, List.set_cons_zero, List.set_cons_succ]
          refine take_read (i := 34) (v := ?_) (by simp only [List.getElem?_toArray, List.getElem?_cons_succ, List.getElem?_cons_zero]; rfl) (by kernel_rfl) (by kernel_rfl) (by kernel_rfl) (fun _ _ _ h => h) hHeld ?_ ?_
          rotate_left
          · intro w hSw
            have x3 := hSw.cell x3 (by simp)
            go_simp
            try with_reducible rfl
          try simp only [Act.put, List.setIfInBounds_toArray, List.set_cons_zero, List.set_cons_succ]
          refine take_read (i := 35) (v := ?_) (by simp only [List.getElem?_toArray, List.getElem?_cons_succ, List.getElem?_cons_zero]; rfl) (by kernel_rfl) (by kernel_rfl) (by kernel_rfl) (fun _ _ _ h => h) hHeld ?_ ?_
          rotate_left
          · intro w hSw
            go_simp
            try with_reducible rfl
          try simp only [Act.put, List.setIfInBounds_toArray, List.set_cons_zero, List.set_cons_succ]
          refine take_read (i := 36) (v := ?_) (by simp only [List.getElem?_toArray, List.getElem?_cons_succ, List.getElem?_cons_zero]; rfl) (by kernel_rfl) (by kernel_rfl) (by kernel_rfl) (fun _ _ _ h => h) hHeld ?_ ?_
          rotate_left
          · intro w hSw
            go_simp
            try with_reducible rfl
          try simp only [Act.put, List.setIfInBounds_toArray, List.set_cons_zero, List.set_cons_succ]
          refine take_read (i := 37) (v := ?_) (by simp only [List.getElem?_toArray, List.getElem?_cons_succ, List.getElem?_cons_zero]; rfl) (by kernel_rfl) (by kernel_rfl) (by kernel_rfl) (fun _ _ _ h => h) hHeld ?_ ?_
          rotate_left
          · intro w hSw
            go_simp
            try with_reducible rfl
          try simp only [Act.put, List.setIfInBounds_toArray, List.set_cons_zero, List.set_cons_succ]
          refine take_read (i := 38) (v := ?_) (by simp only [List.getElem?_toArray, List.getElem?_cons_succ, List.getElem?_cons_zero]; rfl) (by kernel_rfl) (by kernel_rfl) (by kernel_rfl) (fun _ _ _ h => h) hHeld ?_ ?_
          rotate_left
          · intro w hSw
            go_simp
            try with_reducible rfl
          try simp only [Act.put, List.setIfInBounds_toArray, List.set_cons_zero, List.set_cons_succ]
          refine take_read (i := 39) (v := ?_) (by simp only [List.getElem?_toArray, List.getElem?_cons_succ, List.getElem?_cons_zero]; rfl) (by kernel_rfl) (by kernel_rfl) (by kernel_rfl) (fun _ _ _ h => h) hHeld ?_ ?_
          rotate_left
          · intro w hSw
            go_simp
            try with_reducible rfl
          try simp only [Act.put, List.setIfInBounds_toArray, List.set_cons_zero, List.set_cons_succ]
          refine take_read (i := 40) (v := ?_) (by simp only [List.getElem?_toArray, List.getElem?_cons_succ, List.getElem?_cons_zero]; rfl) (by kernel_rfl) (by kernel_rfl) (by kernel_rfl) (fun _ _ _ h => h) hHeld ?_ ?_
          rotate_left
          · intro w hSw
            go_simp
            try with_reducible rfl
          try simp only [Act.put, List.setIfInBounds_toArray, List.set_cons_zero, List.set_cons_succ]
          refine take_read (i := 41) (v := ?_) (by simp only [List.getElem?_toArray, List.getElem?_cons_succ, List.getElem?_cons_zero]; rfl) (by kernel_rfl) (by kernel_rfl) (by kernel_rfl) (fun _ _ _ h => h) hHeld ?_ ?_
          rotate_left
          · intro w hSw
            go_simp
            try with_reducible rfl
          try simp only [Act.put, List.setIfInBounds_toArray, List.set_cons_zero, List.set_cons_succ]
          refine take_read (i := 42) (v := ?_) (by simp only [List.getElem?_toArray, List.getElem?_cons_succ, List.getElem?_cons_zero]; rfl) (by kernel_rfl) (by kernel_rfl) (by kernel_rfl) (fun _ _ _ h => h) hHeld ?_ ?_
          rotate_left
          · intro w hSw
            go_simp
            try with_reducible rfl
          try simp only [Act.put, List.setIfInBounds_toArray, List.set_cons_zero, List.set_cons_succ]
          refine take_read (i := 43) (v := ?_) (by simp only [List.getElem?_toArray, List.getElem?_cons_succ, List.getElem?_cons_zero]; rfl) (by kernel_rfl) (by kernel_rfl) (by kernel_rfl) (fun _ _ _ h => h) hHeld ?_ ?_
          rotate_left
          · intro w hSw
            go_simp
            try with_reducible rfl
          try simp only [Act.put, List.setIfInBounds_toArray, List.set_cons_zero, List.set_cons_succ]
          refine take_read (i := 44) (v := ?_) (by simp only [List.getElem?_toArray, List.getElem?_cons_succ, List.getElem?_cons_zero]; rfl) (by kernel_rfl) (by kernel_rfl) (by kernel_rfl) (fun _ _ _ h => h) hHeld ?_ ?_
          rotate_left
          · intro w hSw
            go_simp
            try with_reducible rfl
          try simp only [Act.put, List.setIfInBounds_toArray, List.set_cons_zero, List.set_cons_succ]
          refine take_read (i := 45) (v := ?_) (by simp only [List.getElem?_toArray, List.getElem?_cons_succ, List.getElem?_cons_zero]; rfl) (by kernel_rfl) (by kernel_rfl) (by kernel_rfl) (fun _ _ _ h => h) hHeld ?_ ?_
          rotate_left
          · intro w hSw
            have x2 := hSw.cell x2 (by simp)
            go_simp
            try with_reducible rfl
          try simp only [Act.put, List.setIfInBounds_toArray, List.set_cons_zero, List.set_cons_succ]
          refine take_read (i := 46) (v := ?_) (by simp only [List.getElem?_toArray, List.getElem?_cons_succ, List.getElem?_cons_zero]; rfl) (by kernel_rfl) (by kernel_rfl) (by kernel_rfl) (fun _ _ _ h => h) hHeld ?_ ?_
          rotate_left
          · intro w hSw
            go_simp
            try with_reducible rfl
          try simp only [Act.put, List.setIfInBounds_toArray, List.set_cons_zero, List.set_cons_succ]
          refine take_read (i := 47) (v := ?_) (by simp only [List.getElem?_toArray, List.getElem?_cons_succ, List.getElem?_cons_zero]; rfl) (by kernel_rfl) (by kernel_rfl) (by kernel_rfl) (fun _ _ _ h => h) hHeld ?_ ?_
          rotate_left
          · intro w hSw
            go_simp
            try with_reducible rfl
          try simp only [Act.put, List.setIfInBounds_toArray, List.set_cons_zero, List.set_cons_succ]
          refine take_read (i := 48) (v := ?_) (by simp only [List.getElem?_toArray, List.getElem?_cons_succ, List.getElem?_cons_zero]; rfl) (by kernel_rfl) (by kernel_rfl) (by kernel_rfl) (fun _ _ _ h => h) hHeld ?_ ?_
          rotate_left
          · intro w hSw
            have x2 := hSw.cell x2 (by simp)
            go_simp
            try with_reducible rfl
          try simp only [Act.put, List.setIfInBounds_toArray, List.set_cons_zero, List.set_cons_succ]
          refine take_read (i := 49) (v := ?_) (by simp only [List.getElem?_toArray, List.getElem?_cons_succ, List.getElem?_cons_zero]; rfl) (by kernel_rfl) (by kernel_rfl) (by kernel_rfl) (fun _ _ _ h => h) hHeld ?_ ?_
          rotate_left
          · intro w hSw
            go_simp
            try with_reducible rfl
          try simp only [Act.put, List.setIfInBounds_toArray, List.set_cons_zero, List.set_cons_succ]
          refine take_read (i := 50) (v := ?_) (by simp only [List.getElem?_toArray, List.getElem?_cons_succ, List.getElem?_cons_zero]; rfl) (by kernel_rfl) (by kernel_rfl) (by kernel_rfl) (fun _ _ _ h => h) hHeld ?_ ?_
          rotate_left
          · intro w hSw
            go_simp
            try with_reducible rfl
          try simp only [Act.put, List.setIfInBounds_toArray, List.set_cons_zero, List.set_cons_succ]
          refine take_read (i := 51) (v := ?_) (by simp only [List.getElem?_toArray, List.getElem?_cons_succ, List.getElem?_cons_zero]; rfl) (by kernel_rfl) (by kernel_rfl) (by kernel_rfl) (fun _ _ _ h => h) hHeld ?_ ?_
          rotate_left
          · intro w hSw
            have x3 := hSw.cell x3 (by simp)
            go_simp
            try with_reducible rfl
          try simp only [Act.put, List.setIfInBounds_toArray, List.set_cons_zero, List.set_cons_succ]
          refine take_read (i := 52) (v := ?_) (by simp only [List.getElem?_toArray, List.getElem?_cons_succ, List.getElem?_cons_zero]; rfl) (by kernel_rfl) (by kernel_rfl) (by kernel_rfl) (fun _ _ _ h => h) hHeld ?_ ?_
          rotate_left
          · intro w hSw
            go_simp
            try with_reducible rfl
          try simp only [Act.put, List.setIfInBounds_toArray, List.set_cons_zero, List.set_cons_succ]
          refine take_read (i := 53) (v := ?_) (by simp only [List.getElem?_toArray, List.getElem?_cons_succ, List.getElem?_cons_zero]; rfl) (by kernel_rfl) (by kernel_rfl) (by kernel_rfl) (fun _ _ _ h => h) hHeld ?_ ?_
          rotate_left
          · intro w hSw
            go_simp
            try with_reducible rfl
          try simp only [Act.put, List.setIfInBounds_toArray, List.set_cons_zero, List.set_cons_succ]
          refine take_read (i := 54) (v := ?_) (by simp only [List.getElem?_toArray, List.getElem?_cons_succ, List.getElem?_cons_zero]; rfl) (by kernel_rfl) (by kernel_rfl) (by kernel_rfl) (fun _ _ _ h => h) hHeld ?_ ?_
          rotate_left
          · intro w hSw
            have t3 := T3.out w hSw
            go_simp
            try with_reducible rfl
          try simp only [Act.put, List.setIfInBounds_toArray, List.set_cons_zero, List.set_cons_succ]
          refine take_read (i := 55) (v := ?_) (by simp only [List.getElem?_toArray, List.getElem?_cons_succ, List.getElem?_cons_zero]; rfl) (by kernel_rfl) (by kernel_rfl) (by kernel_rfl) (fun _ _ _ h => h) hHeld ?_ ?_
          rotate_left
          · intro w hSw
            go_simp
            try with_reducible rfl
          try simp only [Act.put, List.setIfInBounds_toArray, List.set_cons_zero, List.set_cons_succ]
          refine take_read (i := 56) (v := ?_) (by simp only [List.getElem?_toArray, List.getElem?_cons_succ, List.getElem?_cons_zero]; rfl) (by kernel_rfl) (by kernel_rfl) (by kernel_rfl) (fun _ _ _ h => h) hHeld ?_ ?_
          rotate_left
          · intro w hSw
            go_simp
            try with_reducible rfl
          try simp only [Act.put, List.setIfInBounds_toArray, List.set_cons_zero, List.set_cons_succ]
          refine take_read (i := 57) (v := ?_) (by simp only [List.getElem?_toArray, List.getElem?_cons_succ, List.getElem?_cons_zero]; rfl) (by kernel_rfl) (by kernel_rfl) (by kernel_rfl) (fun _ _ _ h => h) hHeld ?_ ?_
          rotate_left
          · intro w hSw
            go_simp
            try with_reducible rfl
          try simp only [Act.put, List.setIfInBounds_toArray, List.set_cons_zero, List.set_cons_succ]
          refine take_read (i := 58) (v := ?_) (by simp only [List.getElem?_toArray, List.getElem?_cons_succ, List.getElem?_cons_zero]; rfl) (by kernel_rfl) (by kernel_rfl) (by kernel_rfl) (fun _ _ _ h => h) hHeld ?_ ?_
          rotate_left
          · intro w hSw
            go_simp
            try with_reducible rfl
          try simp only [Act.put, List.setIfInBounds_toArray, List.set_cons_zero, List.set_cons_succ]
          refine take_read (i := 59) (v := ?_) (by simp only [List.getElem?_toArray, List.getElem?_cons_succ, List.getElem?_cons_zero]; rfl) (by kernel_rfl) (by kernel_rfl) (by kernel_rfl) (fun _ _ _ h => h) hHeld ?_ ?_
          rotate_left
          · intro w hSw
            have m4 := hSw.cell m4 (by simp)
            go_simp
            try with_reducible rfl
          try simp only [Act.put, List.setIfInBounds_toArray, List.set_cons_zero, List.set_cons_succ]
          refine take_read (i := 60) (v := ?_) (by simp only [List.getElem?_toArray, List.getElem?_cons_succ, List.getElem?_cons_zero]; rfl) (by kernel_rfl) (by kernel_rfl) (by kernel_rfl) (fun _ _ _ h => h) hHeld ?_ ?_
          rotate_left
          · intro w hSw
            have t4 := T4.out w hSw
            go_simp
            try with_reducible rfl
          try simp only [Act.put, List.setIfInBounds_toArray, List.set_cons_zero, List.set_cons_succ]
          refine take_read (i := 61) (v := ?_) (by simp only [List.getElem?_toArray, List.getElem?_cons_succ, List.getElem?_cons_zero]; rfl) (by kernel_rfl) (by kernel_rfl) (by kernel_rfl) (fun _ _ _ h => h) hHeld ?_ ?_
          rotate_left
          · intro w hSw
            go_simp
            try with_reducible rfl
          try simp only [Act.put, List.setIfInBounds_toArray, List.set_cons_zero, List.set_cons_succ]
          refine take_read (i := 62) (v := ?_) (by simp only [List.getElem?_toArray, List.getElem?_cons_succ, List.getElem?_cons_zero]; rfl) (by kernel_rfl) (by kernel_rfl) (by kernel_rfl) (fun _ _ _ h => h) hHeld ?_ ?_
          rotate_left
          · intro w hSw
            go_simp
            try with_reducible rfl
          try simp only [Act.put, List.setIfInBounds_toArray, List.set_cons_zero, List.set_cons_succ]
          refine wpAnyH_done (by kernel_rfl) ?_ _
          refine NoPanic.normal ?_
          go_wp2
          go_roundw
          case rel => exact ⟨k + 1, hlt, by go_num, (HCK.out.then C9.out).drew⟩
          case measure => simp [intOf]; omega
        · obtain rfl : k = ms.length := by omega
          have CK := Lib.hid (C3.out.then HCK.out)
          clear kn hlt hk
          obtain ⟨V, hV⟩ : ∃ V, V = pickV arch (sls D ms ms.length) := ⟨_, rfl⟩
          have HPK := Lib.hid (fun w rd => RPick_any arch (sls D ms ms.length) HSO.out (.slice a3 ms.length c3) w rd (by rw [sls_len]; omega))
          rw [← hV] at HS1 HPK
          clear hV
          obtain ⟨c, u, o, z, g⟩ := V
          generalize hQ : pickE arch (sls D ms ms.length) = Q at HS1 HPK
          unfold SL.val at HPK
          simp only at HS1 HPK
          clear hQ
          go_wp2_with fail
          refine (HS1.out wk (HG.out.frame CK.out (by simp)) (HB.out.pure (D3.out.then HCK.out)).rd).mono ?_
          rintro e w4 ⟨rfl, hch⟩
          have E4 := Lib.hid (hch)
          have C4 := Lib.hid (CK.out.then hch)
          clear hch
          go_wp2_with fail
          obtain ⟨X, hX⟩ : ∃ q, q = w4.heap.size := ⟨_, rfl⟩
          obtain ⟨v4, hv4⟩ : ∃ q, q = w4.alloc (.cells #[.int .u64 o, .int .u64 z] 44) := ⟨_, rfl⟩
          have BX : Hid (v4.heap[X]? = some (.cells #[.int .u64 o, .int .u64 z] 44 (0, 0))) := Lib.hid (by rw [hv4, hX]; exact heap_alloc_eq _ _)
          have Cv4 : Hid (Chg [] w4 v4) := Lib.hid (by rw [hv4]; exact (Chg.refl _ _).alloc _)
          rw [← hX, ← hv4]
          clear hX hv4
          refine (HPK.out v4 (S3.out.frame (HCK.out.then (E4.out.then Cv4.out)))).mono ?_
          rintro e w5 ⟨rfl, hch⟩
          have D5 := Lib.hid (Cv4.out.then hch)
          have E5 := Lib.hid (hch)
          clear hch
          go_upto_region 20 with fail
          obtain ⟨Y, hY⟩ : ∃ q, q = w5.heap.size := ⟨_, rfl⟩
          obtain ⟨v5, hv5⟩ : ∃ q, q = w5.alloc (.cells #[.int .u32 c, .int .u32 u, .int .u64 o, .int .u64 z, .int .i64 g] 52) := ⟨_, rfl⟩
          have by' : v5.heap[Y]? = some (.cells #[.int .u32 c, .int .u32 u, .int .u64 o, .int .u64 z, .int .i64 g] 52 (0, 0)) := by rw [hv5, hY]; exact heap_alloc_eq _ _
          have Cv5 : Hid (Chg [] w5 v5) := Lib.hid (by rw [hv5]; exact (Chg.refl _ _).alloc _)
          rw [← hY, ← hv5]
          clear hY hv5
          have bx := (E5.out.then Cv5.out).heap BX.out (by simp)
          have x0 := cell_of_heap bx 0
          have x1 := cell_of_heap bx 1
          have y2 := cell_of_heap by' 2
          have y3 := cell_of_heap by' 3
          simp at x0 x1 y2 y3
          clear bx by'
          go_wp2_with fail
          refine (known3 _ (HG.out.frame (C4.out.then (D5.out.then Cv5.out)) (by simp))).mono ?_
          rintro e wk ⟨rfl, hch⟩
          have HK := Lib.hid (((C4.out.then (D5.out.then Cv5.out))).then hch)
          clear hch
          go_wp2
          go_ret
          exact ⟨rfl, HK.out⟩
    · have k0 : (E != 0) = true := by rw [bne_iff_ne]; exact h0
      obtain rfl := HVN.out h0
      obtain rfl := HVN2.out h0
      have t1 : (convert 24 9 (.slice none 0 0)).run Tryd.prog w2 = .ok (.string ⟨#[]⟩) w2 := run_str (l := []) (Rd.nil w2)
      clear h0
      go_wp2_with fail
      go_wp2_with fail
      refine (known3 _ (HG.out.frame C2.out (by simp))).mono ?_
      rintro e wk ⟨rfl, hch⟩
      have HK := Lib.hid ((C2.out).then hch)
      clear hch
      go_wp2
      go_ret
      exact ⟨rfl, HK.out⟩
end Go.Proofs.YtchkombikjcokaaDoor
