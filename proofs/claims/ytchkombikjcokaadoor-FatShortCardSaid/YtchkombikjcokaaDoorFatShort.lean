/- clevislaw03.FatShort. -/
import Derived.Test.YtchkombikjcokaaDoorFew
import Derived.Test.YtchkombikjcokaaDoorMembR
import Derived.Test.YtchkombikjcokaaDoorFatRp
import Derived.Test.YtchkombikjcokaaDoorRSlicA
import Derived.Test.YtchkombikjcokaaDoorKnown3
import Derived.Deep.CutRange
namespace Go.Proofs.YtchkombikjcokaaDoor
open Go.RowKit
set_option maxRecDepth 100000

set_option maxHeartbeats 2000000 in
theorem FatShort_walk (w : World) (hg : Env w) (wide : Bool) (ms : List Mem) (a : Option Addr) (cap : Nat) (rd : MemRd w (.slice a ms.length cap) ms) (hok : ∀ m ∈ ms, m.ok) (n : Int) (hnw : (Lit.int .i64 n).wf = true) (arch : Int) (_ : (Lit.int .i64 arch).wf = true) :
    Calls Tryd.prog 6 #[.bool wide, .slice a ms.length cap, .int .i64 n, .int .i64 arch] w fun e w' => e = .returned (.bool true) ∧ Chg [] w w' := by
  have HG := Lib.hid hg
  have HR := Lib.hid rd
  have HOK := Lib.hid hok
  clear hg rd hok
  have HFEW := Lib.hid (few_any ms 6 a cap w HR.out)
  cases hfb : fewB ms 6 with
  | false =>
    rw [hfb] at HFEW
    clear hfb
    go_enter Tryd.func6, Tryd.ntmps6
    go_wp2_with fail
    refine (HFEW.out).mono ?_
    rintro e w1 ⟨rfl, rfl⟩
    go_wp2_with fail
    refine (known3 _ (HG.out.frame (Chg.refl [] w1) (by simp))).mono ?_
    rintro e wk ⟨rfl, hch⟩
    have HK := Lib.hid (((Chg.refl [] w1)).then hch)
    clear hch
    go_wp2
    go_ret
    exact ⟨rfl, HK.out⟩
  | true =>
    rw [hfb] at HFEW
    obtain ⟨hl6, hb3⟩ := fewB_len hfb
    have HB3 : Hid (∀ m ∈ ms, m.bytes.length ≤ 2097152) := Lib.hid (fun m hm => by have := hb3 m hm; omega)
    clear hb3 hfb
    by_cases hn0 : n < 0
    · have d1 : decide (n < 0) = true := by simpa using hn0
      clear hn0
      go_enter Tryd.func6, Tryd.ntmps6
      go_wp2_with fail
      refine (HFEW.out).mono ?_
      rintro e w1 ⟨rfl, rfl⟩
      go_wp2_with fail
      refine (known3 _ (HG.out.frame (Chg.refl [] w1) (by simp))).mono ?_
      rintro e wk ⟨rfl, hch⟩
      have HK := Lib.hid (((Chg.refl [] w1)).then hch)
      clear hch
      go_wp2
      go_ret
      exact ⟨rfl, HK.out⟩
    · obtain ⟨N, rfl⟩ : ∃ N : Nat, n = N := ⟨n.toNat, by omega⟩
      have d1 : decide ((N : Int) < 0) = false := by simp
      clear hn0 hnw
      have HM := Lib.hid (RMake_any wide ms HOK.out (by omega) HB3.out a cap w HR.out)
      have HRE := Lib.hid (fun h => fat_reads wide ms HOK.out h)
      generalize hE : fatE wide ms = E at *
      have HE := Lib.hid hE
      clear hE
      go_enter Tryd.func6, Tryd.ntmps6
      go_wp2_with fail
      refine (HFEW.out).mono ?_
      rintro e w0 ⟨rfl, rfl⟩
      go_wp2_with fail
      refine (HM.out).mono ?_
      rintro e w1 ⟨v, rfl, hv, hvn, hch⟩
      by_cases h0 : E = 0
      · have HV := Lib.hid (hv h0)
        have C1 := Lib.hid (hch)
        obtain ⟨_, _, _, _, hat⟩ := HRE.out h0
        have k0 : (E != 0) = false := by rw [h0]; rfl
        have HL : Hid ((fatL wide ms).length ≤ 1048576) := Lib.hid (by rw [fatL_len]; exact hat)
        clear hv hvn hch hat
        generalize fatL wide ms = L at *
        obtain ⟨aV, nV, cV, rfl, hnV, hcV, hcM, _⟩ := id HV.out
        rw [bytesV_length] at hnV
        subst hnV
        unfold maxLen at hcM
        have hLk := HL.out
        subst h0
        by_cases hN : L.length < N
        · have d2 : decide (L.length < N) = true := by simpa using hN
          clear hN
          go_wp2_with fail
          refine (known3 _ (HG.out.frame C1.out (by simp))).mono ?_
          rintro e wk ⟨rfl, hch⟩
          have HK := Lib.hid ((C1.out).then hch)
          clear hch
          go_wp2
          go_ret
          exact ⟨rfl, HK.out⟩
        · have d2 : decide (L.length < N) = false := by simpa using hN
          have HT := Lib.hid (Rd_take HV.out N (by omega))
          have HTL : Hid ((L.take N).length = N) := Lib.hid (by rw [List.length_take]; omega)
          obtain ⟨LT, hLT⟩ : ∃ LT, LT = L.take N := ⟨_, rfl⟩
          rw [← hLT] at HT HTL
          have hNL : N ≤ L.length := by omega
          have hTL := HTL.out
          clear hLT HTL hN
          subst hTL
          have hlen : LT.length ≤ 70368744177664 := by omega
          have HS1 := Lib.hid (fun w hg rd => Slice_any arch LT aV cV w hg rd hlen)
          have HS2 := Lib.hid (fun w rd => RSlice_any arch LT aV cV w rd hlen)
          rw [takenV_eq] at HS1 HS2
          generalize takenO arch LT = O at HS1 HS2
          generalize takenZ arch LT = Z at HS1 HS2
          generalize takenE arch LT = Q at HS1 HS2
          unfold spanV at HS1 HS2
          go_wp2_with fail
          refine (HS1.out w1 (HG.out.frame C1.out (by simp)) HT.out).mono ?_
          rintro e w3 ⟨rfl, hch⟩
          have D3 := Lib.hid (hch)
          have C3 := Lib.hid (C1.out.then hch)
          clear hch
          go_wp2_with fail
          obtain ⟨X, hX⟩ : ∃ q, q = w3.heap.size := ⟨_, rfl⟩
          obtain ⟨v3, hv3⟩ : ∃ q, q = w3.alloc (.cells #[.int .u64 O, .int .u64 Z] 44) := ⟨_, rfl⟩
          have BX : Hid (v3.heap[X]? = some (.cells #[.int .u64 O, .int .u64 Z] 44 (0, 0))) := Lib.hid (by rw [hv3, hX]; exact heap_alloc_eq _ _)
          have Cv3 : Hid (Chg [] w3 v3) := Lib.hid (by rw [hv3]; exact (Chg.refl _ _).alloc _)
          rw [← hX, ← hv3]
          clear hX hv3
          have E3 := Lib.hid (D3.out.then Cv3.out)
          refine (HS2.out v3 (HT.out.frame E3.out (fun _ _ hm => by cases hm))).mono ?_
          rintro e w4 ⟨rfl, hch⟩
          have E4 := Lib.hid (hch)
          have C4 := Lib.hid ((C3.out.then Cv3.out).then hch)
          clear hch
          go_upto_region 8 with fail
          obtain ⟨Y, hY⟩ : ∃ q, q = w4.heap.size := ⟨_, rfl⟩
          obtain ⟨v4, hv4⟩ : ∃ q, q = w4.alloc (.cells #[.int .u64 O, .int .u64 Z] 44) := ⟨_, rfl⟩
          have BY : Hid (v4.heap[Y]? = some (.cells #[.int .u64 O, .int .u64 Z] 44 (0, 0))) := Lib.hid (by rw [hv4, hY]; exact heap_alloc_eq _ _)
          have Cv4 : Hid (Chg [] w4 v4) := Lib.hid (by rw [hv4]; exact (Chg.refl _ _).alloc _)
          rw [← hY, ← hv4]
          clear hY hv4
          have CV := Lib.hid (C4.out.then Cv4.out)
          have bx := (E4.out.then Cv4.out).heap BX.out (by simp)
          have by' := BY.out
          have x0 := cell_of_heap bx 0
          have x1 := cell_of_heap bx 1
          have y0 := cell_of_heap by' 0
          have y1 := cell_of_heap by' 1
          simp at x0 x1 y0 y1
          clear bx by'
          go_wp2_with fail
          refine (known3 _ (HG.out.frame CV.out (by simp))).mono ?_
          rintro e wk ⟨rfl, hch⟩
          have HK := Lib.hid ((CV.out).then hch)
          clear hch
          go_wp2
          go_ret
          exact ⟨rfl, HK.out⟩
      · have k0 : (E != 0) = true := by rw [bne_iff_ne]; exact h0
        have C1 := Lib.hid (hch)
        clear hv hvn hch h0
        go_wp2_with fail
        refine (known3 _ (HG.out.frame C1.out (by simp))).mono ?_
        rintro e wk ⟨rfl, hch⟩
        have HK := Lib.hid ((C1.out).then hch)
        clear hch
        go_wp2
        go_ret
        exact ⟨rfl, HK.out⟩
end Go.Proofs.YtchkombikjcokaaDoor
