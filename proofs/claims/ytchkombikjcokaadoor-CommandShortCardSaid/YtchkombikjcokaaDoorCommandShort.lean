/- clevislaw04.CommandShort. -/
import Derived.Test.YtchkombikjcokaaDoorCShort
import Derived.Deep.CutRange
namespace Go.Proofs.YtchkombikjcokaaDoor
open Go.RowKit
set_option maxRecDepth 100000

theorem Rd_cut {w : World} {a : Option Addr} {n cap : Nat} {l : List UInt8} (rd : Rd w (.slice a n cap) (bytesV l)) (k : Nat) (hk : k ≤ n) : Rd w (.slice a k cap) (bytesV (l.take k)) := by
  obtain ⟨a', n', cap', he, hn, h1, h2, h3⟩ := rd
  cases he
  rw [bytesV_length] at hn
  subst hn
  have hl : (bytesV (l.take k)).length = k := by rw [bytesV_length]; simp; omega
  refine ⟨a, k, cap, rfl, hl.symm, by omega, h2, fun hne => ?_⟩
  have hne' : bytesV l ≠ [] := by
    intro e
    refine hne ?_
    have : l = [] := List.eq_nil_of_length_eq_zero (by have := congrArg List.length e; rwa [bytesV_length] at this)
    rw [this]; simp [bytesV]
  obtain ⟨b, off, rfl, hc⟩ := h3 hne'
  refine ⟨b, off, rfl, fun j hj => ?_⟩
  rw [hl] at hj
  rw [hc j (by rw [bytesV_length]; omega), bytesV_get l j (by omega), bytesV_get _ j (by simp; omega)]
  simp [List.getD_eq_getElem?_getD, hj]

set_option maxHeartbeats 2000000 in
theorem CommandShort_walk (w : World) (hg : Env w) (sub kind fl : Int) (_ : (Lit.int .i64 sub).wf = true) (_ : (Lit.int .i64 kind).wf = true) (hfw : (Lit.int .u32 fl).wf = true) (cs : List Cmd) (a : Option Addr) (cap : Nat) (rd : CmdRd w (.slice a cs.length cap) cs) (_ : ∀ c ∈ cs, c.1 < 4294967296) (n : Int) (_ : (Lit.int .i64 n).wf = true) :
    Calls Tryd.prog 7 #[.agg #[.int .i64 sub, .int .i64 kind, .int .u32 fl], .slice a cs.length cap, .int .i64 n] w fun e w' => e = .returned (.bool true) ∧ Chg [] w w' := by
  obtain ⟨F, rfl, hF⟩ := nat_u32 fl hfw
  clear hfw
  have HFEW0 := Lib.hid (fun w rd => fewC_any cs 20 a cap w rd)
  have HG := Lib.hid hg
  have HR := Lib.hid rd
  clear hg rd
  cases hfb : fewC cs 20 with
  | false =>
    rw [hfb] at HFEW0
    clear hfb
    go_enter Tryd.func7, Tryd.ntmps7
    go_wp2_with fail
    refine (HFEW0.out _ (HR.out.frame ((Chg.refl [] w).alloc _))).mono ?_
    rintro e w1 ⟨rfl, rfl⟩
    go_wp2_with fail
    refine (known_cmd _ (HG.out.frame ((Chg.refl [] w).alloc _) (by simp))).mono ?_
    rintro e wk ⟨rfl, hch⟩
    have HK := Lib.hid ((((Chg.refl [] w).alloc _)).then hch)
    clear hch
    go_wp2
    go_ret
    exact ⟨rfl, HK.out⟩
  | true =>
    rw [hfb] at HFEW0
    obtain ⟨hl20, hb2⟩ := fewC_len hfb
    have HCAT : Hid ((catL cs).length ≤ 40000) := by
      refine Lib.hid ?_
      have := catL_few hb2
      have : cs.length * 2000 ≤ 20 * 2000 := Nat.mul_le_mul_right _ hl20
      omega
    clear hb2 hfb
    by_cases hn0 : n < 0
    · have d1 : decide (n < 0) = true := by simpa using hn0
      clear hn0
      go_enter Tryd.func7, Tryd.ntmps7
      go_wp2_with fail
      refine (HFEW0.out _ (HR.out.frame ((Chg.refl [] w).alloc _))).mono ?_
      rintro e w1 ⟨rfl, rfl⟩
      go_wp2_with fail
      refine (known_cmd _ (HG.out.frame ((Chg.refl [] w).alloc _) (by simp))).mono ?_
      rintro e wk ⟨rfl, hch⟩
      have HK := Lib.hid ((((Chg.refl [] w).alloc _)).then hch)
      clear hch
      go_wp2
      go_ret
      exact ⟨rfl, HK.out⟩
    · obtain ⟨N, rfl⟩ : ∃ N : Nat, n = N := ⟨n.toNat, by omega⟩
      have d1 : decide ((N : Int) < 0) = false := by simp
      clear hn0
      cases hk : kindB sub kind with
      | false =>
        have HM := Lib.hid (fun v w => CRMake_kind sub kind F v w hk)
        go_enter Tryd.func7, Tryd.ntmps7
        go_wp2_with fail
        obtain ⟨w0, hw0⟩ : ∃ x, x = w.alloc (.cells #[.int .i64 sub, .int .i64 kind, .int .u32 F] 34) := ⟨_, rfl⟩
        obtain ⟨r, hr⟩ : ∃ x, x = w.heap.size := ⟨_, rfl⟩
        have hb := heap_alloc_eq w (.cells #[.int .i64 sub, .int .i64 kind, .int .u32 F] 34)
        have C0 : Hid (Chg [] w w0) := Lib.hid (by rw [hw0]; exact (Chg.refl _ _).alloc _)
        rw [← hw0, ← hr] at hb
        rw [← hw0]
        try rw [← hr]
        clear hw0 hr
        have h0 := cell_of_heap hb 0
        have h1 := cell_of_heap hb 1
        have h2 := cell_of_heap hb 2
        simp at h0 h1 h2
        clear hb hk
        refine (HFEW0.out w0 (HR.out.frame C0.out)).mono ?_
        rintro e w1 ⟨rfl, rfl⟩
        go_wp2_with fail
        refine (HM.out _ w1).mono ?_
        rintro e w2 ⟨rfl, hch⟩
        have C2 := Lib.hid (C0.out.then hch)
        clear hch
        go_wp2_with fail
        refine (known_cmd _ (HG.out.frame C2.out (by simp))).mono ?_
        rintro e wk ⟨rfl, hch⟩
        have HK := Lib.hid ((C2.out).then hch)
        clear hch
        go_wp2
        go_ret
        exact ⟨rfl, HK.out⟩
      | true =>
        have hk' : (sub = 0 ∨ sub = 2) ∧ (kind = 2 ∨ kind = 6) := by simpa [kindB] using hk
        obtain ⟨S, rfl⟩ : ∃ S : Nat, sub = S := ⟨sub.toNat, by omega⟩
        obtain ⟨K, rfl⟩ : ∃ K : Nat, kind = K := ⟨kind.toNat, by omega⟩
        clear hk'
        have HM := Lib.hid (fun w rd => CRMake_may S K F hF cs a cap w rd (by omega) (by have := HCAT.out; omega) hk)
        have HSH := Lib.hid (fun h n hn => head_short S K F hF cs h n hn)
        have HML := Lib.hid (makeL_len S K F cs)
        have hcat := HCAT.out
        have hml : (makeL S K F cs).length ≤ 40032 := by rw [makeL_len]; omega
        generalize makeE S K cs = E at *
        generalize makeL S K F cs = L at *
        go_enter Tryd.func7, Tryd.ntmps7
        go_wp2_with fail
        obtain ⟨w0, hw0⟩ : ∃ x, x = w.alloc (.cells #[.int .i64 S, .int .i64 K, .int .u32 F] 34) := ⟨_, rfl⟩
        obtain ⟨r, hr⟩ : ∃ x, x = w.heap.size := ⟨_, rfl⟩
        have hb := heap_alloc_eq w (.cells #[.int .i64 S, .int .i64 K, .int .u32 F] 34)
        have C0 : Hid (Chg [] w w0) := Lib.hid (by rw [hw0]; exact (Chg.refl _ _).alloc _)
        rw [← hw0, ← hr] at hb
        rw [← hw0]
        try rw [← hr]
        clear hw0 hr
        have h0 := cell_of_heap hb 0
        have h1 := cell_of_heap hb 1
        have h2 := cell_of_heap hb 2
        simp at h0 h1 h2
        clear hb hk
        refine (HFEW0.out w0 (HR.out.frame C0.out)).mono ?_
        rintro e w1 ⟨rfl, rfl⟩
        go_wp2_with fail
        refine (HM.out w1 (HR.out.frame C0.out)).mono ?_
        rintro e w2 ⟨v, rfl, hv, hvn, hch⟩
        have D2 := Lib.hid (hch)
        have C2 := Lib.hid (C0.out.then hch)
        have HV := Lib.hid (hv)
        clear hch hv hvn h0 h1 h2
        by_cases hE : E = 0
        · subst hE
          obtain ⟨aV, nV, cV, rfl, hnV, hcV, hcM, _⟩ := id (HV.out rfl)
          rw [bytesV_length] at hnV
          subst hnV
          unfold maxLen at hcM
          by_cases hN : L.length ≤ N
          · have d2 : decide (L.length ≤ N) = true := by simpa using hN
            clear hN
            go_wp2_with fail
            refine (known_cmd _ (HG.out.frame C2.out (by simp))).mono ?_
            rintro e wk ⟨rfl, hch⟩
            have HK := Lib.hid ((C2.out).then hch)
            clear hch
            go_wp2
            go_ret
            exact ⟨rfl, HK.out⟩
          · have d2 : decide (L.length ≤ N) = false := by simpa using hN
            have HHE := Lib.hid (HSH.out rfl N (by omega))
            have HT := Lib.hid (Rd_cut (HV.out rfl) N (by omega))
            obtain ⟨LT, hLT⟩ : ∃ LT, LT = L.take N := ⟨_, rfl⟩
            have hTL : LT.length = N := by rw [hLT, List.length_take]; omega
            rw [← hLT] at HT HHE
            have hNL : N ≤ L.length := by omega
            clear hLT hN
            subst hTL
            have HRB := Lib.hid (fun w hg rd => Read_bad LT aV cV w hg rd (by omega) (by rw [HHE.out]; decide))
            rw [HHE.out] at HRB
            go_wp2_with fail
            refine (HRB.out w2 (HG.out.frame C2.out (by simp)) HT.out).mono ?_
            rintro e w3 ⟨rfl, hch⟩
            have C3 := Lib.hid (C2.out.then hch)
            clear hch
            go_upto_region 7 with fail
            obtain ⟨X, hX⟩ : ∃ q, q = w3.heap.size := ⟨_, rfl⟩
            obtain ⟨v3, hv3⟩ : ∃ q, q = w3.alloc (.cells #[.int .i64 0, .int .i64 0, .int .u32 0] 34) := ⟨_, rfl⟩
            have bx : v3.heap[X]? = some (.cells #[.int .i64 0, .int .i64 0, .int .u32 0] 34 (0, 0)) := by rw [hv3, hX]; exact heap_alloc_eq _ _
            have Cv3 : Hid (Chg [] w3 v3) := Lib.hid (by rw [hv3]; exact (Chg.refl _ _).alloc _)
            rw [← hX, ← hv3]
            clear hX hv3
            have x0 := cell_of_heap bx 0
            have x1 := cell_of_heap bx 1
            have x2 := cell_of_heap bx 2
            simp at x0 x1 x2
            clear bx
            go_wp2_with fail
            refine (known_cmd _ (HG.out.frame (C3.out.then Cv3.out) (by simp))).mono ?_
            rintro e wk ⟨rfl, hch⟩
            have HK := Lib.hid (((C3.out.then Cv3.out)).then hch)
            clear hch
            go_wp2
            go_ret
            exact ⟨rfl, HK.out⟩
        · have k0 : (E != 0) = true := by rw [bne_iff_ne]; exact hE
          clear hE
          go_wp2_with fail
          refine (known_cmd _ (HG.out.frame C2.out (by simp))).mono ?_
          rintro e wk ⟨rfl, hch⟩
          have HK := Lib.hid ((C2.out).then hch)
          clear hch
          go_wp2
          go_ret
          exact ⟨rfl, HK.out⟩
end Go.Proofs.YtchkombikjcokaaDoor
