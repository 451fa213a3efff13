/- slices.Equal of rows of fixups; fixup.Same. -/
import Derived.Test.YtmfphdaoenkmnaaDoorFxFSet
namespace Go.Proofs.YtmfphdaoenkmnaaDoor
open Go.RowKit
set_option maxRecDepth 100000

set_option maxHeartbeats 4000000 in
theorem SEqual_any (ls ms : List Fx) (v v' : Value) (w : World) (rd : FxRd w v ls) (rd' : FxRd w v' ms) :
    Calls Tryd.prog 17 #[v, v'] w fun e w' => e = .returned (.bool (decide (ls = ms))) ∧ Chg [] w w' := by
  obtain ⟨a, n, cap, rfl, rfl, hc1, hc2, hx⟩ := rd
  obtain ⟨a', n', cap', rfl, rfl, hc1', hc2', hx'⟩ := rd'
  unfold maxLen at hc2 hc2'
  have Hx := Lib.hid hx
  have HY := Lib.hid hx'
  clear hx hx'
  by_cases hlen : ls.length = ms.length
  case neg =>
    have d1 : ((ls.length : Int) != (ms.length : Int)) = true := by simp; omega
    have HF : Hid (decide (ls = ms) = false) := Lib.hid (by rw [decide_eq_false_iff_not]; rintro rfl; exact hlen rfl)
    clear hlen
    go_enter Tryd.func17, Tryd.ntmps17
    go_wp2
    go_ret
    exact ⟨by rw [HF.out]; rfl, Chg.refl _ _⟩
  have d1 : ((ls.length : Int) != (ms.length : Int)) = false := by simp; omega
  have HLEN := Lib.hid (hlen)
  have hlen' : ms.length = ls.length := hlen.symm
  clear hlen
  go_enter Tryd.func17, Tryd.ntmps17
  go_wp2_with fail
  go_loopw [13] (fun s13 wr => ∃ k : Nat, k ≤ ls.length ∧ s13 = .int .i64 (k : Int) ∧ (∀ j, j < k → ls.getD j .zero = ms.getD j .zero) ∧ Chg [] w wr) (fun s13 _ => ls.length - (intOf s13).toNat)
  case atStart => exact ⟨0, Nat.zero_le _, rfl, fun _ h => absurd h (Nat.not_lt_zero _), Chg.refl _ _⟩
  case round =>
    obtain ⟨k, hk, rfl, heq, hch⟩ := hrel
    have Hch := Lib.hid hch
    have Heq := Lib.hid heq
    clear hch heq
    by_cases hlt : k < ls.length
    · obtain ⟨b, off, rfl, _, hcell⟩ := Hx.out (by rintro rfl; simp at hlt)
      obtain ⟨b', off', rfl, _, hcell'⟩ := HY.out (by rintro rfl; have := HLEN.out; rw [this] at hlt; simp at hlt)
      obtain ⟨h0, h1, h2, h3, h4, h5, h6⟩ := FxRd.at (hcell k hlt)
      obtain ⟨j0, j1, j2, j3, j4, j5, j6⟩ := FxRd.at (hcell' k (by omega))
      obtain ⟨f, hf⟩ : ∃ f, f = ls.getD k .zero := ⟨_, rfl⟩
      obtain ⟨g, hg⟩ : ∃ g, g = ms.getD k .zero := ⟨_, rfl⟩
      rw [← hf] at h0 h1 h2 h3 h4 h5 h6
      rw [← hg] at j0 j1 j2 j3 j4 j5 j6
      replace h0 := Hch.out.cell h0 (by simp)
      replace h1 := Hch.out.cell h1 (by simp)
      replace h2 := Hch.out.cell h2 (by simp)
      replace h3 := Hch.out.cell h3 (by simp)
      replace h4 := Hch.out.cell h4 (by simp)
      replace h5 := Hch.out.cell h5 (by simp)
      replace h6 := Hch.out.cell h6 (by simp)
      replace j0 := Hch.out.cell j0 (by simp)
      replace j1 := Hch.out.cell j1 (by simp)
      replace j2 := Hch.out.cell j2 (by simp)
      replace j3 := Hch.out.cell j3 (by simp)
      replace j4 := Hch.out.cell j4 (by simp)
      replace j5 := Hch.out.cell j5 (by simp)
      replace j6 := Hch.out.cell j6 (by simp)
      have Hf := Lib.hid hf
      have Hg := Lib.hid hg
      clear hf hg
      clear hcell hcell'
      have q := fx_neq f g
      by_cases hfg : f = g
      · have e : decide (f = g) = true := by simpa using hfg
        rw [e] at q
        have Hfg := Lib.hid hfg
        clear hfg
        clear e
        go_wp2_with fail
        go_quiet (fail)
        go_wp2
        go_roundw
        case rel =>
          refine ⟨k + 1, hlt, by go_num, fun j hj => ?_, Hch.out.drewN _⟩
          by_cases e : j = k
          · subst e; rw [← Hf.out, ← Hg.out]; exact Hfg.out
          · exact Heq.out j (by omega)
        case measure => simp [intOf]; omega
      · have e : decide (f = g) = false := by simpa using hfg
        rw [e] at q
        have HF : Hid (decide (ls = ms) = false) := by
          refine Lib.hid ?_
          rw [decide_eq_false_iff_not]
          rintro rfl
          exact hfg (by rw [Hf.out, Hg.out])
        clear e hfg
        go_wp2_with fail
        go_quiet (fail)
        go_wp2
        go_ret
        exact ⟨by rw [HF.out]; rfl, Hch.out.drewN _⟩
    · obtain rfl : k = ls.length := by omega
      have HF : Hid (decide (ls = ms) = true) := by
        refine Lib.hid ?_
        rw [decide_eq_true_eq]
        refine List.ext_getElem HLEN.out (fun j h1 h2 => ?_)
        have := Heq.out j h1
        simpa [List.getD_eq_getElem?_getD, h1, h2] using this
      go_wp2
      go_ret
      exact ⟨by rw [HF.out]; rfl, Hch.out⟩
theorem FSame_any (ls ms : List Fx) (v v' : Value) (w : World) (rd : FxRd w v ls) (rd' : FxRd w v' ms) (hl : ls.length ≤ 100000) (hm : ms.length ≤ 100000) :
    Calls Tryd.prog 8 #[v, v'] w fun e w' => e = .returned (.bool (decide (setF ls = setF ms))) ∧ Chg [] w w' := by
  have Rd := Lib.hid rd
  have RD2 := Lib.hid rd'
  clear rd rd'
  go_enter Tryd.func8, Tryd.ntmps8
  go_wp2_with fail
  refine (FSet_any ls v w Rd.out hl).mono ?_
  rintro e w1 ⟨v1, rfl, hb, hch⟩
  have B1 := Lib.hid (hb)
  have C1 := Lib.hid (hch)
  clear hb hch
  go_wp2_with fail
  refine (FSet_any ms v' w1 (RD2.out.frame C1.out) hm).mono ?_
  rintro e w2 ⟨v2, rfl, hb, hch⟩
  have B2 := Lib.hid (hb)
  have D2 := Lib.hid (hch)
  have C2 := Lib.hid (C1.out.then hch)
  clear hb hch
  go_wp2_with fail
  refine (SEqual_any (setF ls) (setF ms) v1 v2 w2 (B1.out.pure D2.out).rd B2.out.rd).mono ?_
  rintro e w3 ⟨rfl, hch⟩
  have C3 := Lib.hid (C2.out.then hch)
  clear hch
  go_wp2
  go_ret
  exact ⟨rfl, C3.out⟩
end Go.Proofs.YtmfphdaoenkmnaaDoor
