/- clevisref12.Meet. -/
import Derived.Test.YtmfphdaoenkmnaaDoorFxRow
namespace Go.Proofs.YtmfphdaoenkmnaaDoor
open Go.RowKit
set_option maxRecDepth 100000

def pairM (a b : Fx) : Bool := decide (a ≠ b) && apart8 a b
theorem apart8_comm (a b : Fx) : apart8 a b = apart8 b a := by
  unfold apart8
  by_cases h : a.at_ < b.at_
  · rw [if_pos h, if_neg (by omega)]
  · by_cases h2 : b.at_ < a.at_
    · rw [if_neg h, if_pos h2]
    · rw [if_neg h, if_neg h2]
      have : a.at_ = b.at_ := by omega
      rw [this]
theorem pairM_comm (a b : Fx) : pairM a b = pairM b a := by
  unfold pairM
  rw [apart8_comm a b]
  congr 1
  exact decide_eq_decide.2 ⟨Ne.symm, Ne.symm⟩
theorem pairM_self (a : Fx) : pairM a a = false := by simp [pairM]
theorem meet_at (ls : List Fx) : meetF ls = true ↔ ∃ i k, k < i ∧ i < ls.length ∧ pairM (ls.getD i .zero) (ls.getD k .zero) = true := by
  have g : ∀ i, i < ls.length → ls.getD i .zero ∈ ls := fun i hi => by
    rw [List.getD_eq_getElem?_getD, List.getElem?_eq_getElem hi]; exact List.getElem_mem hi
  unfold meetF
  rw [List.any_eq_true]
  constructor
  · rintro ⟨a, ha, h⟩
    rw [List.any_eq_true] at h
    obtain ⟨b, hb, h⟩ := h
    obtain ⟨i, hi, rfl⟩ := List.getElem_of_mem ha
    obtain ⟨k, hk, rfl⟩ := List.getElem_of_mem hb
    have h2 : pairM (ls.getD i .zero) (ls.getD k .zero) = true := by
      simpa [List.getD_eq_getElem?_getD, hi, hk, pairM] using h
    rcases Nat.lt_trichotomy i k with e | e | e
    · exact ⟨k, i, e, hk, by rw [pairM_comm]; exact h2⟩
    · subst e; rw [pairM_self] at h2; cases h2
    · exact ⟨i, k, e, hi, h2⟩
  · rintro ⟨i, k, hki, hi, h⟩
    refine ⟨_, g i hi, ?_⟩
    rw [List.any_eq_true]
    exact ⟨_, g k (by omega), h⟩
set_option maxHeartbeats 8000000 in
theorem RMeet_any (ls : List Fx) (v : Value) (w : World) (rd : FxRd w v ls) (hr : ∀ f ∈ ls, 0 ≤ f.at_ ∧ f.at_ < 18446744073709551616) :
    Calls Tryd.prog 11 #[v] w fun e w' => e = .returned (.bool (meetF ls)) ∧ Chg [] w w' := by
  have HRG : Hid (∀ j, j < ls.length → 0 ≤ (ls.getD j .zero).at_ ∧ (ls.getD j .zero).at_ < 18446744073709551616) := by
    refine Lib.hid ?_
    intro j hj
    refine hr _ ?_
    rw [List.getD_eq_getElem?_getD, List.getElem?_eq_getElem hj]
    exact List.getElem_mem hj
  obtain ⟨a, n, cap, rfl, rfl, hc1, hc2, hx⟩ := rd
  unfold maxLen at hc2
  have Hx := Lib.hid hx
  clear hx
  clear hr
  go_enter Tryd.func11, Tryd.ntmps11
  go_wp2_with fail
  go_loopw [3] (fun s3 wr => ∃ i : Nat, i ≤ ls.length ∧ s3 = .int .i64 (i : Int) ∧ (∀ i', i' < i → ∀ k, k < i' → pairM (ls.getD i' .zero) (ls.getD k .zero) = false) ∧ Chg [] w wr) (fun s3 _ => ls.length - (intOf s3).toNat)
  case atStart => exact ⟨0, Nat.zero_le _, rfl, fun _ h => absurd h (Nat.not_lt_zero _), Chg.refl _ _⟩
  case round =>
    obtain ⟨i, hi, rfl, hno, hch⟩ := hrel
    obtain ⟨wo, rfl⟩ : ∃ q, q = wr := ⟨_, rfl⟩
    have Hno := Lib.hid hno
    have Hch := Lib.hid hch
    clear hno hch
    by_cases hlt : i < ls.length
    · obtain ⟨b, off, rfl, _, hcell⟩ := Hx.out (by rintro rfl; simp at hlt)
      have Hcell := Lib.hid hcell
      clear hcell
      go_wp2_with fail
      go_loopw [4] (fun s4 wr => ∃ k : Nat, k ≤ i ∧ s4 = .int .i64 (k : Int) ∧ (∀ j, j < k → pairM (ls.getD i .zero) (ls.getD j .zero) = false) ∧ Chg [] wo wr) (fun s4 _ => i - (intOf s4).toNat)
      case atStart => exact ⟨0, Nat.zero_le _, rfl, fun _ h => absurd h (Nat.not_lt_zero _), Chg.refl _ _⟩
      case round =>
        obtain ⟨k, hk, rfl, hnk, hcq⟩ := hrel
        have Hnk := Lib.hid hnk
        have Hcq := Lib.hid hcq
        clear hnk hcq
        by_cases hki : k < i
        · obtain ⟨x0, x1, x2, x3, x4, x5, x6⟩ := FxRd.at (Hcell.out i hlt)
          obtain ⟨y0, y1, y2, y3, y4, y5, y6⟩ := FxRd.at (Hcell.out k (by omega))
          obtain ⟨f, hf⟩ : ∃ f, f = ls.getD i .zero := ⟨_, rfl⟩
          obtain ⟨h, hg⟩ : ∃ g, g = ls.getD k .zero := ⟨_, rfl⟩
          have r1 := HRG.out i hlt
          have r2 := HRG.out k (by omega)
          rw [← hf] at x0 x1 x2 x3 x4 x5 x6 r1
          rw [← hg] at y0 y1 y2 y3 y4 y5 y6 r2
          have cq := Hch.out.then Hcq.out
          replace x0 := cq.cell x0 (by simp)
          replace x1 := cq.cell x1 (by simp)
          replace x2 := cq.cell x2 (by simp)
          replace x3 := cq.cell x3 (by simp)
          replace x4 := cq.cell x4 (by simp)
          replace x5 := cq.cell x5 (by simp)
          replace x6 := cq.cell x6 (by simp)
          replace y0 := cq.cell y0 (by simp)
          replace y1 := cq.cell y1 (by simp)
          replace y2 := cq.cell y2 (by simp)
          replace y3 := cq.cell y3 (by simp)
          replace y4 := cq.cell y4 (by simp)
          replace y5 := cq.cell y5 (by simp)
          replace y6 := cq.cell y6 (by simp)
          clear cq
          have Hf := Lib.hid hf
          have Hg := Lib.hid hg
          clear hf hg
          have q := fx_neq f h
          by_cases hgt : h.at_ < f.at_
          · have dg : decide (h.at_ < f.at_) = true := by simpa using hgt
            have hw : IntKind.u64.wrap (f.at_ - h.at_) = f.at_ - h.at_ := by rw [IntKind.wrap_u64]; omega
            go_wp2_with fail
            go_quiet (fail)
            go_wp2
            cases hq : decide (f = h) with
            | true =>
              rw [hq] at q
              have HP : Hid (pairM f h = false) := Lib.hid (by unfold pairM; rw [decide_eq_true_eq] at hq; simp [hq])
              clear hq
              go_quiet (fail)
              go_wp2
              go_roundw
              case rel =>
                refine ⟨k + 1, by omega, by go_num, fun j hj => ?_, Hcq.out.drewN _⟩
                by_cases e : j = k
                · subst e; rw [← Hf.out, ← Hg.out]; exact HP.out
                · exact Hnk.out j (by omega)
              case measure => simp [intOf]; omega
            | false =>
              rw [hq] at q
              cases h8 : decide (f.at_ - h.at_ < 8) with
              | true =>
                have HP : Hid (meetF ls = true) := by
                  refine Lib.hid ?_
                  refine (meet_at ls).2 ⟨i, k, hki, hlt, ?_⟩
                  rw [← Hf.out, ← Hg.out]
                  unfold pairM
                  rw [decide_eq_true_eq] at h8
                  rw [decide_eq_false_iff_not] at hq
                  rw [Bool.and_eq_true]
                  exact ⟨by simpa using hq, by unfold apart8; rw [decide_eq_true_eq]; split <;> omega⟩
                clear hq
                go_quiet (fail)
                go_wp2
                go_ret
                exact ⟨by rw [HP.out]; rfl, Hch.out.then ((Hcq.out.drewN _).drewN _)⟩
              | false =>
                have HP : Hid (pairM f h = false) := by
                  refine Lib.hid ?_
                  unfold pairM
                  rw [decide_eq_false_iff_not] at h8
                  rw [Bool.and_eq_false_iff]
                  refine .inr ?_
                  unfold apart8; rw [decide_eq_false_iff_not]; split <;> omega
                clear hq
                go_quiet (fail)
                go_wp2
                go_roundw
                case rel =>
                  refine ⟨k + 1, by omega, by go_num, fun j hj => ?_, Hcq.out.drewN _⟩
                  by_cases e : j = k
                  · subst e; rw [← Hf.out, ← Hg.out]; exact HP.out
                  · exact Hnk.out j (by omega)
                case measure => simp [intOf]; omega
          · have dg : decide (h.at_ < f.at_) = false := by simpa using hgt
            have hw : IntKind.u64.wrap (h.at_ - f.at_) = h.at_ - f.at_ := by rw [IntKind.wrap_u64]; omega
            go_wp2_with fail
            go_quiet (fail)
            go_wp2
            cases hq : decide (f = h) with
            | true =>
              rw [hq] at q
              have HP : Hid (pairM f h = false) := Lib.hid (by unfold pairM; rw [decide_eq_true_eq] at hq; simp [hq])
              clear hq
              go_quiet (fail)
              go_wp2
              go_roundw
              case rel =>
                refine ⟨k + 1, by omega, by go_num, fun j hj => ?_, Hcq.out.drewN _⟩
                by_cases e : j = k
                · subst e; rw [← Hf.out, ← Hg.out]; exact HP.out
                · exact Hnk.out j (by omega)
              case measure => simp [intOf]; omega
            | false =>
              rw [hq] at q
              cases h8 : decide (h.at_ - f.at_ < 8) with
              | true =>
                have HP : Hid (meetF ls = true) := by
                  refine Lib.hid ?_
                  refine (meet_at ls).2 ⟨i, k, hki, hlt, ?_⟩
                  rw [← Hf.out, ← Hg.out]
                  unfold pairM
                  rw [decide_eq_true_eq] at h8
                  rw [decide_eq_false_iff_not] at hq
                  rw [Bool.and_eq_true]
                  exact ⟨by simpa using hq, by unfold apart8; rw [decide_eq_true_eq]; split <;> omega⟩
                clear hq
                go_quiet (fail)
                go_wp2
                go_ret
                exact ⟨by rw [HP.out]; rfl, Hch.out.then ((Hcq.out.drewN _).drewN _)⟩
              | false =>
                have HP : Hid (pairM f h = false) := by
                  refine Lib.hid ?_
                  unfold pairM
                  rw [decide_eq_false_iff_not] at h8
                  rw [Bool.and_eq_false_iff]
                  refine .inr ?_
                  unfold apart8; rw [decide_eq_false_iff_not]; split <;> omega
                clear hq
                go_quiet (fail)
                go_wp2
                go_roundw
                case rel =>
                  refine ⟨k + 1, by omega, by go_num, fun j hj => ?_, Hcq.out.drewN _⟩
                  by_cases e : j = k
                  · subst e; rw [← Hf.out, ← Hg.out]; exact HP.out
                  · exact Hnk.out j (by omega)
                case measure => simp [intOf]; omega
        · obtain rfl : k = i := by omega
          go_wp2_with fail
          go_roundw
          case rel =>
            refine ⟨k + 1, hlt, by go_num, fun j hj => ?_, Hch.out.then Hcq.out⟩
            by_cases e : j = k
            · subst e; exact Hnk.out
            · exact Hno.out j (by omega)
          case measure => simp [intOf]; omega
    · have HF : Hid (meetF ls = false) := by
        refine Lib.hid ?_
        cases e : meetF ls with
        | false => rfl
        | true =>
          obtain ⟨j, k, h1, h2, h3⟩ := (meet_at ls).1 e
          rw [Hno.out j (by omega) k h1] at h3
          cases h3
      go_wp2
      go_ret
      exact ⟨by rw [HF.out]; rfl, Hch.out⟩
end Go.Proofs.YtmfphdaoenkmnaaDoor
