/- fixup.Meet. -/
import Derived.Test.YtgmlcmmphhmogaaFxRSame
import Derived.Test.YtgmlcmmphhmogaaFxMeetP
namespace Go.Proofs.Ytgmlcmmphhmogaa
open Go.RowKit
set_option maxRecDepth 100000

theorem adj_get : ∀ {l : List Fx}, adjF l = true ↔ ∃ j, j + 1 < l.length ∧ (l.getD (j + 1) .zero).at_ - (l.getD j .zero).at_ < 8
  | [] => by simp [adjF]
  | [x] => by simp [adjF]
  | x :: y :: r => by
    have ih := adj_get (l := y :: r)
    unfold adjF
    rw [Bool.or_eq_true, decide_eq_true_eq, ih]
    constructor
    · rintro (h | ⟨j, h1, h2⟩)
      · exact ⟨0, by simp, h⟩
      · exact ⟨j + 1, by simpa using h1, h2⟩
    · rintro ⟨j, h1, h2⟩
      cases j with
      | zero => exact .inl h2
      | succ j => exact .inr ⟨j, by simpa using h1, h2⟩
set_option maxHeartbeats 4000000 in
theorem FMeet_any (ls : List Fx) (v : Value) (w : World) (rd : FxRd w v ls) (hl : ls.length ≤ 100000) (hr : ∀ f ∈ ls, 0 ≤ f.at_ ∧ f.at_ < 18446744073709551616) :
    Calls Try.prog 12 #[v] w fun e w' => e = .returned (.bool (meetF ls)) ∧ Chg [] w w' := by
  rw [← adj_meet]
  obtain ⟨S, hS⟩ : ∃ S, S = setF ls := ⟨_, rfl⟩
  have hSl : S.length ≤ 100000 := by have := setF_len ls; rw [← hS] at this; omega
  have HSS : Hid (SS S) := Lib.hid (by rw [hS]; exact ss_setF _)
  have HRG : Hid (∀ j, j < S.length → 0 ≤ (S.getD j .zero).at_ ∧ (S.getD j .zero).at_ < 18446744073709551616) := by
    refine Lib.hid ?_
    intro j hj
    refine hr _ (mem_setF.1 ?_)
    rw [← hS, List.getD_eq_getElem?_getD, List.getElem?_eq_getElem hj]
    exact List.getElem_mem hj
  have HFS : Hid (Calls Try.prog 9 #[v] w fun e w' => ∃ v', e = .returned v' ∧ FxBuf w' w.heap.size v' S ∧ Chg [] w w') := Lib.hid (by rw [hS]; exact FSet_any ls v w rd hl)
  rw [← hS]
  clear hS hr rd hl
  go_enter Try.func12, Try.ntmps12
  go_wp2_with fail
  refine (HFS.out).mono ?_
  rintro e w1 ⟨v1, rfl, hb, hch⟩
  obtain ⟨a1, n1, c1, rfl, rfl, hc1, hc2, _⟩ := hb.rd
  unfold maxLen at hc2
  have Hb := Lib.hid hb
  have Hch := Lib.hid hch
  clear hb hch
  go_wp2_with fail
  go_loopw [4] (fun s4 wr => ∃ m : Nat, m ≤ S.length ∧ s4 = .int .i64 ((m + 1 : Nat) : Int) ∧ (∀ j, j < m → j + 1 < S.length → ¬ (S.getD (j + 1) .zero).at_ - (S.getD j .zero).at_ < 8) ∧ Chg [] w1 wr) (fun s4 _ => S.length + 1 - (intOf s4).toNat)
  case atStart => exact ⟨0, Nat.zero_le _, rfl, fun j h => absurd h (Nat.not_lt_zero _), Chg.refl _ _⟩
  case round =>
    obtain ⟨m, hm, rfl, hno, hcq⟩ := hrel
    have Hno := Lib.hid hno
    have Hcq := Lib.hid hcq
    clear hno hcq
    by_cases hlt : m + 1 < S.length
    · obtain ⟨g, cap, he, _, _, _, _, _, hcell⟩ := Hb.out.at (by omega)
      cases he
      obtain ⟨p, hp⟩ : ∃ q, q = (S.getD (m + 1) .zero).at_ := ⟨_, rfl⟩
      obtain ⟨q, hq⟩ : ∃ q, q = (S.getD m .zero).at_ := ⟨_, rfl⟩
      have x0 : wr.cell? ⟨g, (m + 1) * 7, none⟩ = some (.int .u64 p) := by rw [hp]; exact Hcq.out.cell (hcell (m + 1) hlt 0 (by decide)) (by simp)
      have y0 : wr.cell? ⟨g, m * 7, none⟩ = some (.int .u64 q) := by rw [hq]; exact Hcq.out.cell (hcell m (by omega) 0 (by decide)) (by simp)
      have hle : q ≤ p := by rw [hp, hq]; exact ord_at (ss_lt HSS.out (Nat.lt_succ_self m) hlt)
      have hw : IntKind.u64.wrap (p - q) = p - q := by
        have h1 := HRG.out (m + 1) hlt
        have h2 := HRG.out m (by omega)
        rw [← hp] at h1
        rw [← hq] at h2
        rw [IntKind.wrap_u64]
        omega
      clear hcell
      by_cases h8 : p - q < 8
      · have d8 : decide (p - q < 8) = true := by simpa using h8
        have HT : Hid (adjF S = true) := Lib.hid (adj_get.2 ⟨m, hlt, by rw [← hp, ← hq]; exact h8⟩)
        clear h8 hle hp hq
        go_wp2_with fail
        go_quiet (fail)
        go_wp2
        go_ret
        exact ⟨by rw [HT.out]; rfl, Hch.out.then (Hcq.out.drewN _)⟩
      · have d8 : decide (p - q < 8) = false := by simpa using h8
        have HN : Hid (¬ (S.getD (m + 1) .zero).at_ - (S.getD m .zero).at_ < 8) := Lib.hid (by rw [← hp, ← hq]; exact h8)
        clear h8 hle hp hq
        go_wp2_with fail
        go_quiet (fail)
        go_wp2
        go_roundw
        case rel =>
          refine ⟨m + 1, by omega, by go_num, fun j h1 h2 => ?_, Hcq.out.drewN _⟩
          by_cases e : j = m
          · subst e; have := HN.out; omega
          · have := Hno.out j (by omega) h2; omega
        case measure => simp [intOf]; omega
    · have HF : Hid (adjF S = false) := by
        refine Lib.hid ?_
        cases e : adjF S with
        | false => rfl
        | true =>
          obtain ⟨j, h1, h2⟩ := adj_get.1 e
          have := Hno.out j (by omega) h1; omega
      go_wp2
      go_ret
      exact ⟨by rw [HF.out]; rfl, Hch.out.then Hcq.out⟩
end Go.Proofs.Ytgmlcmmphhmogaa
