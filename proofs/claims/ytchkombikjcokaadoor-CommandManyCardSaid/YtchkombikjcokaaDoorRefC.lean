/- The document's cursor: Number, where so many bytes stand there. -/
import Derived.Test.YtchkombikjcokaaDoorRead
import Derived.StillTailTactics
namespace Go.Proofs.YtchkombikjcokaaDoor
open Go.RowKit
set_option maxRecDepth 100000

theorem need_ok (b : Nat) (al at_ bg : Value) (w : World) (h : w.heap[b]? = some (.cells #[al, at_, bg, .bool false] 129 (0, 0))) :
    Calls Tryd.prog 91 #[.pointer (some ⟨b, 0, none⟩), .bool true] w fun e w' => e = .returned (.bool false) ∧ w'.heap[b]? = some (.cells #[al, at_, bg, .bool false] 129 (0, 0)) ∧ Chg [b] w w' := by
  have h3 := cell_of_heap h 3
  have f3 := frozen_of_heap h 3
  have H := Lib.hid h
  clear h
  simp at h3
  go_enter Tryd.func91, Tryd.ntmps91
  go_wp2
  go_ret
  exact ⟨rfl, heap_setCell H.out 3 _, (Chg.refl _ _).setCell _ _ (.inl (by simp))⟩
set_option maxHeartbeats 1000000 in
theorem RBytes_some (b d off n cap : Nat) (m : Nat) (bg : Value) (w : World)
   (h : w.heap[b]? = some (.cells #[.slice (some ⟨d, off, none⟩) n cap, .int .i64 0, bg, .bool false] 129 (0, 0)))
   (hn : n ≤ 140737488355328) (hc : n ≤ cap) (hc2 : cap ≤ 9223372036854775807) (hm : 0 < m) (hm2 : m ≤ n) :
    Calls Tryd.prog 92 #[.pointer (some ⟨b, 0, none⟩), .int .i64 m] w fun e w' => e = .returned (.slice (some ⟨d, off, none⟩) m cap) ∧
      w'.heap[b]? = some (.cells #[.slice (some ⟨d, off, none⟩) n cap, .int .i64 m, bg, .bool false] 129 (0, 0)) ∧ Chg [b] w w' := by
  have hc0 := cell_of_heap h 0
  have hc1 := cell_of_heap h 1
  simp at hc0 hc1
  have HH := Lib.hid h
  clear h
  have k1 : decide ((m : Int) ≤ (n : Int)) = true := by simp; omega
  go_enter Tryd.func92, Tryd.ntmps92
  go_wp2_with fail
  refine wp_region_still_tail 17 (by kernel_rfl) (by kernel_rfl) ?_
  simp only [List.take_succ_cons, List.take_zero, List.drop_succ_cons, List.drop_zero]
  change wpStill _ _ w.drew _ _ _
  repeat still_step
  refine wpStill_nil ?_
  change wpList _ _ _ _ _ w.drew
  go_wp2_with fail
  rw [k1]
  refine (need_ok b _ _ _ w.drew HH.out).mono ?_
  rintro e w1 ⟨rfl, hb1, hch⟩
  have g0 := cell_of_heap hb1 0
  have g1 := cell_of_heap hb1 1
  have f1 := frozen_of_heap hb1 1
  simp at g0 g1
  have HB1 := Lib.hid (hb1)
  have HC1 := Lib.hid (((Chg.refl [b] w).drew).same hch)
  clear hb1 hch hc0 hc1
  go_wp2_with fail
  go_quiet (fail)
  go_wp2
  go_ret
  exact ⟨rfl, heap_setCell HB1.out 1 _, (HC1.out.drewN _).setCell _ _ (.inl (by simp))⟩

theorem ref_step (r : List UInt8) (k : Nat) (h : k < r.length) (h8 : r.length ≤ 8) :
    IntKind.u64.wrap (IntKind.u64.wrap ((beNum (r.take k) : Int) * 256) + IntKind.u64.wrap ((r[k]?.getD 0).toNat : Int)) = (beNum (r.take (k + 1)) : Int) := by
  have hb := (r[k]?.getD 0).toNat_lt
  have hk : (r.take k).length = k := by simp; omega
  have hlt := beNum_lt (r.take k)
  rw [hk] at hlt
  have hp : 256 ^ (k + 1) ≤ 18446744073709551616 := pow_le8 (k + 1) (by omega)
  rw [Nat.pow_succ] at hp
  rw [IntKind.wrap_u64, IntKind.wrap_u64, IntKind.wrap_u64, take_snoc8 r k h, beNum_snoc]
  omega
def way (big : Bool) (l : List UInt8) : List UInt8 := if big then l else l.reverse
theorem beNum_way (big : Bool) (l : List UInt8) : beNum (way big l) = numOf big l := by
  cases big with
  | true => rfl
  | false => unfold way numOf; simp only [Bool.false_eq_true, if_false]; rw [← leNum_reverse, List.reverse_reverse]

set_option maxHeartbeats 1000000 in
theorem RNumber_some (b d off n cap : Nat) (m : Nat) (big : Bool) (l : List UInt8) (w : World)
   (h : w.heap[b]? = some (.cells #[.slice (some ⟨d, off, none⟩) n cap, .int .i64 0, .bool big, .bool false] 129 (0, 0)))
   (hn : n ≤ 140737488355328) (hc : n ≤ cap) (hc2 : cap ≤ 9223372036854775807) (hm : m = 4 ∨ m = 8) (hm2 : m ≤ n) (hbd : d ≠ b) (hll : l.length = m)
   (hl : ∀ j, j < m → w.cell? ⟨d, off + j, none⟩ = some (.int .u8 (l.getD j 0).toNat)) :
    Calls Tryd.prog 66 #[.pointer (some ⟨b, 0, none⟩), .int .i64 m] w fun e w' => e = .returned (.int .u64 (numOf big l)) ∧ Chg [b] w w' := by
  have HW : Hid (beNum (way big l) = numOf big l) := Lib.hid (beNum_way big l)
  have hwl : (way big l).length = m := by unfold way; split <;> simp [hll]
  have HST : Hid (∀ k, k < m → IntKind.u64.wrap (IntKind.u64.wrap ((beNum ((way big l).take k) : Int) * 256) + IntKind.u64.wrap (((way big l)[k]?.getD 0).toNat : Int)) = (beNum ((way big l).take (k + 1)) : Int)) := Lib.hid (fun k hk => ref_step _ k (by omega) (by omega))
  have HFULL : Hid ((way big l).take m = way big l) := Lib.hid (List.take_of_length_le (by omega))
  have HCELL : Hid (∀ W, Chg [b] w W → ∀ k, k < m → W.cell? ⟨d, off + (if big then k else m - 1 - k), none⟩ = some (.int .u8 ((way big l).getD k 0).toNat)) := by
    refine Lib.hid ?_
    intro W hW k hk
    have hd : d ∉ [b] := by simpa using hbd
    cases big with
    | true => exact hW.cell (hl k hk) hd
    | false =>
      have := hW.cell (hl (m - 1 - k) (by omega)) hd
      simp only [Bool.false_eq_true, if_false]
      rw [this]
      unfold way
      simp only [Bool.false_eq_true, if_false, List.getD_eq_getElem?_getD]
      rw [List.getElem?_reverse (by omega), hll]
  have HH := Lib.hid h
  have HWL := Lib.hid hwl
  clear h hwl
  clear hl hll hbd
  rcases hm with rfl | rfl
  all_goals
    go_enter Tryd.func66, Tryd.ntmps66
    go_wp2_with fail
    refine (need_ok b _ _ _ w HH.out).mono ?_
    rintro e w1 ⟨rfl, hb1, hch1⟩
    have Hb1 := Lib.hid hb1
    have Hch1 := Lib.hid hch1
    clear hb1 hch1
    go_wp2_with fail
    refine (RBytes_some b d off n cap _ _ w1 Hb1.out hn hc hc2 (by decide) hm2).mono ?_
    rintro e w2 ⟨rfl, hb2, hch2⟩
    have HC2 := Lib.hid (Hch1.out.same hch2)
    have g2 := cell_of_heap hb2 2
    simp at g2
    clear hb2 hch2
    go_wp2_with fail
    go_loop [6, 7] (fun s6 s7 => ∃ k : Nat, k ≤ (way big l).length ∧ s7 = .int .i64 (k : Int) ∧ s6 = .int .u64 (beNum ((way big l).take k))) (fun _ s7 => (way big l).length - (intOf s7).toNat)
    case atStart => exact ⟨0, Nat.zero_le _, rfl, rfl⟩
    case round =>
      obtain ⟨k, hk, rfl, rfl⟩ := hrel
      rw [HWL.out] at hk
      by_cases hlt : k < (way big l).length
      · rw [HWL.out] at hlt
        have HS := Lib.hid (HST.out k hlt)
        have hcell := HCELL.out w2 HC2.out k hlt
        cases big
        all_goals
          simp only [Bool.false_eq_true, if_false, if_true] at hcell
          go_wp2
          go_round
          case rel => exact ⟨k + 1, by rw [HWL.out]; exact hlt, by go_num, by rw [HS.out]⟩
          case measure => have := HWL.out; simp [intOf]; omega
      · rw [HWL.out] at hlt
        have e1 := Nat.le_antisymm hk (Nat.le_of_not_lt hlt)
        subst e1
        clear hlt
        rw [HFULL.out, HW.out]
        go_wp2
        go_ret
        exact ⟨rfl, HC2.out⟩
end Go.Proofs.YtchkombikjcokaaDoor
