/- Lemmas, laid together: part 27 of 42. Conditions: none but each lemma's own. -/
import Derived.Test.YtiljokmkiolpgaaGreatDoorJ26
import Derived.Test.YtiljokmkiolpgaaGreatDoorJ3
import Derived.Test.YtiljokmkiolpgaaGreatDoorJ12
import Derived.StillTailTactics
import Derived.Test.YtiljokmkiolpgaaGreatDoorJ1
namespace Go.Proofs.YtiljokmkiolpgaaGreatDoor
open Go.RowKit
set_option maxRecDepth 100000
theorem needR_any (b : Nat) (al at_ bg : Value) (bad is : Bool) (w : World) (h : w.heap[b]? = some (.cells #[al, at_, bg, .bool bad] 133 (0, 0))) :
  Calls Tryz.prog 97 #[.pointer (some ⟨b, 0, none⟩), .bool is] w fun e w' => e = .returned (.bool (bad || !is)) ∧ w'.heap[b]? = some (.cells #[al, at_, bg, .bool (bad || !is)] 133 (0, 0)) ∧ Chg [b] w w' := by
 have h3 := cell_of_heap h 3
 have f3 := frozen_of_heap h 3
 have H := hY h
 clear h
 simp at h3
 cases bad
 all_goals
  cases is
  all_goals
   go_enter Tryz.func97, Tryz.ntmps97
   go_wp2
   go_ret
   exact ⟨rfl, heap_setCell H.out 3 _, (Chg.refl _ _).setCell _ _ (.inl (by simp))⟩
set_option maxHeartbeats 1000000 in
theorem RBytes_at (b d off n cap p m : Nat) (bg : Value) (w : World)
   (h : w.heap[b]? = some (.cells #[.slice (some ⟨d, off, none⟩) n cap, .int .i64 (p : Nat), bg, .bool false] 133 (0, 0)))
   (hn : n ≤ 140737488355328) (hc : n ≤ cap) (hc2 : cap ≤ 9223372036854775807) (hm : 0 < m) (hm2 : p + m ≤ n) :
    Calls Tryz.prog 103 #[.pointer (some ⟨b, 0, none⟩), .int .i64 m] w fun e w' => e = .returned (.slice (some ⟨d, off + p, none⟩) m (cap - p)) ∧
      w'.heap[b]? = some (.cells #[.slice (some ⟨d, off, none⟩) n cap, .int .i64 (p + m : Nat), bg, .bool false] 133 (0, 0)) ∧ Chg [b] w w' := by
  have hc0 := cell_of_heap h 0
  have hc1 := cell_of_heap h 1
  simp at hc0 hc1
  have HH := hY h
  clear h
  have hw0 : wrap64 ((n : Int) - (p : Int)) = (n : Int) - p := by unfold wrap64; omega
  have k1 : decide ((m : Int) ≤ (n : Int) - (p : Int)) = true := by simp; omega
  go_enter Tryz.func103, Tryz.ntmps103
  go_wp2_with fail
  refine wp_region_still_tail 17 (by kernel_rfl) (by kernel_rfl) ?_
  simp only [List.take_succ_cons, List.take_zero, List.drop_succ_cons, List.drop_zero]
  change wpStill _ _ w.drew _ _ _
  repeat still_step
  refine wpStill_nil ?_
  change wpList _ _ _ _ _ w.drew
  go_wp2_with fail
  rw [k1]
  refine (needR_any b _ _ _ false true w.drew HH.out).mono ?_
  rintro e w1 ⟨rfl, hb1, hch⟩
  replace hb1 : w1.heap[b]? = some (.cells #[.slice (some ⟨d, off, none⟩) n cap, .int .i64 (p : Nat), bg, .bool false] 133 (0, 0)) := hb1
  have g0 := cell_of_heap hb1 0
  have g1 := cell_of_heap hb1 1
  have f1 := frozen_of_heap hb1 1
  simp at g0 g1
  have HB1 := hY (hb1)
  have HC1 := hY (((Chg.refl [b] w).drew).same hch)
  clear hb1 hch hc0 hc1
  go_wp2_with fail
  go_quiet (fail)
  go_wp2
  go_ret
  exact ⟨congrArg (fun k => Ending.returned (Value.slice (some ⟨d, off + p, none⟩) k (cap - p))) (Nat.add_sub_cancel_left p m), heap_setCell HB1.out 1 _, (HC1.out.drewN _).setCell _ _ (.inl (by simp))⟩
set_option maxHeartbeats 1000000 in
theorem RNumber_at (b d off n cap p m : Nat) (l : List UInt8) (w : World)
   (h : w.heap[b]? = some (.cells #[.slice (some ⟨d, off, none⟩) n cap, .int .i64 (p : Nat), .bool false, .bool false] 133 (0, 0)))
   (hn : n ≤ 140737488355328) (hc : n ≤ cap) (hc2 : cap ≤ 9223372036854775807) (hm : m = 2 ∨ m = 4 ∨ m = 8) (hm2 : p + m ≤ n) (hbd : d ≠ b) (hll : l.length = m)
   (hl : ∀ j, j < m → w.cell? ⟨d, off + p + j, none⟩ = some (.int .u8 (l.getD j 0).toNat)) :
    Calls Tryz.prog 81 #[.pointer (some ⟨b, 0, none⟩), .int .i64 m] w fun e w' => e = .returned (.int .u64 (leNum l)) ∧ Chg [b] w w' := by
  have hwl : l.reverse.length = m := by simp [hll]
  have HST : Hid (∀ k, k < m → IntKind.u64.wrap (IntKind.u64.wrap ((beNum (l.reverse.take k) : Int) * 256) + IntKind.u64.wrap ((l.reverse[k]?.getD 0).toNat : Int)) = (beNum (l.reverse.take (k + 1)) : Int)) := hY (fun k hk => ref_step _ k (by omega) (by omega))
  have HFULL : Hid (l.reverse.take m = l.reverse) := hY (List.take_of_length_le (by omega))
  have HW : Hid (beNum l.reverse = leNum l) := hY (by rw [← leNum_reverse, List.reverse_reverse])
  have HCELL : Hid (∀ W, Chg [b] w W → ∀ k, k < m → W.cell? ⟨d, off + p + (m - 1 - k), none⟩ = some (.int .u8 (l.reverse.getD k 0).toNat)) := by
    refine hY ?_
    intro W hW k hk
    have hd : d ∉ [b] := by simpa using hbd
    have := hW.cell (hl (m - 1 - k) (by omega)) hd
    rw [this]
    simp only [List.getD_eq_getElem?_getD]
    rw [List.getElem?_reverse (by omega), hll]
  have HH := hY h
  have HWL := hY hwl
  clear h hwl
  clear hl hll hbd
  rcases hm with rfl | rfl | rfl
  all_goals
    go_enter Tryz.func81, Tryz.ntmps81
    go_wp2_with fail
    refine (needR_any b _ _ _ false true w HH.out).mono ?_
    rintro e w1 ⟨rfl, hb1, hch1⟩
    have Hb1 := hY hb1
    have Hch1 := hY hch1
    clear hb1 hch1
    go_wp2_with fail
    refine (RBytes_at b d off n cap p _ _ w1 Hb1.out hn hc hc2 (by decide) hm2).mono ?_
    rintro e w2 ⟨rfl, hb2, hch2⟩
    have HC2 := hY (Hch1.out.same hch2)
    have g2 := cell_of_heap hb2 2
    simp at g2
    clear hb2 hch2
    go_wp2_with fail
    go_loop [6, 7] (fun s6 s7 => ∃ k : Nat, k ≤ l.reverse.length ∧ s7 = .int .i64 (k : Int) ∧ s6 = .int .u64 (beNum (l.reverse.take k))) (fun _ s7 => l.reverse.length - (intOf s7).toNat)
    case atStart => exact ⟨0, Nat.zero_le _, rfl, rfl⟩
    case round =>
      obtain ⟨k, hk, rfl, rfl⟩ := hrel
      rw [HWL.out] at hk
      by_cases hlt : k < l.reverse.length
      · rw [HWL.out] at hlt
        have HS := hY (HST.out k hlt)
        have hcell := HCELL.out w2 HC2.out k hlt
        go_wp2
        go_round
        case rel => exact ⟨k + 1, by rw [HWL.out]; exact hlt, by go_num, by rw [HS.out]⟩
        case measure => have := HWL.out; rw [List.length_reverse] at this; simp [intOf]; omega
      · rw [HWL.out] at hlt
        have e1 := Nat.le_antisymm hk (Nat.le_of_not_lt hlt)
        subst e1
        clear hlt
        rw [HFULL.out, HW.out]
        go_wp2
        go_ret
        exact ⟨rfl, HC2.out⟩
set_option maxHeartbeats 4000000 in
theorem RName_any (l : List UInt8) (v : Value) (w : World) (rd : byteL.Rd w v l) :
  Calls Tryz.prog 27 #[v] w fun e w' => e = .returned (.string ⟨(cutZ l).toArray⟩) ∧ Chg [] w w' := by
 obtain ⟨a, cap, rfl, h1, h2⟩ := rd.shape
 have RD := hY rd
 clear rd
 go_enter Tryz.func27, Tryz.ntmps27
 go_wp2_with fail
 go_loopw [3] (fun s3 wr => ∃ k : Nat, k ≤ l.length ∧ s3 = .int .i64 (k : Int) ∧ (∀ j, j < k → l.getD j 0 ≠ 0) ∧ wr = w) (fun s3 _ => l.length - (intOf s3).toNat)
 case atStart => exact ⟨0, Nat.zero_le _, rfl, fun j hj => absurd hj (Nat.not_lt_zero _), rfl⟩
 case round =>
  obtain ⟨k, hk, rfl, hnz, rfl⟩ := hrel
  have fin : ∀ n, n = k → (n < l.length → l.getD n 0 = 0) → cutZ l = l.take n := by
   rintro n rfl hz
   exact cutZ_at l n hk hnz hz
  have hstr : (convert 22 9 (.slice a k cap)).run Tryz.prog wr = .ok (.string ⟨(l.take k).toArray⟩) wr := run_strB (Rd_to_byte (Rd_takeG (Rd_of_byte RD.out) hk))
  have Hnz := hY hnz
  have Fin := hY fin
  clear hnz fin
  by_cases hlt : k < l.length
  ·have hne : l.length ≠ 0 := by omega
   obtain ⟨b, off, rfl, _⟩ := RD.out.at hne
   have d1 : decide ((k : Int) < (l.length : Int)) = true := decide_eq_true (by omega)
   have hc := byte_cell RD.out k hlt
   by_cases hz : l.getD k 0 = 0
   ·have HF := hY (Fin.out k rfl (fun _ => hz))
    rw [hz] at hc
    have Hz := hY hz
    clear hz
    go_wp2
    go_ret
    exact ⟨by rw [HF.out]; rfl, Chg.refl _ _⟩
   ·have hzn : ¬ (l.getD k 0).toNat = 0 := fun e => hz (toNat_eq0.1 e)
    obtain ⟨x, hx⟩ : ∃ x, x = (l.getD k 0).toNat := ⟨_, rfl⟩
    rw [← hx] at hc hzn
    have d2 : (((x : Nat) : Int) != 0) = true := by rw [bne_iff_ne]; omega
    have Hz := hY hz
    have Hx := hY hx
    have Hzn := hY hzn
    have Hstr := hY hstr
    clear hz hx hzn hstr
    go_wp2
    go_roundw
    case rel => exact ⟨k + 1, hlt, by go_num, fun j hj => by
     by_cases e : j = k
     ·subst e; exact Hz.out
     ·exact Hnz.out j (by omega), trivial⟩
    case measure => simp [intOf]; omega
  ·obtain rfl : k = l.length := by omega
   have HF := hY (Fin.out l.length rfl (fun h => absurd h (by omega)))
   have d1 : decide ((l.length : Int) < (l.length : Int)) = false := decide_eq_false (by omega)
   go_wp2
   go_ret
   exact ⟨by rw [HF.out, List.take_length]; rfl, Chg.refl _ _⟩
theorem cutZ_len (x : List UInt8) : (cutZ x).length ≤ x.length := by
 unfold cutZ
 split
 ·rw [List.length_take]; omega
 ·exact Nat.le_refl _
theorem text_cut (l : List UInt8) (p : Nat) (hp : p ≤ l.length) : textOk (cs l p) 255 = (decide (p + (cutZ (l.drop p)).length < l.length) && decide ((cutZ (l.drop p)).length ≤ 255)) ∧ textL (cs l p) 255 = if textOk (cs l p) 255 then cutZ (l.drop p) else [] := by
 have hlt := indexByte_lt (l.drop p) 0
 rw [List.length_drop] at hlt
 have hz : zeroAt (cs l p) = Lib.indexByte (l.drop p) 0 := rfl
 have hd : (cs l p).l.drop (cs l p).at_ = l.drop p := rfl
 have hf : (cs l p).failed = false := rfl
 by_cases h0 : 0 ≤ Lib.indexByte (l.drop p) 0
 ·have hc : cutZ (l.drop p) = (l.drop p).take (Lib.indexByte (l.drop p) 0).toNat := by unfold cutZ; rw [if_pos h0]
  have hcl : (cutZ (l.drop p)).length = (Lib.indexByte (l.drop p) 0).toNat := by rw [hc, List.length_take, List.length_drop]; omega
  constructor
  ·unfold textOk
   rw [hz, hf, hcl, decide_eq_true h0, Bool.not_false, Bool.true_and, Bool.true_and, decide_eq_true (show p + (Lib.indexByte (l.drop p) 0).toNat < l.length by omega), Bool.true_and]
   exact decide_eq_decide.2 (by omega)
  ·unfold textL
   rw [hz, hd, hc]
 ·have hc : cutZ (l.drop p) = l.drop p := by unfold cutZ; rw [if_neg h0]
  have ht : textOk (cs l p) 255 = false := by unfold textOk; rw [hz, decide_eq_false h0]; simp
  constructor
  ·rw [ht, hc, List.length_drop, decide_eq_false (by omega), Bool.false_and]
  ·unfold textL
   rw [ht]
   rfl
set_option maxHeartbeats 4000000 in
theorem RText_at (b : Nat) (a : Option Addr) (l : List UInt8) (hl : l.length ≤ 140737488355328) (cap p : Nat) (bg : Value) (w : World)
   (h : w.heap[b]? = some (.cells #[.slice a l.length cap, .int .i64 (p : Nat), bg, .bool false] 133 (0, 0))) (rd : byteL.Rd w (.slice a l.length cap) l) (hp : p ≤ l.length) :
    Calls Tryz.prog 59 #[.pointer (some ⟨b, 0, none⟩), .int .i64 255] w fun e w' => e = .returned (.string ⟨(textL (cs l p) 255).toArray⟩) ∧ w'.cell? ⟨b, 3, none⟩ = some (.bool (!textOk (cs l p) 255)) ∧ Chg [b] w w' := by
  obtain ⟨e1, e2⟩ := text_cut l p hp
  have hcl := cutZ_len (l.drop p)
  rw [List.length_drop] at hcl
  obtain ⟨_, _, he, hc1, hc2⟩ := rd.shape
  cases he
  have hc0 := cell_of_heap h 0
  have hc1' := cell_of_heap h 1
  simp at hc0 hc1'
  have HNM : Hid (∀ a', (p = l.length ∨ ∃ d off, a = some ⟨d, off, none⟩ ∧ a' = some ⟨d, off + p, none⟩) → ∀ W, Chg [] w W → Calls Tryz.prog 27 #[.slice a' (l.length - p) (cap - p)] W fun e w' => e = .returned (.string ⟨(cutZ (l.drop p)).toArray⟩) ∧ Chg [] W w') := by
    refine hY ?_
    intro a' h W hW
    have hlen : (l.drop p).length = l.length - p := List.length_drop ..
    have := RName_any (l.drop p) (.slice a' (l.length - p) (cap - p)) W
    refine this ?_
    rcases h with h | ⟨d, off, rfl, rfl⟩
    · subst h
      refine ⟨_, _, _, rfl, by simp, by omega, by unfold maxLen; omega, fun hne => ?_⟩
      simp at hne
    · have h := Rd_sub rd p (l.length - p) (cap - p) (by omega) (by omega) (by unfold maxLen; omega)
      rw [List.take_of_length_le (by omega)] at h
      exact h.frame hW
  generalize hs : cutZ (l.drop p) = s at *
  obtain ⟨ok, hok⟩ : ∃ ok, ok = textOk (cs l p) 255 := ⟨_, rfl⟩
  rw [← hok] at e1 e2 ⊢
  obtain ⟨T, hT⟩ : ∃ T, T = textL (cs l p) 255 := ⟨_, rfl⟩
  rw [← hT] at e2 ⊢
  have HA : Hid (p < l.length → ∃ d off, a = some ⟨d, off, none⟩) := by
    refine hY ?_
    intro hlt
    obtain ⟨d, off, rfl, _⟩ := rd.at (by omega)
    exact ⟨d, off, rfl⟩
  have hdec : decide ((p : Int) ≤ (l.length : Int)) = true := by rw [decide_eq_true_iff]; omega
  obtain ⟨z, hz⟩ : ∃ z, z = p + s.length := ⟨_, rfl⟩
  have hws : IntKind.i64.wrap ((p : Int) + (s.length : Int)) = (z : Int) := by rw [IntKind.wrap_i64]; omega
  rw [← hz] at e1
  have HH := hY h
  have Rd := hY rd
  have Hs := hY hs
  have Hok := hY hok
  have HT := hY hT
  have Hz := hY hz
  have E1 := hY e1
  have E2 := hY e2
  have Hcl := hY hcl
  clear h rd hs hok hT hz e1 e2 hcl
  by_cases hlt : p < l.length
  · obtain ⟨d, off, rfl⟩ := HA.out hlt
    have hne : ¬ (l.length - p = 0) := by omega
    have hne2 : ¬ (cap - p = 0) := by omega
    go_enter Tryz.func59, Tryz.ntmps59
    go_wp2_with fail
    refine wp_region_still_tail 9 (by kernel_rfl) (by kernel_rfl) ?_
    simp only [List.take_succ_cons, List.take_zero, List.drop_succ_cons, List.drop_zero]
    change wpStill _ _ w.drew _ _ _
    repeat still_step
    refine wpStill_nil ?_
    change wpList _ _ _ _ _ w.drew
    go_wp2_with fail
    refine (HNM.out _ (.inr ⟨_, _, rfl, rfl⟩) _ ((Chg.refl _ _).drew)).mono ?_
    by_cases hz1 : z < l.length
    · have hz1i : (z : Int) < (l.length : Int) := by omega
      by_cases hz2 : s.length ≤ 255
      · have hz2i : (s.length : Int) ≤ 255 := by omega
        rintro e W1 ⟨rfl, hc⟩
        have C1 : Hid (Chg [b] w W1) := hY ((((Chg.refl [] w).drew).then hc).add)
        have H1 := hY (hc.heap (show w.drew.heap[b]? = _ from HH.out) (by simp))
        clear hc hc0 hc1'
        go_upto_region 2 with fail
        refine wp_region_noPanic ?_
        refine wp_region_held_drew (S := fun w' => Chg [b] W1 w' ∧ ∃ bad, w'.heap[b]? = some (.cells #[.slice (some ⟨d, off, none⟩) l.length cap, .int .i64 (p : Nat), bg, .bool bad] 133 (0, 0))) (by kernel_rfl) ⟨(Chg.refl [b] W1).drew, false, H1.out⟩ (fun hHeld => ?_)
        refine tkr 0 ?_ hHeld ?_ ?_
        rotate_left
        · intro w hSw
          go_simp
          try with_reducible rfl
        try simp only [Act.put, aS, aZ, aC]
        refine tkr 1 ?_ hHeld ?_ ?_
        rotate_left
        · intro w hSw
          go_simp
          try with_reducible rfl
        try simp only [Act.put, aS, aZ, aC]
        refine tkr 2 ?_ hHeld ?_ ?_
        rotate_left
        · intro w hSw
          go_simp
          try with_reducible rfl
        try simp only [Act.put, aS, aZ, aC]
        refine tkr 3 ?_ hHeld ?_ ?_
        rotate_left
        · intro w hSw
          go_simp
          try with_reducible rfl
        try simp only [Act.put, aS, aZ, aC]
        refine tkr 4 ?_ hHeld ?_ ?_
        rotate_left
        · intro w hSw
          obtain ⟨_, hbz⟩ := hSw.2
          have hc1' := cell_of_heap hbz 1
          simp at hc1'
          go_simp
          try with_reducible rfl
        try simp only [Act.put, aS, aZ, aC]
        refine tkr 5 ?_ hHeld ?_ ?_
        rotate_left
        · intro w hSw
          go_simp
          try with_reducible rfl
        try simp only [Act.put, aS, aZ, aC]
        refine tkr 6 ?_ hHeld ?_ ?_
        rotate_left
        · intro w hSw
          go_simp
          try with_reducible rfl
        try simp only [Act.put, aS, aZ, aC]
        refine tkr 7 ?_ hHeld ?_ ?_
        rotate_left
        · intro w hSw
          go_simp
          try with_reducible rfl
        try simp only [Act.put, aS, aZ, aC]
        refine tkr 8 ?_ hHeld ?_ ?_
        rotate_left
        · intro w hSw
          go_simp
          try with_reducible rfl
        try simp only [Act.put, aS, aZ, aC]
        refine tkr 9 ?_ hHeld ?_ ?_
        rotate_left
        · intro w hSw
          go_simp
          try with_reducible rfl
        try simp only [Act.put, aS, aZ, aC]
        refine tkr 10 ?_ hHeld ?_ ?_
        rotate_left
        · intro w hSw
          go_simp
          try with_reducible rfl
        try simp only [Act.put, aS, aZ, aC]
        refine tkr 11 ?_ hHeld ?_ ?_
        rotate_left
        · intro w hSw
          obtain ⟨_, hbz⟩ := hSw.2
          have hc0 := cell_of_heap hbz 0
          simp at hc0
          go_simp
          try with_reducible rfl
        try simp only [Act.put, aS, aZ, aC]
        refine tkr 12 ?_ hHeld ?_ ?_
        rotate_left
        · intro w hSw
          go_simp
          try with_reducible rfl
        try simp only [Act.put, aS, aZ, aC]
        refine tkr 13 ?_ hHeld ?_ ?_
        rotate_left
        · intro w hSw
          go_simp
          try with_reducible rfl
        try simp only [Act.put, aS, aZ, aC]
        refine tkr 14 ?_ hHeld ?_ ?_
        rotate_left
        · intro w hSw
          go_simp
          try with_reducible rfl
        try simp only [Act.put, aS, aZ, aC]
        refine tkr 15 ?_ hHeld ?_ ?_
        rotate_left
        · intro w hSw
          go_simp
          try with_reducible rfl
        try simp only [Act.put, aS, aZ, aC]
        refine tkr 16 ?_ hHeld ?_ ?_
        rotate_left
        · intro w hSw
          go_simp
          try with_reducible rfl
        try simp only [Act.put, aS, aZ, aC]
        refine tkr 17 ?_ hHeld ?_ ?_
        rotate_left
        · intro w hSw
          go_simp
          try with_reducible rfl
        try simp only [Act.put, aS, aZ, aC]
        refine tkr 18 ?_ hHeld ?_ ?_
        rotate_left
        · intro w hSw
          go_simp
          try with_reducible rfl
        try simp only [Act.put, aS, aZ, aC]
        refine tkr 19 ?_ hHeld ?_ ?_
        rotate_left
        · intro w hSw
          go_simp
          try with_reducible rfl
        try simp only [Act.put, aS, aZ, aC]
        refine wpAnyH_ready (rs := [20]) (by kernel_rfl) (by simp) ?_
        refine AllReadyH.cons rfl (fun K hK => ?_) AllReadyH.nil
        go_simp
        refine (needR_any b _ _ _ false true W1.drew H1.out).mono ?_
        rintro e W2 ⟨rfl, hb2, hc2⟩
        have K20 : Hid (Chg [b] W1 W2 ∧ ∃ bad, W2.heap[b]? = some (.cells #[.slice (some ⟨d, off, none⟩) l.length cap, .int .i64 (p : Nat), bg, .bool bad] 133 (0, 0))) := hY (⟨((Chg.refl [b] W1).drew).same hc2, _, hb2⟩)
        have HB2 := hY hb2
        clear hb2
        clear hc2
        refine hK.out _ _ K20.out ?_
        clear hK hHeld K
        intro hHeld
        try (unfold Act.put; simp only [aS, aZ, aC])
        refine wpAnyH_done (by kernel_rfl) ?_ _
        refine NoPanic.normal ?_
        have C2 := hY (C1.out.same hHeld.1)
        clear hHeld
        have HOK : Hid (ok = true) := hY (by rw [E1.out, decide_eq_true hz1, decide_eq_true hz2]; rfl)
        have HTT : Hid (T = s) := hY (by rw [E2.out, HOK.out]; rfl)
        have g1 := cell_of_heap HB2.out 1
        have f1 := frozen_of_heap HB2.out 1
        simp at g1
        go_wp2
        go_ret
        rw [HOK.out, HTT.out]
        have C3 := hY (C2.out.setCell ⟨b, 1, none⟩ (.int .i64 ((z : Int) + 1)) (.inl (by simp)))
        have hfin := cell_of_heap (heap_setCell HB2.out 1 (.int .i64 ((z : Int) + 1))) 3
        refine ⟨rfl, ?_, ?_⟩
        · refine Eq.trans ?_ hfin
          first | rfl | exact congrArg (fun x => World.cell? (World.setCell _ _ x) _) rfl
        · exact C3.out
      · have d2 : decide ((s.length : Int) ≤ 255) = false := decide_eq_false (by omega)
        rintro e W1 ⟨rfl, hc⟩
        have C1 : Hid (Chg [b] w W1) := hY ((((Chg.refl [] w).drew).then hc).add)
        have H1 := hY (hc.heap (show w.drew.heap[b]? = _ from HH.out) (by simp))
        clear hc hc0 hc1'
        go_upto_region 2 with fail
        refine wp_region_noPanic ?_
        refine wp_region_held_drew (S := fun w' => Chg [b] W1 w' ∧ ∃ bad, w'.heap[b]? = some (.cells #[.slice (some ⟨d, off, none⟩) l.length cap, .int .i64 (p : Nat), bg, .bool bad] 133 (0, 0))) (by kernel_rfl) ⟨(Chg.refl [b] W1).drew, false, H1.out⟩ (fun hHeld => ?_)
        refine tkr 0 ?_ hHeld ?_ ?_
        rotate_left
        · intro w hSw
          go_simp
          try with_reducible rfl
        try simp only [Act.put, aS, aZ, aC]
        refine tkr 1 ?_ hHeld ?_ ?_
        rotate_left
        · intro w hSw
          go_simp
          try with_reducible rfl
        try simp only [Act.put, aS, aZ, aC]
        refine tkr 2 ?_ hHeld ?_ ?_
        rotate_left
        · intro w hSw
          go_simp
          try with_reducible rfl
        try simp only [Act.put, aS, aZ, aC]
        refine tkr 3 ?_ hHeld ?_ ?_
        rotate_left
        · intro w hSw
          go_simp
          try with_reducible rfl
        try simp only [Act.put, aS, aZ, aC]
        refine tkr 4 ?_ hHeld ?_ ?_
        rotate_left
        · intro w hSw
          obtain ⟨_, hbz⟩ := hSw.2
          have hc1' := cell_of_heap hbz 1
          simp at hc1'
          go_simp
          try with_reducible rfl
        try simp only [Act.put, aS, aZ, aC]
        refine tkr 5 ?_ hHeld ?_ ?_
        rotate_left
        · intro w hSw
          go_simp
          try with_reducible rfl
        try simp only [Act.put, aS, aZ, aC]
        refine tkr 6 ?_ hHeld ?_ ?_
        rotate_left
        · intro w hSw
          go_simp
          try with_reducible rfl
        try simp only [Act.put, aS, aZ, aC]
        refine tkr 7 ?_ hHeld ?_ ?_
        rotate_left
        · intro w hSw
          go_simp
          try with_reducible rfl
        try simp only [Act.put, aS, aZ, aC]
        refine tkr 8 ?_ hHeld ?_ ?_
        rotate_left
        · intro w hSw
          go_simp
          try with_reducible rfl
        try simp only [Act.put, aS, aZ, aC]
        refine tkr 9 ?_ hHeld ?_ ?_
        rotate_left
        · intro w hSw
          go_simp
          try with_reducible rfl
        try simp only [Act.put, aS, aZ, aC]
        refine tkr 10 ?_ hHeld ?_ ?_
        rotate_left
        · intro w hSw
          go_simp
          try with_reducible rfl
        try simp only [Act.put, aS, aZ, aC]
        refine tkr 11 ?_ hHeld ?_ ?_
        rotate_left
        · intro w hSw
          obtain ⟨_, hbz⟩ := hSw.2
          have hc0 := cell_of_heap hbz 0
          simp at hc0
          go_simp
          try with_reducible rfl
        try simp only [Act.put, aS, aZ, aC]
        refine tkr 12 ?_ hHeld ?_ ?_
        rotate_left
        · intro w hSw
          go_simp
          try with_reducible rfl
        try simp only [Act.put, aS, aZ, aC]
        refine tkr 13 ?_ hHeld ?_ ?_
        rotate_left
        · intro w hSw
          go_simp
          try with_reducible rfl
        try simp only [Act.put, aS, aZ, aC]
        refine tkr 14 ?_ hHeld ?_ ?_
        rotate_left
        · intro w hSw
          go_simp
          try with_reducible rfl
        try simp only [Act.put, aS, aZ, aC]
        refine tkr 15 ?_ hHeld ?_ ?_
        rotate_left
        · intro w hSw
          go_simp
          try with_reducible rfl
        try simp only [Act.put, aS, aZ, aC]
        refine tkr 16 ?_ hHeld ?_ ?_
        rotate_left
        · intro w hSw
          go_simp
          try with_reducible rfl
        try simp only [Act.put, aS, aZ, aC]
        refine tkr 17 ?_ hHeld ?_ ?_
        rotate_left
        · intro w hSw
          go_simp
          try with_reducible rfl
        try simp only [Act.put, aS, aZ, aC]
        refine tkr 18 ?_ hHeld ?_ ?_
        rotate_left
        · intro w hSw
          go_simp
          try with_reducible rfl
        try simp only [Act.put, aS, aZ, aC]
        refine tkr 19 ?_ hHeld ?_ ?_
        rotate_left
        · intro w hSw
          go_simp
          try with_reducible rfl
        try simp only [Act.put, aS, aZ, aC]
        refine wpAnyH_ready (rs := [20]) (by kernel_rfl) (by simp) ?_
        refine AllReadyH.cons rfl (fun K hK => ?_) AllReadyH.nil
        go_simp
        refine (needR_any b _ _ _ false false W1.drew H1.out).mono ?_
        rintro e W2 ⟨rfl, hb2, hc2⟩
        have K20 : Hid (Chg [b] W1 W2 ∧ ∃ bad, W2.heap[b]? = some (.cells #[.slice (some ⟨d, off, none⟩) l.length cap, .int .i64 (p : Nat), bg, .bool bad] 133 (0, 0))) := hY (⟨((Chg.refl [b] W1).drew).same hc2, _, hb2⟩)
        have HB2 := hY hb2
        clear hb2
        clear hc2
        refine hK.out _ _ K20.out ?_
        clear hK hHeld K
        intro hHeld
        try (unfold Act.put; simp only [aS, aZ, aC])
        refine wpAnyH_done (by kernel_rfl) ?_ _
        refine NoPanic.normal ?_
        have C2 := hY (C1.out.same hHeld.1)
        clear hHeld
        have HOK : Hid (ok = false) := hY (by rw [E1.out]; first | (rw [decide_eq_false hz1]; rfl) | (rw [decide_eq_false hz2]; exact Bool.and_false _))
        have HTT : Hid (T = []) := hY (by rw [E2.out, HOK.out]; rfl)
        go_wp2
        go_ret
        rw [HOK.out, HTT.out]
        refine ⟨rfl, ?_, C2.out⟩
        have hfin := cell_of_heap HB2.out 3
        exact hfin
    · have d1 : decide ((z : Int) < (l.length : Int)) = false := decide_eq_false (by omega)
      rintro e W1 ⟨rfl, hc⟩
      have C1 : Hid (Chg [b] w W1) := hY ((((Chg.refl [] w).drew).then hc).add)
      have H1 := hY (hc.heap (show w.drew.heap[b]? = _ from HH.out) (by simp))
      clear hc hc0 hc1'
      go_upto_region 2 with fail
      refine wp_region_noPanic ?_
      refine wp_region_held_drew (S := fun w' => Chg [b] W1 w' ∧ ∃ bad, w'.heap[b]? = some (.cells #[.slice (some ⟨d, off, none⟩) l.length cap, .int .i64 (p : Nat), bg, .bool bad] 133 (0, 0))) (by kernel_rfl) ⟨(Chg.refl [b] W1).drew, false, H1.out⟩ (fun hHeld => ?_)
      refine tkr 0 ?_ hHeld ?_ ?_
      rotate_left
      · intro w hSw
        go_simp
        try with_reducible rfl
      try simp only [Act.put, aS, aZ, aC]
      refine tkr 1 ?_ hHeld ?_ ?_
      rotate_left
      · intro w hSw
        go_simp
        try with_reducible rfl
      try simp only [Act.put, aS, aZ, aC]
      refine tkr 2 ?_ hHeld ?_ ?_
      rotate_left
      · intro w hSw
        go_simp
        try with_reducible rfl
      try simp only [Act.put, aS, aZ, aC]
      refine tkr 3 ?_ hHeld ?_ ?_
      rotate_left
      · intro w hSw
        go_simp
        try with_reducible rfl
      try simp only [Act.put, aS, aZ, aC]
      refine tkr 4 ?_ hHeld ?_ ?_
      rotate_left
      · intro w hSw
        obtain ⟨_, hbz⟩ := hSw.2
        have hc1' := cell_of_heap hbz 1
        simp at hc1'
        go_simp
        try with_reducible rfl
      try simp only [Act.put, aS, aZ, aC]
      refine tkr 5 ?_ hHeld ?_ ?_
      rotate_left
      · intro w hSw
        go_simp
        try with_reducible rfl
      try simp only [Act.put, aS, aZ, aC]
      refine tkr 6 ?_ hHeld ?_ ?_
      rotate_left
      · intro w hSw
        go_simp
        try with_reducible rfl
      try simp only [Act.put, aS, aZ, aC]
      refine tkr 7 ?_ hHeld ?_ ?_
      rotate_left
      · intro w hSw
        go_simp
        try with_reducible rfl
      try simp only [Act.put, aS, aZ, aC]
      refine tkr 8 ?_ hHeld ?_ ?_
      rotate_left
      · intro w hSw
        go_simp
        try with_reducible rfl
      try simp only [Act.put, aS, aZ, aC]
      refine tkr 9 ?_ hHeld ?_ ?_
      rotate_left
      · intro w hSw
        go_simp
        try with_reducible rfl
      try simp only [Act.put, aS, aZ, aC]
      refine tkr 10 ?_ hHeld ?_ ?_
      rotate_left
      · intro w hSw
        go_simp
        try with_reducible rfl
      try simp only [Act.put, aS, aZ, aC]
      refine tkr 11 ?_ hHeld ?_ ?_
      rotate_left
      · intro w hSw
        obtain ⟨_, hbz⟩ := hSw.2
        have hc0 := cell_of_heap hbz 0
        simp at hc0
        go_simp
        try with_reducible rfl
      try simp only [Act.put, aS, aZ, aC]
      refine tkr 12 ?_ hHeld ?_ ?_
      rotate_left
      · intro w hSw
        go_simp
        try with_reducible rfl
      try simp only [Act.put, aS, aZ, aC]
      refine tkr 13 ?_ hHeld ?_ ?_
      rotate_left
      · intro w hSw
        go_simp
        try with_reducible rfl
      try simp only [Act.put, aS, aZ, aC]
      refine tkr 14 ?_ hHeld ?_ ?_
      rotate_left
      · intro w hSw
        go_simp
        try with_reducible rfl
      try simp only [Act.put, aS, aZ, aC]
      refine tkr 15 ?_ hHeld ?_ ?_
      rotate_left
      · intro w hSw
        go_simp
        try with_reducible rfl
      try simp only [Act.put, aS, aZ, aC]
      refine tkr 16 ?_ hHeld ?_ ?_
      rotate_left
      · intro w hSw
        go_simp
        try with_reducible rfl
      try simp only [Act.put, aS, aZ, aC]
      refine tkr 17 ?_ hHeld ?_ ?_
      rotate_left
      · intro w hSw
        go_simp
        try with_reducible rfl
      try simp only [Act.put, aS, aZ, aC]
      refine tkr 18 ?_ hHeld ?_ ?_
      rotate_left
      · intro w hSw
        go_simp
        try with_reducible rfl
      try simp only [Act.put, aS, aZ, aC]
      refine tkr 19 ?_ hHeld ?_ ?_
      rotate_left
      · intro w hSw
        go_simp
        try with_reducible rfl
      try simp only [Act.put, aS, aZ, aC]
      refine wpAnyH_ready (rs := [20]) (by kernel_rfl) (by simp) ?_
      refine AllReadyH.cons rfl (fun K hK => ?_) AllReadyH.nil
      go_simp
      refine (needR_any b _ _ _ false false W1.drew H1.out).mono ?_
      rintro e W2 ⟨rfl, hb2, hc2⟩
      have K20 : Hid (Chg [b] W1 W2 ∧ ∃ bad, W2.heap[b]? = some (.cells #[.slice (some ⟨d, off, none⟩) l.length cap, .int .i64 (p : Nat), bg, .bool bad] 133 (0, 0))) := hY (⟨((Chg.refl [b] W1).drew).same hc2, _, hb2⟩)
      have HB2 := hY hb2
      clear hb2
      clear hc2
      refine hK.out _ _ K20.out ?_
      clear hK hHeld K
      intro hHeld
      try (unfold Act.put; simp only [aS, aZ, aC])
      refine wpAnyH_done (by kernel_rfl) ?_ _
      refine NoPanic.normal ?_
      have C2 := hY (C1.out.same hHeld.1)
      clear hHeld
      have HOK : Hid (ok = false) := hY (by rw [E1.out]; first | (rw [decide_eq_false hz1]; rfl) | (rw [decide_eq_false hz2]; exact Bool.and_false _))
      have HTT : Hid (T = []) := hY (by rw [E2.out, HOK.out]; rfl)
      go_wp2
      go_ret
      rw [HOK.out, HTT.out]
      refine ⟨rfl, ?_, C2.out⟩
      have hfin := cell_of_heap HB2.out 3
      exact hfin
  · have hpe : p = l.length := by omega
    have hsl : s.length = 0 := by have := Hcl.out; omega
    have hz1 : ¬ z < l.length := by have := Hz.out; omega
    have d1 : decide ((z : Int) < (l.length : Int)) = false := decide_eq_false (by omega)
    by_cases hcp : cap = p
    · have HNM0 := hY (HNM.out a (.inl hpe))
      rw [show cap - p = 0 by omega] at HNM0
      have Hpe := hY hpe
      have Hcp := hY hcp
      have Hsl := hY hsl
      clear hpe hcp hsl
      go_enter Tryz.func59, Tryz.ntmps59
      go_wp2_with fail
      refine wp_region_still_tail 9 (by kernel_rfl) (by kernel_rfl) ?_
      simp only [List.take_succ_cons, List.take_zero, List.drop_succ_cons, List.drop_zero]
      change wpStill _ _ w.drew _ _ _
      repeat still_step
      refine wpStill_nil ?_
      change wpList _ _ _ _ _ w.drew
      go_wp2_with fail
      refine (HNM0.out _ ((Chg.refl _ _).drew)).mono ?_
      rintro e W1 ⟨rfl, hc⟩
      have C1 : Hid (Chg [b] w W1) := hY ((((Chg.refl [] w).drew).then hc).add)
      have H1 := hY (hc.heap (show w.drew.heap[b]? = _ from HH.out) (by simp))
      clear hc hc0 hc1'
      go_upto_region 2 with fail
      refine wp_region_noPanic ?_
      refine wp_region_held_drew (S := fun w' => Chg [b] W1 w' ∧ ∃ bad, w'.heap[b]? = some (.cells #[.slice a l.length cap, .int .i64 (p : Nat), bg, .bool bad] 133 (0, 0))) (by kernel_rfl) ⟨(Chg.refl [b] W1).drew, false, H1.out⟩ (fun hHeld => ?_)
      refine tkr 0 ?_ hHeld ?_ ?_
      rotate_left
      · intro w hSw
        go_simp
        try with_reducible rfl
      try simp only [Act.put, aS, aZ, aC]
      refine tkr 1 ?_ hHeld ?_ ?_
      rotate_left
      · intro w hSw
        go_simp
        try with_reducible rfl
      try simp only [Act.put, aS, aZ, aC]
      refine tkr 2 ?_ hHeld ?_ ?_
      rotate_left
      · intro w hSw
        go_simp
        try with_reducible rfl
      try simp only [Act.put, aS, aZ, aC]
      refine tkr 3 ?_ hHeld ?_ ?_
      rotate_left
      · intro w hSw
        go_simp
        try with_reducible rfl
      try simp only [Act.put, aS, aZ, aC]
      refine tkr 4 ?_ hHeld ?_ ?_
      rotate_left
      · intro w hSw
        obtain ⟨_, hbz⟩ := hSw.2
        have hc1' := cell_of_heap hbz 1
        simp at hc1'
        go_simp
        try with_reducible rfl
      try simp only [Act.put, aS, aZ, aC]
      refine tkr 5 ?_ hHeld ?_ ?_
      rotate_left
      · intro w hSw
        go_simp
        try with_reducible rfl
      try simp only [Act.put, aS, aZ, aC]
      refine tkr 6 ?_ hHeld ?_ ?_
      rotate_left
      · intro w hSw
        go_simp
        try with_reducible rfl
      try simp only [Act.put, aS, aZ, aC]
      refine tkr 7 ?_ hHeld ?_ ?_
      rotate_left
      · intro w hSw
        go_simp
        try with_reducible rfl
      try simp only [Act.put, aS, aZ, aC]
      refine tkr 8 ?_ hHeld ?_ ?_
      rotate_left
      · intro w hSw
        go_simp
        try with_reducible rfl
      try simp only [Act.put, aS, aZ, aC]
      refine tkr 9 ?_ hHeld ?_ ?_
      rotate_left
      · intro w hSw
        go_simp
        try with_reducible rfl
      try simp only [Act.put, aS, aZ, aC]
      refine tkr 10 ?_ hHeld ?_ ?_
      rotate_left
      · intro w hSw
        go_simp
        try with_reducible rfl
      try simp only [Act.put, aS, aZ, aC]
      refine tkr 11 ?_ hHeld ?_ ?_
      rotate_left
      · intro w hSw
        obtain ⟨_, hbz⟩ := hSw.2
        have hc0 := cell_of_heap hbz 0
        simp at hc0
        go_simp
        try with_reducible rfl
      try simp only [Act.put, aS, aZ, aC]
      refine tkr 12 ?_ hHeld ?_ ?_
      rotate_left
      · intro w hSw
        go_simp
        try with_reducible rfl
      try simp only [Act.put, aS, aZ, aC]
      refine tkr 13 ?_ hHeld ?_ ?_
      rotate_left
      · intro w hSw
        go_simp
        try with_reducible rfl
      try simp only [Act.put, aS, aZ, aC]
      refine tkr 14 ?_ hHeld ?_ ?_
      rotate_left
      · intro w hSw
        go_simp
        try with_reducible rfl
      try simp only [Act.put, aS, aZ, aC]
      refine tkr 15 ?_ hHeld ?_ ?_
      rotate_left
      · intro w hSw
        go_simp
        try with_reducible rfl
      try simp only [Act.put, aS, aZ, aC]
      refine tkr 16 ?_ hHeld ?_ ?_
      rotate_left
      · intro w hSw
        go_simp
        try with_reducible rfl
      try simp only [Act.put, aS, aZ, aC]
      refine tkr 17 ?_ hHeld ?_ ?_
      rotate_left
      · intro w hSw
        go_simp
        try with_reducible rfl
      try simp only [Act.put, aS, aZ, aC]
      refine tkr 18 ?_ hHeld ?_ ?_
      rotate_left
      · intro w hSw
        go_simp
        try with_reducible rfl
      try simp only [Act.put, aS, aZ, aC]
      refine tkr 19 ?_ hHeld ?_ ?_
      rotate_left
      · intro w hSw
        go_simp
        try with_reducible rfl
      try simp only [Act.put, aS, aZ, aC]
      refine wpAnyH_ready (rs := [20]) (by kernel_rfl) (by simp) ?_
      refine AllReadyH.cons rfl (fun K hK => ?_) AllReadyH.nil
      go_simp
      refine (needR_any b _ _ _ false false W1.drew H1.out).mono ?_
      rintro e W2 ⟨rfl, hb2, hc2⟩
      have K20 : Hid (Chg [b] W1 W2 ∧ ∃ bad, W2.heap[b]? = some (.cells #[.slice a l.length cap, .int .i64 (p : Nat), bg, .bool bad] 133 (0, 0))) := hY (⟨((Chg.refl [b] W1).drew).same hc2, _, hb2⟩)
      have HB2 := hY hb2
      clear hb2
      clear hc2
      refine hK.out _ _ K20.out ?_
      clear hK hHeld K
      intro hHeld
      try (unfold Act.put; simp only [aS, aZ, aC])
      refine wpAnyH_done (by kernel_rfl) ?_ _
      refine NoPanic.normal ?_
      have C2 := hY (C1.out.same hHeld.1)
      clear hHeld
      have HOK : Hid (ok = false) := hY (by rw [E1.out]; first | (rw [decide_eq_false hz1]; rfl) | (rw [decide_eq_false hz2]; exact Bool.and_false _))
      have HTT : Hid (T = []) := hY (by rw [E2.out, HOK.out]; rfl)
      go_wp2
      go_ret
      rw [HOK.out, HTT.out]
      refine ⟨rfl, ?_, C2.out⟩
      have hfin := cell_of_heap HB2.out 3
      exact hfin
    · have HNM0 := hY (HNM.out (Option.map (fun x => x.add p) a) (.inl hpe))
      have Hpe := hY hpe
      have Hcp := hY hcp
      have Hsl := hY hsl
      clear hpe hcp hsl
      go_enter Tryz.func59, Tryz.ntmps59
      go_wp2_with fail
      refine wp_region_still_tail 9 (by kernel_rfl) (by kernel_rfl) ?_
      simp only [List.take_succ_cons, List.take_zero, List.drop_succ_cons, List.drop_zero]
      change wpStill _ _ w.drew _ _ _
      repeat still_step
      refine wpStill_nil ?_
      change wpList _ _ _ _ _ w.drew
      go_wp2_with fail
      refine (HNM0.out _ ((Chg.refl _ _).drew)).mono ?_
      rintro e W1 ⟨rfl, hc⟩
      have C1 : Hid (Chg [b] w W1) := hY ((((Chg.refl [] w).drew).then hc).add)
      have H1 := hY (hc.heap (show w.drew.heap[b]? = _ from HH.out) (by simp))
      clear hc hc0 hc1'
      go_upto_region 2 with fail
      refine wp_region_noPanic ?_
      refine wp_region_held_drew (S := fun w' => Chg [b] W1 w' ∧ ∃ bad, w'.heap[b]? = some (.cells #[.slice a l.length cap, .int .i64 (p : Nat), bg, .bool bad] 133 (0, 0))) (by kernel_rfl) ⟨(Chg.refl [b] W1).drew, false, H1.out⟩ (fun hHeld => ?_)
      refine tkr 0 ?_ hHeld ?_ ?_
      rotate_left
      · intro w hSw
        go_simp
        try with_reducible rfl
      try simp only [Act.put, aS, aZ, aC]
      refine tkr 1 ?_ hHeld ?_ ?_
      rotate_left
      · intro w hSw
        go_simp
        try with_reducible rfl
      try simp only [Act.put, aS, aZ, aC]
      refine tkr 2 ?_ hHeld ?_ ?_
      rotate_left
      · intro w hSw
        go_simp
        try with_reducible rfl
      try simp only [Act.put, aS, aZ, aC]
      refine tkr 3 ?_ hHeld ?_ ?_
      rotate_left
      · intro w hSw
        go_simp
        try with_reducible rfl
      try simp only [Act.put, aS, aZ, aC]
      refine tkr 4 ?_ hHeld ?_ ?_
      rotate_left
      · intro w hSw
        obtain ⟨_, hbz⟩ := hSw.2
        have hc1' := cell_of_heap hbz 1
        simp at hc1'
        go_simp
        try with_reducible rfl
      try simp only [Act.put, aS, aZ, aC]
      refine tkr 5 ?_ hHeld ?_ ?_
      rotate_left
      · intro w hSw
        go_simp
        try with_reducible rfl
      try simp only [Act.put, aS, aZ, aC]
      refine tkr 6 ?_ hHeld ?_ ?_
      rotate_left
      · intro w hSw
        go_simp
        try with_reducible rfl
      try simp only [Act.put, aS, aZ, aC]
      refine tkr 7 ?_ hHeld ?_ ?_
      rotate_left
      · intro w hSw
        go_simp
        try with_reducible rfl
      try simp only [Act.put, aS, aZ, aC]
      refine tkr 8 ?_ hHeld ?_ ?_
      rotate_left
      · intro w hSw
        go_simp
        try with_reducible rfl
      try simp only [Act.put, aS, aZ, aC]
      refine tkr 9 ?_ hHeld ?_ ?_
      rotate_left
      · intro w hSw
        go_simp
        try with_reducible rfl
      try simp only [Act.put, aS, aZ, aC]
      refine tkr 10 ?_ hHeld ?_ ?_
      rotate_left
      · intro w hSw
        go_simp
        try with_reducible rfl
      try simp only [Act.put, aS, aZ, aC]
      refine tkr 11 ?_ hHeld ?_ ?_
      rotate_left
      · intro w hSw
        obtain ⟨_, hbz⟩ := hSw.2
        have hc0 := cell_of_heap hbz 0
        simp at hc0
        go_simp
        try with_reducible rfl
      try simp only [Act.put, aS, aZ, aC]
      refine tkr 12 ?_ hHeld ?_ ?_
      rotate_left
      · intro w hSw
        go_simp
        try with_reducible rfl
      try simp only [Act.put, aS, aZ, aC]
      refine tkr 13 ?_ hHeld ?_ ?_
      rotate_left
      · intro w hSw
        go_simp
        try with_reducible rfl
      try simp only [Act.put, aS, aZ, aC]
      refine tkr 14 ?_ hHeld ?_ ?_
      rotate_left
      · intro w hSw
        go_simp
        try with_reducible rfl
      try simp only [Act.put, aS, aZ, aC]
      refine tkr 15 ?_ hHeld ?_ ?_
      rotate_left
      · intro w hSw
        go_simp
        try with_reducible rfl
      try simp only [Act.put, aS, aZ, aC]
      refine tkr 16 ?_ hHeld ?_ ?_
      rotate_left
      · intro w hSw
        go_simp
        try with_reducible rfl
      try simp only [Act.put, aS, aZ, aC]
      refine tkr 17 ?_ hHeld ?_ ?_
      rotate_left
      · intro w hSw
        go_simp
        try with_reducible rfl
      try simp only [Act.put, aS, aZ, aC]
      refine tkr 18 ?_ hHeld ?_ ?_
      rotate_left
      · intro w hSw
        go_simp
        try with_reducible rfl
      try simp only [Act.put, aS, aZ, aC]
      refine tkr 19 ?_ hHeld ?_ ?_
      rotate_left
      · intro w hSw
        go_simp
        try with_reducible rfl
      try simp only [Act.put, aS, aZ, aC]
      refine wpAnyH_ready (rs := [20]) (by kernel_rfl) (by simp) ?_
      refine AllReadyH.cons rfl (fun K hK => ?_) AllReadyH.nil
      go_simp
      refine (needR_any b _ _ _ false false W1.drew H1.out).mono ?_
      rintro e W2 ⟨rfl, hb2, hc2⟩
      have K20 : Hid (Chg [b] W1 W2 ∧ ∃ bad, W2.heap[b]? = some (.cells #[.slice a l.length cap, .int .i64 (p : Nat), bg, .bool bad] 133 (0, 0))) := hY (⟨((Chg.refl [b] W1).drew).same hc2, _, hb2⟩)
      have HB2 := hY hb2
      clear hb2
      clear hc2
      refine hK.out _ _ K20.out ?_
      clear hK hHeld K
      intro hHeld
      try (unfold Act.put; simp only [aS, aZ, aC])
      refine wpAnyH_done (by kernel_rfl) ?_ _
      refine NoPanic.normal ?_
      have C2 := hY (C1.out.same hHeld.1)
      clear hHeld
      have HOK : Hid (ok = false) := hY (by rw [E1.out]; first | (rw [decide_eq_false hz1]; rfl) | (rw [decide_eq_false hz2]; exact Bool.and_false _))
      have HTT : Hid (T = []) := hY (by rw [E2.out, HOK.out]; rfl)
      go_wp2
      go_ret
      rw [HOK.out, HTT.out]
      refine ⟨rfl, ?_, C2.out⟩
      have hfin := cell_of_heap HB2.out 3
      exact hfin
end Go.Proofs.YtiljokmkiolpgaaGreatDoor
