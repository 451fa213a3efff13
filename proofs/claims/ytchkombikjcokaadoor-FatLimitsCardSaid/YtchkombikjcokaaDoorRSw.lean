/- The document's Slices, walked: wide entries (printed by mkrsw.py). -/
import Derived.Test.YtchkombikjcokaaDoorRSl
namespace Go.Proofs.YtchkombikjcokaaDoor
open Go.RowKit
set_option maxRecDepth 100000

set_option maxHeartbeats 8000000 in
theorem RS32 (l : List UInt8) (a : Option Addr) (cap : Nat) (w : World) (rd : Rd w (.slice a l.length cap) (bytesV l)) (h8 : 8 ≤ l.length) (hl : l.length ≤ 1048576) (hmg : l.take 4 = [202, 254, 186, 191])
    (hm : num l 4 4 ≤ 32) (hfit : 8 + num l 4 4 * 32 ≤ l.length) :
    Calls Tryd.prog 18 #[.slice a l.length cap] w fun e w' => ∃ v, e = .returned (.tuple #[v, .int .i64 (entE l 32 8 apE)]) ∧ (entE l 32 8 apE = 0 → SlRd w' v (entries l 32 8 (num l 4 4))) ∧ (entE l 32 8 apE ≠ 0 → v = .slice none 0 0) ∧ Chg [] w w' := by
  have hs : (convert 24 9 (.slice a 4 cap)).run Tryd.prog w = .ok (.string ⟨#[202, 254, 186, 191]⟩) w := by
    have := run_str (Rd_take rd 4 (by omega))
    rw [hmg] at this
    exact this
  have HE : Hid (entE l 32 8 apE = if maysB l 32 8 (num l 4 4) (num l 4 4) then apE (entries l 32 8 (num l 4 4)) else 4) := by
    refine Lib.hid ?_
    unfold entE
    rw [if_neg (by omega), if_neg (by omega), if_neg (by omega)]
  have hcap : l.length ≤ cap := by obtain ⟨a', n', cap', he, hn, h1, h2, h3⟩ := rd; cases he; rw [bytesV_length] at hn; exact h1
  have hcap2 : cap ≤ 9223372036854775807 := by obtain ⟨a', n', cap', he, hn, h1, h2, h3⟩ := rd; cases he; exact h2
  have hl2 : l.length ≤ 70368744177664 := by omega
  have dq4 : decide ((l.length : Int) < 4) = false := by simp; omega
  have dq8 : decide ((l.length : Int) < 8) = false := by simp; omega
  have db : decide ((1048576 : Int) < (l.length : Int)) = false := by simp; omega
  have dh : decide ((l.length : Int) < 12) = decide (l.length < 12) := by rw [decide_eq_decide]; omega
  obtain ⟨many, hmany⟩ : ∃ m, m = num l 4 4 := ⟨_, rfl⟩
  have HN0 := Lib.hid (fun w rd => number_any l a cap 4 4 true w rd (by omega) (.inl rfl) (by omega))
  change Hid (∀ w, Rd w (.slice a l.length cap) (bytesV l) → Calls Tryd.prog 44 #[.slice a l.length cap, .int .i64 4, .int .i64 4, .bool true] w fun e w' => e = .returned (.int .u64 (num l 4 4)) ∧ Chg [] w w') at HN0
  rw [← hmany] at hm hfit HE HN0 ⊢
  obtain ⟨Hn, hHn⟩ : ∃ h, h = 8 + many * 32 := ⟨_, rfl⟩
  have hHi : (8 : Int) + (many : Int) * 32 = (Hn : Int) := by omega
  have hHb : Hn ≤ 1032 := by omega
  have dl : decide ((l.length : Int) < (Hn : Int)) = false := by simp; omega
  have dlN : decide (l.length < Hn) = false := by simp; omega
  have dlP : ¬ l.length < Hn := by omega
  have dm : decide ((32 : Int) < (many : Int)) = false := by simp; omega
  have HL : Hid (l.length ≤ 1048576) := Lib.hid (hl)
  have HHN := Lib.hid hHn
  have HR := Lib.hid rd
  clear hHn rd
  clear hmany hmg hl dh
  go_enter Tryd.func18, Tryd.ntmps18
  go_wp2_with fail
  refine (HN0.out w HR.out).mono ?_
  rintro e w1 ⟨rfl, hch⟩
  have HC1 := Lib.hid (hch)
  clear hch hs
  go_wp2_with fail
  go_loopw [8, 9, 10] (fun s8 s9 s10 wr => ∃ k : Nat, k ≤ many ∧ s10 = .int .i64 (k : Int) ∧ SlBuf wr w1.heap.size s8 (entries l 32 8 k) ∧ s9 = .int .i64 (refE l 32 8 many k) ∧ Chg [] w1 wr) (fun _ _ s10 _ => many - (intOf s10).toNat)
  case atStart => exact ⟨0, Nat.zero_le _, rfl, SlBuf.nil _ _, rfl, Chg.refl _ _⟩
  case round =>
    obtain ⟨k, hk, rfl, hbuf, rfl, hch⟩ := hrel
    have Hbuf := Lib.hid hbuf
    have Hch := Lib.hid hch
    clear hbuf hch
    by_cases hlt : k < many
    · obtain ⟨p, hp⟩ : ∃ p, p = 8 + k * 32 := ⟨_, rfl⟩
      have hpi : (8 : Int) + (k : Int) * 32 = (p : Int) := by rw [hp]; omega
      have hpl : p + 32 ≤ l.length := by rw [hp]; omega
      obtain ⟨s, hs⟩ : ∃ s, s = entry l 8 p := ⟨_, rfl⟩
      have hok : s.ok := by rw [hs]; exact entry_ok _ _ _ (by decide)
      have HENT : Hid (entries l 32 8 (k + 1) = entries l 32 8 k ++ [s]) := Lib.hid (by rw [entries_succ, hs, hp])
      have HMS : Hid (maysB l 32 8 many (k + 1) = (maysB l 32 8 many k && mayS s s.align.toNat Hn l.length)) := Lib.hid (by rw [maysB_succ, hs, hp, HHN.out])
      have N5 := Lib.hid (fun w rd => number_any l a cap (p + 24) 4 true w rd (by omega) (.inl rfl) (by omega))
      have N1 := Lib.hid (fun w rd => number_any l a cap p 4 true w rd (by omega) (.inl rfl) (by omega))
      have N2 := Lib.hid (fun w rd => number_any l a cap (p + 4) 4 true w rd (by omega) (.inl rfl) (by omega))
      have N3 := Lib.hid (fun w rd => number_any l a cap (p + 8) 8 true w rd (by omega) (.inr rfl) (by omega))
      have N4 := Lib.hid (fun w rd => number_any l a cap (p + 16) 8 true w rd (by omega) (.inr rfl) (by omega))
      obtain ⟨n1, hn1⟩ : ∃ n, n = numOf true ((l.drop p).take 4) := ⟨_, rfl⟩
      obtain ⟨n2, hn2⟩ : ∃ n, n = numOf true ((l.drop (p + 4)).take 4) := ⟨_, rfl⟩
      obtain ⟨n3, hn3⟩ : ∃ n, n = numOf true ((l.drop (p + 8)).take 8) := ⟨_, rfl⟩
      obtain ⟨n4, hn4⟩ : ∃ n, n = numOf true ((l.drop (p + 16)).take 8) := ⟨_, rfl⟩
      obtain ⟨n5, hn5⟩ : ∃ n, n = numOf true ((l.drop (p + 24)).take 4) := ⟨_, rfl⟩
      have b1 : n1 < 4294967296 := by rw [hn1]; exact num4 l p
      have b2 : n2 < 4294967296 := by rw [hn2]; exact num4 l (p + 4)
      have b5 : n5 < 4294967296 := by rw [hn5]; exact num4 l (p + 24)
      have HSEX : Hid (s = ⟨n1, n2, n3, n4, (n5 : Int)⟩) := Lib.hid (by rw [hs, hn1, hn2, hn3, hn4, hn5]; rfl)
      rw [← hn1] at N1
      rw [← hn2] at N2
      rw [← hn3] at N3
      rw [← hn4] at N4
      rw [← hn5] at N5
      have HOK := Lib.hid (hok)
      clear hp hs hn1 hn2 hn3 hn4 hn5 hok
      have hrd : ∀ W, Chg [] wr W → Rd W (.slice a l.length cap) (bytesV l) := fun W hW => HR.out.frame (HC1.out.then (Hch.out.then hW)) (fun _ _ hm => by cases hm)
      have HRD := Lib.hid (hrd)
      clear hrd
      go_wp2_with fail
      rw [show (p : Int) + 8 + 16 = ((p + 24 : Nat) : Int) by omega]
      refine (N5.out wr (HRD.out wr (Chg.refl _ _))).mono ?_
      rintro e r1 ⟨rfl, hch1⟩
      have C1 := Lib.hid (hch1)
      clear hch1
      go_wp2_with fail
      refine (N1.out r1 (HRD.out r1 C1.out)).mono ?_
      rintro e r2 ⟨rfl, hch1⟩
      have C2 := Lib.hid (C1.out.then hch1)
      clear hch1
      go_wp2_with fail
      rw [show (p : Int) + 4 = ((p + 4 : Nat) : Int) by omega]
      refine (N2.out r2 (HRD.out r2 C2.out)).mono ?_
      rintro e r3 ⟨rfl, hch1⟩
      have C3 := Lib.hid (C2.out.then hch1)
      clear hch1
      go_wp2_with fail
      obtain ⟨r4, hr4⟩ : ∃ q, q = r3.alloc (.cells #[.int .u32 n1, .int .u32 n2, .int .u64 0, .int .u64 0, .int .i64 n5] 52) := ⟨_, rfl⟩
      obtain ⟨q, hq⟩ : ∃ q, q = r3.heap.size := ⟨_, rfl⟩
      have Q4 : Hid (r4.heap[q]? = some (.cells #[.int .u32 n1, .int .u32 n2, .int .u64 0, .int .u64 0, .int .i64 n5] 52 (0, 0))) := Lib.hid (by rw [hr4, hq]; exact heap_alloc_eq _ _)
      have C4 : Hid (Chg [] wr r4) := Lib.hid (by rw [hr4]; exact C3.out.alloc _)
      have QN : Hid (wr.heap.size ≤ q) := Lib.hid (by rw [hq]; exact C3.out.size)
      rw [← hr4, ← hq]
      clear hr4 hq
      rw [show (p : Int) + 8 = ((p + 8 : Nat) : Int) by omega]
      refine (N3.out r4 (HRD.out r4 C4.out)).mono ?_
      rintro e r5 ⟨rfl, hch1⟩
      have C5 := Lib.hid (C4.out.then hch1)
      have Q5 := Lib.hid (hch1.heap Q4.out (by simp))
      clear hch1
      go_wp2_with fail
      rw [show (p : Int) + 8 + 8 = ((p + 16 : Nat) : Int) by omega]
      refine (N4.out r5 (HRD.out r5 C5.out)).mono ?_
      rintro e r6 ⟨rfl, hch1⟩
      have C6 := Lib.hid (C5.out.then hch1)
      have hq6 := hch1.heap Q5.out (by simp)
      clear hch1
      have Q6 := Lib.hid (hq6)
      have f2 := frozen_of_heap hq6 2
      have f3 := frozen_of_heap hq6 3
      have d0 := cell_of_heap hq6 0
      have d1 := cell_of_heap hq6 1
      have d2 := cell_of_heap hq6 2
      have d3 := cell_of_heap hq6 3
      have d4 := cell_of_heap hq6 4
      simp at d0 d1 d2 d3 d4
      clear hq6
      go_wp2_with fail
      clear f2 f3 d0 d1 d2 d3 d4
      obtain ⟨r7, hr7⟩ : ∃ x, x = (r6.setCell ⟨q, 2, none⟩ (.int .u64 n3)).setCell ⟨q, 3, none⟩ (.int .u64 n4) := ⟨_, rfl⟩
      have ha : Chg [q] r6 r7 := by rw [hr7]; exact ((Chg.refl [q] r6).setCell _ _ (.inl (by simp))).setCell _ _ (.inl (by simp))
      have Q7 : Hid (r7.heap[q]? = some (.cells #[.int .u32 n1, .int .u32 n2, .int .u64 n3, .int .u64 n4, .int .i64 n5] 52 (0, 0))) := Lib.hid (by rw [hr7]; exact heap_setCell (heap_setCell Q6.out 2 _) 3 _)
      have C7 : Hid (Chg [] wr r7) := Lib.hid (C6.out.new ha QN.out)
      rw [← hr7]
      clear hr7 ha
      have HN3 : Hid (n3 < T64) := Lib.hid (by have := HOK.out.2.2.1; rw [HSEX.out] at this; exact this)
      have HSA : Hid (s.align.toNat = n5) := Lib.hid (by rw [HSEX.out]; rfl)
      have HMAY := Lib.hid (fun w => Rmay_any s HOK.out n5 Hn (by omega) l.length HL.out w)
      rw [HSEX.out] at HMAY
      simp only [SL.val] at HMAY
      rw [← HSEX.out] at HMAY
      refine (HMAY.out r7).mono ?_
      rintro e r8 ⟨rfl, hch1⟩
      have C8 := Lib.hid (C7.out.then hch1)
      have Q8 := Lib.hid (hch1.heap Q7.out (by simp))
      clear hch1 HMAY
      obtain ⟨a8, n8, c8, rfl, hn8, hn8c, hn8m, h38⟩ := Hbuf.out.rd
      rw [entries_len] at hn8
      subst hn8
      have HB8 := Lib.hid (h38)
      clear h38
      unfold maxLen at hn8m
      obtain ⟨M0, hM0⟩ : ∃ m, m = (!maysB l 32 8 many (n8 + 1) || anyK meetS (entries l 32 8 n8) n8) := ⟨_, rfl⟩
      obtain ⟨L0, hL0⟩ : ∃ m, m = anyK likeB (entries l 32 8 n8) n8 := ⟨_, rfl⟩
      obtain ⟨k, rfl⟩ : ∃ k, k = n8 := ⟨_, rfl⟩
      cases hmb : mayS s n5 Hn l.length with
      | true =>
        have HX0 : Hid (refE l 32 8 many k = eOf M0 L0) := by
          refine Lib.hid ?_
          unfold refE
          rw [hM0, hL0, HMS.out, HSA.out, hmb, Bool.and_true]
        clear hmb
        have HM0 := Lib.hid hM0
        have HL0 := Lib.hid hL0
        clear hM0 hL0
        go_wp2_with fail
        obtain ⟨wo, rfl⟩ : ∃ wo, wo = wr := ⟨_, rfl⟩
        go_loopw [9, 14] (fun s9 s14 wl => ∃ j : Nat, j ≤ k ∧ s14 = .int .i64 (j : Int) ∧ s9 = .int .i64 (eOf (M0 || ((entries l 32 8 k).take j).any (meetS s)) (L0 || ((entries l 32 8 k).take j).any (likeB s))) ∧ Chg [] r8 wl) (fun _ s14 _ => k - (intOf s14).toNat)
        case atStart => exact ⟨0, Nat.zero_le _, rfl, by rw [HX0.out, List.take_zero, List.any_nil, List.any_nil, Bool.or_false, Bool.or_false], Chg.refl _ _⟩
        case round =>
          obtain ⟨j, hj, rfl, rfl, hch2⟩ := hrel
          obtain ⟨wq, rfl⟩ : ∃ wq, wq = wr := ⟨_, rfl⟩
          have HC2 := Lib.hid (hch2)
          clear hch2
          by_cases hjk : j < k
          · obtain ⟨g0, off0, rfl, _, hcl⟩ := HB8.out (by intro e; have := congrArg List.length e; rw [entries_len] at this; simp at this; omega)
            obtain ⟨h1, h2, h3, h4, h5⟩ := hcl j (by rw [entries_len]; exact hjk)
            obtain ⟨t, ht⟩ : ∃ s, s = (entries l 32 8 k).getD j .zero := ⟨_, rfl⟩
            have HTO : Hid (t.ok) := Lib.hid (entries_ok l 32 8 k (by decide) t (by rw [ht]; simp [List.getD_eq_getElem?_getD, entries_len, hjk]))
            rw [← ht] at h1 h2 h3 h4 h5
            have hMn : (M0 || ((entries l 32 8 k).take (j + 1)).any (meetS s)) = ((M0 || ((entries l 32 8 k).take j).any (meetS s)) || meetS s t) := by rw [take_any _ _ _ (by rw [entries_len]; exact hjk), ht, Bool.or_assoc]
            have hLn : (L0 || ((entries l 32 8 k).take (j + 1)).any (likeB s)) = ((L0 || ((entries l 32 8 k).take j).any (likeB s)) || likeB s t) := by rw [take_any _ _ _ (by rw [entries_len]; exact hjk), ht, Bool.or_assoc]
            have kk := (C8.out).then HC2.out
            have k1 := kk.cell h1 (by simp)
            have k2 := kk.cell h2 (by simp)
            have k3 := kk.cell h3 (by simp)
            have k4 := kk.cell h4 (by simp)
            have k5 := kk.cell h5 (by simp)
            clear h1 h2 h3 h4 h5 ht kk hcl
            obtain ⟨c', u', o', z', g'⟩ := t
            obtain ⟨_, hto2, hto3, hto4, _⟩ := HTO.out
            simp only at k1 k2 k3 k4 k5 hto2 hto3 hto4
            have hqq := HC2.out.heap Q8.out (by simp)
            have d0 := cell_of_heap hqq 0
            have d1 := cell_of_heap hqq 1
            have d2 := cell_of_heap hqq 2
            have d3 := cell_of_heap hqq 3
            have d4 := cell_of_heap hqq 4
            simp at d0 d1 d2 d3 d4
            clear hqq
            have hmc : meetS s ⟨c', u', o', z', g'⟩ = meetN o' z' n3 n4 := by rw [HSEX.out]; exact meetN_comm _ _ _ _
            have hlc : likeB s ⟨c', u', o', z', g'⟩ = likeB ⟨c', u', o', z', g'⟩ ⟨n1, n2, n3, n4, (n5 : Int)⟩ := by rw [HSEX.out]; exact likeB_comm _ _
            have HME := Lib.hid (fun w => RMeet_any o' z' n3 n4 hto3 HN3.out w)
            have HAL := Lib.hid (fun w => Alike_any ⟨c', u', o', z', g'⟩ ⟨n1, n2, n3, n4, (n5 : Int)⟩ w hto2 b2)
            simp only [SL.val] at HAL
            rw [hmc] at hMn
            rw [hlc] at hLn
            generalize meetN o' z' n3 n4 = mm at HME hMn
            generalize likeB ⟨c', u', o', z', g'⟩ ⟨n1, n2, n3, n4, (n5 : Int)⟩ = bl at HAL hLn
            generalize (M0 || ((entries l 32 8 k).take j).any (meetS s)) = Mo at hMn ⊢
            generalize (L0 || ((entries l 32 8 k).take j).any (likeB s)) = Lo at hLn ⊢
            have HMn := Lib.hid hMn
            have HLn := Lib.hid hLn
            clear hMn hLn
            clear hmc hlc hto2 hto3 hto4
            go_wp2_with fail
            refine wp_region_noPanic ?_
            refine wp_region_held_drew (S := fun w' => Chg [] wq w') (by kernel_rfl) ((Chg.refl _ _).drew) (fun hHeld => ?_)
            refine take_read (i := 0) (v := ?_) (by simp only [List.getElem?_toArray, List.getElem?_cons_zero]; rfl) (by kernel_rfl) (by kernel_rfl) (by kernel_rfl) (fun _ _ _ h => h) hHeld ?_ ?_
            rotate_left
            · intro w hSw
              go_simp
              try with_reducible rfl
            try simp only [Act.put, List.setIfInBounds_toArray, List.set_cons_zero, List.set_cons_succ]
            refine take_read (i := 1) (v := ?_) (by simp only [List.getElem?_toArray, List.getElem?_cons_succ, List.getElem?_cons_zero]; rfl) (by kernel_rfl) (by kernel_rfl) (by kernel_rfl) (fun _ _ _ h => h) hHeld ?_ ?_
            rotate_left
            · intro w hSw
              go_simp
              try with_reducible rfl
            try simp only [Act.put, List.setIfInBounds_toArray, List.set_cons_zero, List.set_cons_succ]
            refine take_read (i := 2) (v := ?_) (by simp only [List.getElem?_toArray, List.getElem?_cons_succ, List.getElem?_cons_zero]; rfl) (by kernel_rfl) (by kernel_rfl) (by kernel_rfl) (fun _ _ _ h => h) hHeld ?_ ?_
            rotate_left
            · intro w hSw
              go_simp
              try with_reducible rfl
            try simp only [Act.put, List.setIfInBounds_toArray, List.set_cons_zero, List.set_cons_succ]
            refine take_read (i := 3) (v := ?_) (by simp only [List.getElem?_toArray, List.getElem?_cons_succ, List.getElem?_cons_zero]; rfl) (by kernel_rfl) (by kernel_rfl) (by kernel_rfl) (fun _ _ _ h => h) hHeld ?_ ?_
            rotate_left
            · intro w hSw
              go_simp
              try with_reducible rfl
            try simp only [Act.put, List.setIfInBounds_toArray, List.set_cons_zero, List.set_cons_succ]
            refine take_read (i := 4) (v := ?_) (by simp only [List.getElem?_toArray, List.getElem?_cons_succ, List.getElem?_cons_zero]; rfl) (by kernel_rfl) (by kernel_rfl) (by kernel_rfl) (fun _ _ _ h => h) hHeld ?_ ?_
            rotate_left
            · intro w hSw
              have k3 := (hSw.cell k3 (by simp))
              have k4 := (hSw.cell k4 (by simp))
              go_simp
              try with_reducible rfl
            try simp only [Act.put, List.setIfInBounds_toArray, List.set_cons_zero, List.set_cons_succ]
            refine take_read (i := 5) (v := ?_) (by simp only [List.getElem?_toArray, List.getElem?_cons_succ, List.getElem?_cons_zero]; rfl) (by kernel_rfl) (by kernel_rfl) (by kernel_rfl) (fun _ _ _ h => h) hHeld ?_ ?_
            rotate_left
            · intro w hSw
              go_simp
              try with_reducible rfl
            try simp only [Act.put, List.setIfInBounds_toArray, List.set_cons_zero, List.set_cons_succ]
            refine take_read (i := 6) (v := ?_) (by simp only [List.getElem?_toArray, List.getElem?_cons_succ, List.getElem?_cons_zero]; rfl) (by kernel_rfl) (by kernel_rfl) (by kernel_rfl) (fun _ _ _ h => h) hHeld ?_ ?_
            rotate_left
            · intro w hSw
              have d2 := (hSw.cell d2 (by simp))
              have d3 := (hSw.cell d3 (by simp))
              go_simp
              try with_reducible rfl
            try simp only [Act.put, List.setIfInBounds_toArray, List.set_cons_zero, List.set_cons_succ]
            refine wpAnyH_ready (rs := [7]) (by kernel_rfl) (by simp) ?_
            refine AllReadyH.cons rfl (fun K hK => ?_) AllReadyH.nil
            go_simp
            refine (HME.out _).mono ?_
            rintro e w2 ⟨rfl, hch2⟩
            refine hK.out _ _ (show Chg [] wq w2 from ((Chg.refl _ _).drew).then hch2) (fun _ => ?_)
            clear hK hHeld K
            have hHeld := (show Chg [] wq w2 from ((Chg.refl _ _).drew).then hch2)
            try (unfold Act.put; simp only [List.setIfInBounds_toArray, List.set_cons_zero, List.set_cons_succ])
            refine wpAnyH_done (by kernel_rfl) ?_ _
            refine NoPanic.normal ?_
            have HW2 := Lib.hid (hHeld)
            replace k1 := hHeld.cell k1 (by simp)
            replace k2 := hHeld.cell k2 (by simp)
            replace k3 := hHeld.cell k3 (by simp)
            replace k4 := hHeld.cell k4 (by simp)
            replace k5 := hHeld.cell k5 (by simp)
            replace d0 := hHeld.cell d0 (by simp)
            replace d1 := hHeld.cell d1 (by simp)
            replace d2 := hHeld.cell d2 (by simp)
            replace d3 := hHeld.cell d3 (by simp)
            replace d4 := hHeld.cell d4 (by simp)
            clear hHeld hch2
            cases mm
            · cases Mo
              · cases Lo
                · rw [show eOf false false = 0 from rfl]
                  cases bl
                  · skip
                    go_wp2_with fail
                    refine wp_region_noPanic ?_
                    refine wp_region_held_drew (S := fun w' => Chg [] w2 w') (by kernel_rfl) ((Chg.refl _ _).drew) (fun hHeld => ?_)
                    refine take_read (i := 0) (v := ?_) (by simp only [List.getElem?_toArray, List.getElem?_cons_zero]; rfl) (by kernel_rfl) (by kernel_rfl) (by kernel_rfl) (fun _ _ _ h => h) hHeld ?_ ?_
                    rotate_left
                    · intro w hSw
                      go_simp
                      try with_reducible rfl
                    try simp only [Act.put, List.setIfInBounds_toArray, List.set_cons_zero, List.set_cons_succ]
                    refine take_read (i := 1) (v := ?_) (by simp only [List.getElem?_toArray, List.getElem?_cons_succ, List.getElem?_cons_zero]; rfl) (by kernel_rfl) (by kernel_rfl) (by kernel_rfl) (fun _ _ _ h => h) hHeld ?_ ?_
                    rotate_left
                    · intro w hSw
                      go_simp
                      try with_reducible rfl
                    try simp only [Act.put, List.setIfInBounds_toArray, List.set_cons_zero, List.set_cons_succ]
                    refine take_read (i := 2) (v := ?_) (by simp only [List.getElem?_toArray, List.getElem?_cons_succ, List.getElem?_cons_zero]; rfl) (by kernel_rfl) (by kernel_rfl) (by kernel_rfl) (fun _ _ _ h => h) hHeld ?_ ?_
                    rotate_left
                    · intro w hSw
                      go_simp
                      try with_reducible rfl
                    try simp only [Act.put, List.setIfInBounds_toArray, List.set_cons_zero, List.set_cons_succ]
                    refine take_read (i := 3) (v := ?_) (by simp only [List.getElem?_toArray, List.getElem?_cons_succ, List.getElem?_cons_zero]; rfl) (by kernel_rfl) (by kernel_rfl) (by kernel_rfl) (fun _ _ _ h => h) hHeld ?_ ?_
                    rotate_left
                    · intro w hSw
                      have k1 := (hSw.cell k1 (by simp))
                      have k2 := (hSw.cell k2 (by simp))
                      have k3 := (hSw.cell k3 (by simp))
                      have k4 := (hSw.cell k4 (by simp))
                      have k5 := (hSw.cell k5 (by simp))
                      go_simp
                      try with_reducible rfl
                    try simp only [Act.put, List.setIfInBounds_toArray, List.set_cons_zero, List.set_cons_succ]
                    refine take_read (i := 4) (v := ?_) (by simp only [List.getElem?_toArray, List.getElem?_cons_succ, List.getElem?_cons_zero]; rfl) (by kernel_rfl) (by kernel_rfl) (by kernel_rfl) (fun _ _ _ h => h) hHeld ?_ ?_
                    rotate_left
                    · intro w hSw
                      have d0 := (hSw.cell d0 (by simp))
                      have d1 := (hSw.cell d1 (by simp))
                      have d2 := (hSw.cell d2 (by simp))
                      have d3 := (hSw.cell d3 (by simp))
                      have d4 := (hSw.cell d4 (by simp))
                      go_simp
                      try with_reducible rfl
                    try simp only [Act.put, List.setIfInBounds_toArray, List.set_cons_zero, List.set_cons_succ]
                    refine wpAnyH_ready (rs := [5]) (by kernel_rfl) (by simp) ?_
                    refine AllReadyH.cons rfl (fun K hK => ?_) AllReadyH.nil
                    go_simp
                    refine (HAL.out _).mono ?_
                    rintro e w3 ⟨rfl, hch3⟩
                    refine hK.out _ _ (show Chg [] w2 w3 from ((Chg.refl _ _).drew).then hch3) (fun _ => ?_)
                    clear hK hHeld K
                    have hHeld := (show Chg [] w2 w3 from ((Chg.refl _ _).drew).then hch3)
                    try (unfold Act.put; simp only [List.setIfInBounds_toArray, List.set_cons_zero, List.set_cons_succ])
                    refine take_read (i := 6) (v := ?_) (by simp only [List.getElem?_toArray, List.getElem?_cons_succ, List.getElem?_cons_zero]; rfl) (by kernel_rfl) (by kernel_rfl) (by kernel_rfl) (fun _ _ _ h => h) hHeld ?_ ?_
                    rotate_left
                    · intro w hSw
                      go_simp
                      try with_reducible rfl
                    try simp only [Act.put, List.setIfInBounds_toArray, List.set_cons_zero, List.set_cons_succ]
                    refine take_read (i := 7) (v := ?_) (by simp only [List.getElem?_toArray, List.getElem?_cons_succ, List.getElem?_cons_zero]; rfl) (by kernel_rfl) (by kernel_rfl) (by kernel_rfl) (fun _ _ _ h => h) hHeld ?_ ?_
                    rotate_left
                    · intro w hSw
                      go_simp
                      try with_reducible rfl
                    try simp only [Act.put, List.setIfInBounds_toArray, List.set_cons_zero, List.set_cons_succ]
                    refine take_read (i := 8) (v := ?_) (by simp only [List.getElem?_toArray, List.getElem?_cons_succ, List.getElem?_cons_zero]; rfl) (by kernel_rfl) (by kernel_rfl) (by kernel_rfl) (fun _ _ _ h => h) hHeld ?_ ?_
                    rotate_left
                    · intro w hSw
                      go_simp
                      try with_reducible rfl
                    try simp only [Act.put, List.setIfInBounds_toArray, List.set_cons_zero, List.set_cons_succ]
                    refine take_read (i := 9) (v := ?_) (by simp only [List.getElem?_toArray, List.getElem?_cons_succ, List.getElem?_cons_zero]; rfl) (by kernel_rfl) (by kernel_rfl) (by kernel_rfl) (fun _ _ _ h => h) hHeld ?_ ?_
                    rotate_left
                    · intro w hSw
                      go_simp
                      try with_reducible rfl
                    try simp only [Act.put, List.setIfInBounds_toArray, List.set_cons_zero, List.set_cons_succ]
                    refine wpAnyH_done (by kernel_rfl) ?_ _
                    refine NoPanic.normal ?_
                    have W3 := Lib.hid (hHeld)
                    clear hHeld hch3 k1 k2 k3 k4 k5 d0 d1 d2 d3 d4
                    go_wp2
                    go_roundw
                    case rel => exact ⟨j + 1, by omega, by go_num, by rw [HMn.out, HLn.out]; simp [eOf], HC2.out.then (HW2.out.then W3.out)⟩
                    case measure => simp [intOf]; omega
                  · skip
                    go_wp2_with fail
                    refine wp_region_noPanic ?_
                    refine wp_region_held_drew (S := fun w' => Chg [] w2 w') (by kernel_rfl) ((Chg.refl _ _).drew) (fun hHeld => ?_)
                    refine take_read (i := 0) (v := ?_) (by simp only [List.getElem?_toArray, List.getElem?_cons_zero]; rfl) (by kernel_rfl) (by kernel_rfl) (by kernel_rfl) (fun _ _ _ h => h) hHeld ?_ ?_
                    rotate_left
                    · intro w hSw
                      go_simp
                      try with_reducible rfl
                    try simp only [Act.put, List.setIfInBounds_toArray, List.set_cons_zero, List.set_cons_succ]
                    refine take_read (i := 1) (v := ?_) (by simp only [List.getElem?_toArray, List.getElem?_cons_succ, List.getElem?_cons_zero]; rfl) (by kernel_rfl) (by kernel_rfl) (by kernel_rfl) (fun _ _ _ h => h) hHeld ?_ ?_
                    rotate_left
                    · intro w hSw
                      go_simp
                      try with_reducible rfl
                    try simp only [Act.put, List.setIfInBounds_toArray, List.set_cons_zero, List.set_cons_succ]
                    refine take_read (i := 2) (v := ?_) (by simp only [List.getElem?_toArray, List.getElem?_cons_succ, List.getElem?_cons_zero]; rfl) (by kernel_rfl) (by kernel_rfl) (by kernel_rfl) (fun _ _ _ h => h) hHeld ?_ ?_
                    rotate_left
                    · intro w hSw
                      go_simp
                      try with_reducible rfl
                    try simp only [Act.put, List.setIfInBounds_toArray, List.set_cons_zero, List.set_cons_succ]
                    refine take_read (i := 3) (v := ?_) (by simp only [List.getElem?_toArray, List.getElem?_cons_succ, List.getElem?_cons_zero]; rfl) (by kernel_rfl) (by kernel_rfl) (by kernel_rfl) (fun _ _ _ h => h) hHeld ?_ ?_
                    rotate_left
                    · intro w hSw
                      have k1 := (hSw.cell k1 (by simp))
                      have k2 := (hSw.cell k2 (by simp))
                      have k3 := (hSw.cell k3 (by simp))
                      have k4 := (hSw.cell k4 (by simp))
                      have k5 := (hSw.cell k5 (by simp))
                      go_simp
                      try with_reducible rfl
                    try simp only [Act.put, List.setIfInBounds_toArray, List.set_cons_zero, List.set_cons_succ]
                    refine take_read (i := 4) (v := ?_) (by simp only [List.getElem?_toArray, List.getElem?_cons_succ, List.getElem?_cons_zero]; rfl) (by kernel_rfl) (by kernel_rfl) (by kernel_rfl) (fun _ _ _ h => h) hHeld ?_ ?_
                    rotate_left
                    · intro w hSw
                      have d0 := (hSw.cell d0 (by simp))
                      have d1 := (hSw.cell d1 (by simp))
                      have d2 := (hSw.cell d2 (by simp))
                      have d3 := (hSw.cell d3 (by simp))
                      have d4 := (hSw.cell d4 (by simp))
                      go_simp
                      try with_reducible rfl
                    try simp only [Act.put, List.setIfInBounds_toArray, List.set_cons_zero, List.set_cons_succ]
                    refine wpAnyH_ready (rs := [5]) (by kernel_rfl) (by simp) ?_
                    refine AllReadyH.cons rfl (fun K hK => ?_) AllReadyH.nil
                    go_simp
                    refine (HAL.out _).mono ?_
                    rintro e w3 ⟨rfl, hch3⟩
                    refine hK.out _ _ (show Chg [] w2 w3 from ((Chg.refl _ _).drew).then hch3) (fun _ => ?_)
                    clear hK hHeld K
                    have hHeld := (show Chg [] w2 w3 from ((Chg.refl _ _).drew).then hch3)
                    try (unfold Act.put; simp only [List.setIfInBounds_toArray, List.set_cons_zero, List.set_cons_succ])
                    refine take_read (i := 6) (v := ?_) (by simp only [List.getElem?_toArray, List.getElem?_cons_succ, List.getElem?_cons_zero]; rfl) (by kernel_rfl) (by kernel_rfl) (by kernel_rfl) (fun _ _ _ h => h) hHeld ?_ ?_
                    rotate_left
                    · intro w hSw
                      go_simp
                      try with_reducible rfl
                    try simp only [Act.put, List.setIfInBounds_toArray, List.set_cons_zero, List.set_cons_succ]
                    refine take_read (i := 7) (v := ?_) (by simp only [List.getElem?_toArray, List.getElem?_cons_succ, List.getElem?_cons_zero]; rfl) (by kernel_rfl) (by kernel_rfl) (by kernel_rfl) (fun _ _ _ h => h) hHeld ?_ ?_
                    rotate_left
                    · intro w hSw
                      go_simp
                      try with_reducible rfl
                    try simp only [Act.put, List.setIfInBounds_toArray, List.set_cons_zero, List.set_cons_succ]
                    refine take_read (i := 8) (v := ?_) (by simp only [List.getElem?_toArray, List.getElem?_cons_succ, List.getElem?_cons_zero]; rfl) (by kernel_rfl) (by kernel_rfl) (by kernel_rfl) (fun _ _ _ h => h) hHeld ?_ ?_
                    rotate_left
                    · intro w hSw
                      go_simp
                      try with_reducible rfl
                    try simp only [Act.put, List.setIfInBounds_toArray, List.set_cons_zero, List.set_cons_succ]
                    refine take_read (i := 9) (v := ?_) (by simp only [List.getElem?_toArray, List.getElem?_cons_succ, List.getElem?_cons_zero]; rfl) (by kernel_rfl) (by kernel_rfl) (by kernel_rfl) (fun _ _ _ h => h) hHeld ?_ ?_
                    rotate_left
                    · intro w hSw
                      go_simp
                      try with_reducible rfl
                    try simp only [Act.put, List.setIfInBounds_toArray, List.set_cons_zero, List.set_cons_succ]
                    refine wpAnyH_done (by kernel_rfl) ?_ _
                    refine NoPanic.normal ?_
                    have W3 := Lib.hid (hHeld)
                    clear hHeld hch3 k1 k2 k3 k4 k5 d0 d1 d2 d3 d4
                    go_wp2
                    go_roundw
                    case rel => exact ⟨j + 1, by omega, by go_num, by rw [HMn.out, HLn.out]; simp [eOf], HC2.out.then (HW2.out.then W3.out)⟩
                    case measure => simp [intOf]; omega
                · rw [show eOf false true = 21 from rfl]
                  cases bl
                  · skip
                    go_wp2_with fail
                    refine wp_region_noPanic ?_
                    refine wp_region_held_drew (S := fun w' => Chg [] w2 w') (by kernel_rfl) ((Chg.refl _ _).drew) (fun hHeld => ?_)
                    refine take_read (i := 0) (v := ?_) (by simp only [List.getElem?_toArray, List.getElem?_cons_zero]; rfl) (by kernel_rfl) (by kernel_rfl) (by kernel_rfl) (fun _ _ _ h => h) hHeld ?_ ?_
                    rotate_left
                    · intro w hSw
                      go_simp
                      try with_reducible rfl
                    try simp only [Act.put, List.setIfInBounds_toArray, List.set_cons_zero, List.set_cons_succ]
                    refine take_read (i := 1) (v := ?_) (by simp only [List.getElem?_toArray, List.getElem?_cons_succ, List.getElem?_cons_zero]; rfl) (by kernel_rfl) (by kernel_rfl) (by kernel_rfl) (fun _ _ _ h => h) hHeld ?_ ?_
                    rotate_left
                    · intro w hSw
                      go_simp
                      try with_reducible rfl
                    try simp only [Act.put, List.setIfInBounds_toArray, List.set_cons_zero, List.set_cons_succ]
                    refine take_read (i := 2) (v := ?_) (by simp only [List.getElem?_toArray, List.getElem?_cons_succ, List.getElem?_cons_zero]; rfl) (by kernel_rfl) (by kernel_rfl) (by kernel_rfl) (fun _ _ _ h => h) hHeld ?_ ?_
                    rotate_left
                    · intro w hSw
                      go_simp
                      try with_reducible rfl
                    try simp only [Act.put, List.setIfInBounds_toArray, List.set_cons_zero, List.set_cons_succ]
                    refine take_read (i := 3) (v := ?_) (by simp only [List.getElem?_toArray, List.getElem?_cons_succ, List.getElem?_cons_zero]; rfl) (by kernel_rfl) (by kernel_rfl) (by kernel_rfl) (fun _ _ _ h => h) hHeld ?_ ?_
                    rotate_left
                    · intro w hSw
                      have k1 := (hSw.cell k1 (by simp))
                      have k2 := (hSw.cell k2 (by simp))
                      have k3 := (hSw.cell k3 (by simp))
                      have k4 := (hSw.cell k4 (by simp))
                      have k5 := (hSw.cell k5 (by simp))
                      go_simp
                      try with_reducible rfl
                    try simp only [Act.put, List.setIfInBounds_toArray, List.set_cons_zero, List.set_cons_succ]
                    refine take_read (i := 4) (v := ?_) (by simp only [List.getElem?_toArray, List.getElem?_cons_succ, List.getElem?_cons_zero]; rfl) (by kernel_rfl) (by kernel_rfl) (by kernel_rfl) (fun _ _ _ h => h) hHeld ?_ ?_
                    rotate_left
                    · intro w hSw
                      have d0 := (hSw.cell d0 (by simp))
                      have d1 := (hSw.cell d1 (by simp))
                      have d2 := (hSw.cell d2 (by simp))
                      have d3 := (hSw.cell d3 (by simp))
                      have d4 := (hSw.cell d4 (by simp))
                      go_simp
                      try with_reducible rfl
                    try simp only [Act.put, List.setIfInBounds_toArray, List.set_cons_zero, List.set_cons_succ]
                    refine wpAnyH_ready (rs := [5]) (by kernel_rfl) (by simp) ?_
                    refine AllReadyH.cons rfl (fun K hK => ?_) AllReadyH.nil
                    go_simp
                    refine (HAL.out _).mono ?_
                    rintro e w3 ⟨rfl, hch3⟩
                    refine hK.out _ _ (show Chg [] w2 w3 from ((Chg.refl _ _).drew).then hch3) (fun _ => ?_)
                    clear hK hHeld K
                    have hHeld := (show Chg [] w2 w3 from ((Chg.refl _ _).drew).then hch3)
                    try (unfold Act.put; simp only [List.setIfInBounds_toArray, List.set_cons_zero, List.set_cons_succ])
                    refine take_read (i := 6) (v := ?_) (by simp only [List.getElem?_toArray, List.getElem?_cons_succ, List.getElem?_cons_zero]; rfl) (by kernel_rfl) (by kernel_rfl) (by kernel_rfl) (fun _ _ _ h => h) hHeld ?_ ?_
                    rotate_left
                    · intro w hSw
                      go_simp
                      try with_reducible rfl
                    try simp only [Act.put, List.setIfInBounds_toArray, List.set_cons_zero, List.set_cons_succ]
                    refine take_read (i := 7) (v := ?_) (by simp only [List.getElem?_toArray, List.getElem?_cons_succ, List.getElem?_cons_zero]; rfl) (by kernel_rfl) (by kernel_rfl) (by kernel_rfl) (fun _ _ _ h => h) hHeld ?_ ?_
                    rotate_left
                    · intro w hSw
                      go_simp
                      try with_reducible rfl
                    try simp only [Act.put, List.setIfInBounds_toArray, List.set_cons_zero, List.set_cons_succ]
                    refine take_read (i := 8) (v := ?_) (by simp only [List.getElem?_toArray, List.getElem?_cons_succ, List.getElem?_cons_zero]; rfl) (by kernel_rfl) (by kernel_rfl) (by kernel_rfl) (fun _ _ _ h => h) hHeld ?_ ?_
                    rotate_left
                    · intro w hSw
                      go_simp
                      try with_reducible rfl
                    try simp only [Act.put, List.setIfInBounds_toArray, List.set_cons_zero, List.set_cons_succ]
                    refine take_read (i := 9) (v := ?_) (by simp only [List.getElem?_toArray, List.getElem?_cons_succ, List.getElem?_cons_zero]; rfl) (by kernel_rfl) (by kernel_rfl) (by kernel_rfl) (fun _ _ _ h => h) hHeld ?_ ?_
                    rotate_left
                    · intro w hSw
                      go_simp
                      try with_reducible rfl
                    try simp only [Act.put, List.setIfInBounds_toArray, List.set_cons_zero, List.set_cons_succ]
                    refine wpAnyH_done (by kernel_rfl) ?_ _
                    refine NoPanic.normal ?_
                    have W3 := Lib.hid (hHeld)
                    clear hHeld hch3 k1 k2 k3 k4 k5 d0 d1 d2 d3 d4
                    go_wp2
                    go_roundw
                    case rel => exact ⟨j + 1, by omega, by go_num, by rw [HMn.out, HLn.out]; simp [eOf], HC2.out.then (HW2.out.then W3.out)⟩
                    case measure => simp [intOf]; omega
                  · skip
                    go_wp2_with fail
                    refine wp_region_noPanic ?_
                    refine wp_region_held_drew (S := fun w' => Chg [] w2 w') (by kernel_rfl) ((Chg.refl _ _).drew) (fun hHeld => ?_)
                    refine take_read (i := 0) (v := ?_) (by simp only [List.getElem?_toArray, List.getElem?_cons_zero]; rfl) (by kernel_rfl) (by kernel_rfl) (by kernel_rfl) (fun _ _ _ h => h) hHeld ?_ ?_
                    rotate_left
                    · intro w hSw
                      go_simp
                      try with_reducible rfl
                    try simp only [Act.put, List.setIfInBounds_toArray, List.set_cons_zero, List.set_cons_succ]
                    refine take_read (i := 1) (v := ?_) (by simp only [List.getElem?_toArray, List.getElem?_cons_succ, List.getElem?_cons_zero]; rfl) (by kernel_rfl) (by kernel_rfl) (by kernel_rfl) (fun _ _ _ h => h) hHeld ?_ ?_
                    rotate_left
                    · intro w hSw
                      go_simp
                      try with_reducible rfl
                    try simp only [Act.put, List.setIfInBounds_toArray, List.set_cons_zero, List.set_cons_succ]
                    refine take_read (i := 2) (v := ?_) (by simp only [List.getElem?_toArray, List.getElem?_cons_succ, List.getElem?_cons_zero]; rfl) (by kernel_rfl) (by kernel_rfl) (by kernel_rfl) (fun _ _ _ h => h) hHeld ?_ ?_
                    rotate_left
                    · intro w hSw
                      go_simp
                      try with_reducible rfl
                    try simp only [Act.put, List.setIfInBounds_toArray, List.set_cons_zero, List.set_cons_succ]
                    refine take_read (i := 3) (v := ?_) (by simp only [List.getElem?_toArray, List.getElem?_cons_succ, List.getElem?_cons_zero]; rfl) (by kernel_rfl) (by kernel_rfl) (by kernel_rfl) (fun _ _ _ h => h) hHeld ?_ ?_
                    rotate_left
                    · intro w hSw
                      have k1 := (hSw.cell k1 (by simp))
                      have k2 := (hSw.cell k2 (by simp))
                      have k3 := (hSw.cell k3 (by simp))
                      have k4 := (hSw.cell k4 (by simp))
                      have k5 := (hSw.cell k5 (by simp))
                      go_simp
                      try with_reducible rfl
                    try simp only [Act.put, List.setIfInBounds_toArray, List.set_cons_zero, List.set_cons_succ]
                    refine take_read (i := 4) (v := ?_) (by simp only [List.getElem?_toArray, List.getElem?_cons_succ, List.getElem?_cons_zero]; rfl) (by kernel_rfl) (by kernel_rfl) (by kernel_rfl) (fun _ _ _ h => h) hHeld ?_ ?_
                    rotate_left
                    · intro w hSw
                      have d0 := (hSw.cell d0 (by simp))
                      have d1 := (hSw.cell d1 (by simp))
                      have d2 := (hSw.cell d2 (by simp))
                      have d3 := (hSw.cell d3 (by simp))
                      have d4 := (hSw.cell d4 (by simp))
                      go_simp
                      try with_reducible rfl
                    try simp only [Act.put, List.setIfInBounds_toArray, List.set_cons_zero, List.set_cons_succ]
                    refine wpAnyH_ready (rs := [5]) (by kernel_rfl) (by simp) ?_
                    refine AllReadyH.cons rfl (fun K hK => ?_) AllReadyH.nil
                    go_simp
                    refine (HAL.out _).mono ?_
                    rintro e w3 ⟨rfl, hch3⟩
                    refine hK.out _ _ (show Chg [] w2 w3 from ((Chg.refl _ _).drew).then hch3) (fun _ => ?_)
                    clear hK hHeld K
                    have hHeld := (show Chg [] w2 w3 from ((Chg.refl _ _).drew).then hch3)
                    try (unfold Act.put; simp only [List.setIfInBounds_toArray, List.set_cons_zero, List.set_cons_succ])
                    refine take_read (i := 6) (v := ?_) (by simp only [List.getElem?_toArray, List.getElem?_cons_succ, List.getElem?_cons_zero]; rfl) (by kernel_rfl) (by kernel_rfl) (by kernel_rfl) (fun _ _ _ h => h) hHeld ?_ ?_
                    rotate_left
                    · intro w hSw
                      go_simp
                      try with_reducible rfl
                    try simp only [Act.put, List.setIfInBounds_toArray, List.set_cons_zero, List.set_cons_succ]
                    refine take_read (i := 7) (v := ?_) (by simp only [List.getElem?_toArray, List.getElem?_cons_succ, List.getElem?_cons_zero]; rfl) (by kernel_rfl) (by kernel_rfl) (by kernel_rfl) (fun _ _ _ h => h) hHeld ?_ ?_
                    rotate_left
                    · intro w hSw
                      go_simp
                      try with_reducible rfl
                    try simp only [Act.put, List.setIfInBounds_toArray, List.set_cons_zero, List.set_cons_succ]
                    refine take_read (i := 8) (v := ?_) (by simp only [List.getElem?_toArray, List.getElem?_cons_succ, List.getElem?_cons_zero]; rfl) (by kernel_rfl) (by kernel_rfl) (by kernel_rfl) (fun _ _ _ h => h) hHeld ?_ ?_
                    rotate_left
                    · intro w hSw
                      go_simp
                      try with_reducible rfl
                    try simp only [Act.put, List.setIfInBounds_toArray, List.set_cons_zero, List.set_cons_succ]
                    refine take_read (i := 9) (v := ?_) (by simp only [List.getElem?_toArray, List.getElem?_cons_succ, List.getElem?_cons_zero]; rfl) (by kernel_rfl) (by kernel_rfl) (by kernel_rfl) (fun _ _ _ h => h) hHeld ?_ ?_
                    rotate_left
                    · intro w hSw
                      go_simp
                      try with_reducible rfl
                    try simp only [Act.put, List.setIfInBounds_toArray, List.set_cons_zero, List.set_cons_succ]
                    refine wpAnyH_done (by kernel_rfl) ?_ _
                    refine NoPanic.normal ?_
                    have W3 := Lib.hid (hHeld)
                    clear hHeld hch3 k1 k2 k3 k4 k5 d0 d1 d2 d3 d4
                    go_wp2
                    go_roundw
                    case rel => exact ⟨j + 1, by omega, by go_num, by rw [HMn.out, HLn.out]; simp [eOf], HC2.out.then (HW2.out.then W3.out)⟩
                    case measure => simp [intOf]; omega
              · rw [show eOf true Lo = 4 from rfl]
                cases bl
                · skip
                  go_wp2_with fail
                  refine wp_region_noPanic ?_
                  refine wp_region_held_drew (S := fun w' => Chg [] w2 w') (by kernel_rfl) ((Chg.refl _ _).drew) (fun hHeld => ?_)
                  refine take_read (i := 0) (v := ?_) (by simp only [List.getElem?_toArray, List.getElem?_cons_zero]; rfl) (by kernel_rfl) (by kernel_rfl) (by kernel_rfl) (fun _ _ _ h => h) hHeld ?_ ?_
                  rotate_left
                  · intro w hSw
                    go_simp
                    try with_reducible rfl
                  try simp only [Act.put, List.setIfInBounds_toArray, List.set_cons_zero, List.set_cons_succ]
                  refine take_read (i := 1) (v := ?_) (by simp only [List.getElem?_toArray, List.getElem?_cons_succ, List.getElem?_cons_zero]; rfl) (by kernel_rfl) (by kernel_rfl) (by kernel_rfl) (fun _ _ _ h => h) hHeld ?_ ?_
                  rotate_left
                  · intro w hSw
                    go_simp
                    try with_reducible rfl
                  try simp only [Act.put, List.setIfInBounds_toArray, List.set_cons_zero, List.set_cons_succ]
                  refine take_read (i := 2) (v := ?_) (by simp only [List.getElem?_toArray, List.getElem?_cons_succ, List.getElem?_cons_zero]; rfl) (by kernel_rfl) (by kernel_rfl) (by kernel_rfl) (fun _ _ _ h => h) hHeld ?_ ?_
                  rotate_left
                  · intro w hSw
                    go_simp
                    try with_reducible rfl
                  try simp only [Act.put, List.setIfInBounds_toArray, List.set_cons_zero, List.set_cons_succ]
                  refine take_read (i := 3) (v := ?_) (by simp only [List.getElem?_toArray, List.getElem?_cons_succ, List.getElem?_cons_zero]; rfl) (by kernel_rfl) (by kernel_rfl) (by kernel_rfl) (fun _ _ _ h => h) hHeld ?_ ?_
                  rotate_left
                  · intro w hSw
                    have k1 := (hSw.cell k1 (by simp))
                    have k2 := (hSw.cell k2 (by simp))
                    have k3 := (hSw.cell k3 (by simp))
                    have k4 := (hSw.cell k4 (by simp))
                    have k5 := (hSw.cell k5 (by simp))
                    go_simp
                    try with_reducible rfl
                  try simp only [Act.put, List.setIfInBounds_toArray, List.set_cons_zero, List.set_cons_succ]
                  refine take_read (i := 4) (v := ?_) (by simp only [List.getElem?_toArray, List.getElem?_cons_succ, List.getElem?_cons_zero]; rfl) (by kernel_rfl) (by kernel_rfl) (by kernel_rfl) (fun _ _ _ h => h) hHeld ?_ ?_
                  rotate_left
                  · intro w hSw
                    have d0 := (hSw.cell d0 (by simp))
                    have d1 := (hSw.cell d1 (by simp))
                    have d2 := (hSw.cell d2 (by simp))
                    have d3 := (hSw.cell d3 (by simp))
                    have d4 := (hSw.cell d4 (by simp))
                    go_simp
                    try with_reducible rfl
                  try simp only [Act.put, List.setIfInBounds_toArray, List.set_cons_zero, List.set_cons_succ]
                  refine wpAnyH_ready (rs := [5]) (by kernel_rfl) (by simp) ?_
                  refine AllReadyH.cons rfl (fun K hK => ?_) AllReadyH.nil
                  go_simp
                  refine (HAL.out _).mono ?_
                  rintro e w3 ⟨rfl, hch3⟩
                  refine hK.out _ _ (show Chg [] w2 w3 from ((Chg.refl _ _).drew).then hch3) (fun _ => ?_)
                  clear hK hHeld K
                  have hHeld := (show Chg [] w2 w3 from ((Chg.refl _ _).drew).then hch3)
                  try (unfold Act.put; simp only [List.setIfInBounds_toArray, List.set_cons_zero, List.set_cons_succ])
                  refine take_read (i := 6) (v := ?_) (by simp only [List.getElem?_toArray, List.getElem?_cons_succ, List.getElem?_cons_zero]; rfl) (by kernel_rfl) (by kernel_rfl) (by kernel_rfl) (fun _ _ _ h => h) hHeld ?_ ?_
                  rotate_left
                  · intro w hSw
                    go_simp
                    try with_reducible rfl
                  try simp only [Act.put, List.setIfInBounds_toArray, List.set_cons_zero, List.set_cons_succ]
                  refine take_read (i := 7) (v := ?_) (by simp only [List.getElem?_toArray, List.getElem?_cons_succ, List.getElem?_cons_zero]; rfl) (by kernel_rfl) (by kernel_rfl) (by kernel_rfl) (fun _ _ _ h => h) hHeld ?_ ?_
                  rotate_left
                  · intro w hSw
                    go_simp
                    try with_reducible rfl
                  try simp only [Act.put, List.setIfInBounds_toArray, List.set_cons_zero, List.set_cons_succ]
                  refine take_read (i := 8) (v := ?_) (by simp only [List.getElem?_toArray, List.getElem?_cons_succ, List.getElem?_cons_zero]; rfl) (by kernel_rfl) (by kernel_rfl) (by kernel_rfl) (fun _ _ _ h => h) hHeld ?_ ?_
                  rotate_left
                  · intro w hSw
                    go_simp
                    try with_reducible rfl
                  try simp only [Act.put, List.setIfInBounds_toArray, List.set_cons_zero, List.set_cons_succ]
                  refine take_read (i := 9) (v := ?_) (by simp only [List.getElem?_toArray, List.getElem?_cons_succ, List.getElem?_cons_zero]; rfl) (by kernel_rfl) (by kernel_rfl) (by kernel_rfl) (fun _ _ _ h => h) hHeld ?_ ?_
                  rotate_left
                  · intro w hSw
                    go_simp
                    try with_reducible rfl
                  try simp only [Act.put, List.setIfInBounds_toArray, List.set_cons_zero, List.set_cons_succ]
                  refine wpAnyH_done (by kernel_rfl) ?_ _
                  refine NoPanic.normal ?_
                  have W3 := Lib.hid (hHeld)
                  clear hHeld hch3 k1 k2 k3 k4 k5 d0 d1 d2 d3 d4
                  go_wp2
                  go_roundw
                  case rel => exact ⟨j + 1, by omega, by go_num, by rw [HMn.out, HLn.out]; simp [eOf], HC2.out.then (HW2.out.then W3.out)⟩
                  case measure => simp [intOf]; omega
                · skip
                  go_wp2_with fail
                  refine wp_region_noPanic ?_
                  refine wp_region_held_drew (S := fun w' => Chg [] w2 w') (by kernel_rfl) ((Chg.refl _ _).drew) (fun hHeld => ?_)
                  refine take_read (i := 0) (v := ?_) (by simp only [List.getElem?_toArray, List.getElem?_cons_zero]; rfl) (by kernel_rfl) (by kernel_rfl) (by kernel_rfl) (fun _ _ _ h => h) hHeld ?_ ?_
                  rotate_left
                  · intro w hSw
                    go_simp
                    try with_reducible rfl
                  try simp only [Act.put, List.setIfInBounds_toArray, List.set_cons_zero, List.set_cons_succ]
                  refine take_read (i := 1) (v := ?_) (by simp only [List.getElem?_toArray, List.getElem?_cons_succ, List.getElem?_cons_zero]; rfl) (by kernel_rfl) (by kernel_rfl) (by kernel_rfl) (fun _ _ _ h => h) hHeld ?_ ?_
                  rotate_left
                  · intro w hSw
                    go_simp
                    try with_reducible rfl
                  try simp only [Act.put, List.setIfInBounds_toArray, List.set_cons_zero, List.set_cons_succ]
                  refine take_read (i := 2) (v := ?_) (by simp only [List.getElem?_toArray, List.getElem?_cons_succ, List.getElem?_cons_zero]; rfl) (by kernel_rfl) (by kernel_rfl) (by kernel_rfl) (fun _ _ _ h => h) hHeld ?_ ?_
                  rotate_left
                  · intro w hSw
                    go_simp
                    try with_reducible rfl
                  try simp only [Act.put, List.setIfInBounds_toArray, List.set_cons_zero, List.set_cons_succ]
                  refine take_read (i := 3) (v := ?_) (by simp only [List.getElem?_toArray, List.getElem?_cons_succ, List.getElem?_cons_zero]; rfl) (by kernel_rfl) (by kernel_rfl) (by kernel_rfl) (fun _ _ _ h => h) hHeld ?_ ?_
                  rotate_left
                  · intro w hSw
                    have k1 := (hSw.cell k1 (by simp))
                    have k2 := (hSw.cell k2 (by simp))
                    have k3 := (hSw.cell k3 (by simp))
                    have k4 := (hSw.cell k4 (by simp))
                    have k5 := (hSw.cell k5 (by simp))
                    go_simp
                    try with_reducible rfl
                  try simp only [Act.put, List.setIfInBounds_toArray, List.set_cons_zero, List.set_cons_succ]
                  refine take_read (i := 4) (v := ?_) (by simp only [List.getElem?_toArray, List.getElem?_cons_succ, List.getElem?_cons_zero]; rfl) (by kernel_rfl) (by kernel_rfl) (by kernel_rfl) (fun _ _ _ h => h) hHeld ?_ ?_
                  rotate_left
                  · intro w hSw
                    have d0 := (hSw.cell d0 (by simp))
                    have d1 := (hSw.cell d1 (by simp))
                    have d2 := (hSw.cell d2 (by simp))
                    have d3 := (hSw.cell d3 (by simp))
                    have d4 := (hSw.cell d4 (by simp))
                    go_simp
                    try with_reducible rfl
                  try simp only [Act.put, List.setIfInBounds_toArray, List.set_cons_zero, List.set_cons_succ]
                  refine wpAnyH_ready (rs := [5]) (by kernel_rfl) (by simp) ?_
                  refine AllReadyH.cons rfl (fun K hK => ?_) AllReadyH.nil
                  go_simp
                  refine (HAL.out _).mono ?_
                  rintro e w3 ⟨rfl, hch3⟩
                  refine hK.out _ _ (show Chg [] w2 w3 from ((Chg.refl _ _).drew).then hch3) (fun _ => ?_)
                  clear hK hHeld K
                  have hHeld := (show Chg [] w2 w3 from ((Chg.refl _ _).drew).then hch3)
                  try (unfold Act.put; simp only [List.setIfInBounds_toArray, List.set_cons_zero, List.set_cons_succ])
                  refine take_read (i := 6) (v := ?_) (by simp only [List.getElem?_toArray, List.getElem?_cons_succ, List.getElem?_cons_zero]; rfl) (by kernel_rfl) (by kernel_rfl) (by kernel_rfl) (fun _ _ _ h => h) hHeld ?_ ?_
                  rotate_left
                  · intro w hSw
                    go_simp
                    try with_reducible rfl
                  try simp only [Act.put, List.setIfInBounds_toArray, List.set_cons_zero, List.set_cons_succ]
                  refine take_read (i := 7) (v := ?_) (by simp only [List.getElem?_toArray, List.getElem?_cons_succ, List.getElem?_cons_zero]; rfl) (by kernel_rfl) (by kernel_rfl) (by kernel_rfl) (fun _ _ _ h => h) hHeld ?_ ?_
                  rotate_left
                  · intro w hSw
                    go_simp
                    try with_reducible rfl
                  try simp only [Act.put, List.setIfInBounds_toArray, List.set_cons_zero, List.set_cons_succ]
                  refine take_read (i := 8) (v := ?_) (by simp only [List.getElem?_toArray, List.getElem?_cons_succ, List.getElem?_cons_zero]; rfl) (by kernel_rfl) (by kernel_rfl) (by kernel_rfl) (fun _ _ _ h => h) hHeld ?_ ?_
                  rotate_left
                  · intro w hSw
                    go_simp
                    try with_reducible rfl
                  try simp only [Act.put, List.setIfInBounds_toArray, List.set_cons_zero, List.set_cons_succ]
                  refine take_read (i := 9) (v := ?_) (by simp only [List.getElem?_toArray, List.getElem?_cons_succ, List.getElem?_cons_zero]; rfl) (by kernel_rfl) (by kernel_rfl) (by kernel_rfl) (fun _ _ _ h => h) hHeld ?_ ?_
                  rotate_left
                  · intro w hSw
                    go_simp
                    try with_reducible rfl
                  try simp only [Act.put, List.setIfInBounds_toArray, List.set_cons_zero, List.set_cons_succ]
                  refine wpAnyH_done (by kernel_rfl) ?_ _
                  refine NoPanic.normal ?_
                  have W3 := Lib.hid (hHeld)
                  clear hHeld hch3 k1 k2 k3 k4 k5 d0 d1 d2 d3 d4
                  go_wp2
                  go_roundw
                  case rel => exact ⟨j + 1, by omega, by go_num, by rw [HMn.out, HLn.out]; simp [eOf], HC2.out.then (HW2.out.then W3.out)⟩
                  case measure => simp [intOf]; omega
            · cases bl
              · skip
                go_wp2_with fail
                refine wp_region_noPanic ?_
                refine wp_region_held_drew (S := fun w' => Chg [] w2 w') (by kernel_rfl) ((Chg.refl _ _).drew) (fun hHeld => ?_)
                refine take_read (i := 0) (v := ?_) (by simp only [List.getElem?_toArray, List.getElem?_cons_zero]; rfl) (by kernel_rfl) (by kernel_rfl) (by kernel_rfl) (fun _ _ _ h => h) hHeld ?_ ?_
                rotate_left
                · intro w hSw
                  go_simp
                  try with_reducible rfl
                try simp only [Act.put, List.setIfInBounds_toArray, List.set_cons_zero, List.set_cons_succ]
                refine take_read (i := 1) (v := ?_) (by simp only [List.getElem?_toArray, List.getElem?_cons_succ, List.getElem?_cons_zero]; rfl) (by kernel_rfl) (by kernel_rfl) (by kernel_rfl) (fun _ _ _ h => h) hHeld ?_ ?_
                rotate_left
                · intro w hSw
                  go_simp
                  try with_reducible rfl
                try simp only [Act.put, List.setIfInBounds_toArray, List.set_cons_zero, List.set_cons_succ]
                refine take_read (i := 2) (v := ?_) (by simp only [List.getElem?_toArray, List.getElem?_cons_succ, List.getElem?_cons_zero]; rfl) (by kernel_rfl) (by kernel_rfl) (by kernel_rfl) (fun _ _ _ h => h) hHeld ?_ ?_
                rotate_left
                · intro w hSw
                  go_simp
                  try with_reducible rfl
                try simp only [Act.put, List.setIfInBounds_toArray, List.set_cons_zero, List.set_cons_succ]
                refine take_read (i := 3) (v := ?_) (by simp only [List.getElem?_toArray, List.getElem?_cons_succ, List.getElem?_cons_zero]; rfl) (by kernel_rfl) (by kernel_rfl) (by kernel_rfl) (fun _ _ _ h => h) hHeld ?_ ?_
                rotate_left
                · intro w hSw
                  have k1 := (hSw.cell k1 (by simp))
                  have k2 := (hSw.cell k2 (by simp))
                  have k3 := (hSw.cell k3 (by simp))
                  have k4 := (hSw.cell k4 (by simp))
                  have k5 := (hSw.cell k5 (by simp))
                  go_simp
                  try with_reducible rfl
                try simp only [Act.put, List.setIfInBounds_toArray, List.set_cons_zero, List.set_cons_succ]
                refine take_read (i := 4) (v := ?_) (by simp only [List.getElem?_toArray, List.getElem?_cons_succ, List.getElem?_cons_zero]; rfl) (by kernel_rfl) (by kernel_rfl) (by kernel_rfl) (fun _ _ _ h => h) hHeld ?_ ?_
                rotate_left
                · intro w hSw
                  have d0 := (hSw.cell d0 (by simp))
                  have d1 := (hSw.cell d1 (by simp))
                  have d2 := (hSw.cell d2 (by simp))
                  have d3 := (hSw.cell d3 (by simp))
                  have d4 := (hSw.cell d4 (by simp))
                  go_simp
                  try with_reducible rfl
                try simp only [Act.put, List.setIfInBounds_toArray, List.set_cons_zero, List.set_cons_succ]
                refine wpAnyH_ready (rs := [5]) (by kernel_rfl) (by simp) ?_
                refine AllReadyH.cons rfl (fun K hK => ?_) AllReadyH.nil
                go_simp
                refine (HAL.out _).mono ?_
                rintro e w3 ⟨rfl, hch3⟩
                refine hK.out _ _ (show Chg [] w2 w3 from ((Chg.refl _ _).drew).then hch3) (fun _ => ?_)
                clear hK hHeld K
                have hHeld := (show Chg [] w2 w3 from ((Chg.refl _ _).drew).then hch3)
                try (unfold Act.put; simp only [List.setIfInBounds_toArray, List.set_cons_zero, List.set_cons_succ])
                refine take_read (i := 6) (v := ?_) (by simp only [List.getElem?_toArray, List.getElem?_cons_succ, List.getElem?_cons_zero]; rfl) (by kernel_rfl) (by kernel_rfl) (by kernel_rfl) (fun _ _ _ h => h) hHeld ?_ ?_
                rotate_left
                · intro w hSw
                  go_simp
                  try with_reducible rfl
                try simp only [Act.put, List.setIfInBounds_toArray, List.set_cons_zero, List.set_cons_succ]
                refine take_read (i := 7) (v := ?_) (by simp only [List.getElem?_toArray, List.getElem?_cons_succ, List.getElem?_cons_zero]; rfl) (by kernel_rfl) (by kernel_rfl) (by kernel_rfl) (fun _ _ _ h => h) hHeld ?_ ?_
                rotate_left
                · intro w hSw
                  go_simp
                  try with_reducible rfl
                try simp only [Act.put, List.setIfInBounds_toArray, List.set_cons_zero, List.set_cons_succ]
                refine take_read (i := 8) (v := ?_) (by simp only [List.getElem?_toArray, List.getElem?_cons_succ, List.getElem?_cons_zero]; rfl) (by kernel_rfl) (by kernel_rfl) (by kernel_rfl) (fun _ _ _ h => h) hHeld ?_ ?_
                rotate_left
                · intro w hSw
                  go_simp
                  try with_reducible rfl
                try simp only [Act.put, List.setIfInBounds_toArray, List.set_cons_zero, List.set_cons_succ]
                refine take_read (i := 9) (v := ?_) (by simp only [List.getElem?_toArray, List.getElem?_cons_succ, List.getElem?_cons_zero]; rfl) (by kernel_rfl) (by kernel_rfl) (by kernel_rfl) (fun _ _ _ h => h) hHeld ?_ ?_
                rotate_left
                · intro w hSw
                  go_simp
                  try with_reducible rfl
                try simp only [Act.put, List.setIfInBounds_toArray, List.set_cons_zero, List.set_cons_succ]
                refine wpAnyH_done (by kernel_rfl) ?_ _
                refine NoPanic.normal ?_
                have W3 := Lib.hid (hHeld)
                clear hHeld hch3 k1 k2 k3 k4 k5 d0 d1 d2 d3 d4
                go_wp2
                go_roundw
                case rel => exact ⟨j + 1, by omega, by go_num, by rw [HMn.out, HLn.out]; simp [eOf], HC2.out.then (HW2.out.then W3.out)⟩
                case measure => simp [intOf]; omega
              · skip
                go_wp2_with fail
                refine wp_region_noPanic ?_
                refine wp_region_held_drew (S := fun w' => Chg [] w2 w') (by kernel_rfl) ((Chg.refl _ _).drew) (fun hHeld => ?_)
                refine take_read (i := 0) (v := ?_) (by simp only [List.getElem?_toArray, List.getElem?_cons_zero]; rfl) (by kernel_rfl) (by kernel_rfl) (by kernel_rfl) (fun _ _ _ h => h) hHeld ?_ ?_
                rotate_left
                · intro w hSw
                  go_simp
                  try with_reducible rfl
                try simp only [Act.put, List.setIfInBounds_toArray, List.set_cons_zero, List.set_cons_succ]
                refine take_read (i := 1) (v := ?_) (by simp only [List.getElem?_toArray, List.getElem?_cons_succ, List.getElem?_cons_zero]; rfl) (by kernel_rfl) (by kernel_rfl) (by kernel_rfl) (fun _ _ _ h => h) hHeld ?_ ?_
                rotate_left
                · intro w hSw
                  go_simp
                  try with_reducible rfl
                try simp only [Act.put, List.setIfInBounds_toArray, List.set_cons_zero, List.set_cons_succ]
                refine take_read (i := 2) (v := ?_) (by simp only [List.getElem?_toArray, List.getElem?_cons_succ, List.getElem?_cons_zero]; rfl) (by kernel_rfl) (by kernel_rfl) (by kernel_rfl) (fun _ _ _ h => h) hHeld ?_ ?_
                rotate_left
                · intro w hSw
                  go_simp
                  try with_reducible rfl
                try simp only [Act.put, List.setIfInBounds_toArray, List.set_cons_zero, List.set_cons_succ]
                refine take_read (i := 3) (v := ?_) (by simp only [List.getElem?_toArray, List.getElem?_cons_succ, List.getElem?_cons_zero]; rfl) (by kernel_rfl) (by kernel_rfl) (by kernel_rfl) (fun _ _ _ h => h) hHeld ?_ ?_
                rotate_left
                · intro w hSw
                  have k1 := (hSw.cell k1 (by simp))
                  have k2 := (hSw.cell k2 (by simp))
                  have k3 := (hSw.cell k3 (by simp))
                  have k4 := (hSw.cell k4 (by simp))
                  have k5 := (hSw.cell k5 (by simp))
                  go_simp
                  try with_reducible rfl
                try simp only [Act.put, List.setIfInBounds_toArray, List.set_cons_zero, List.set_cons_succ]
                refine take_read (i := 4) (v := ?_) (by simp only [List.getElem?_toArray, List.getElem?_cons_succ, List.getElem?_cons_zero]; rfl) (by kernel_rfl) (by kernel_rfl) (by kernel_rfl) (fun _ _ _ h => h) hHeld ?_ ?_
                rotate_left
                · intro w hSw
                  have d0 := (hSw.cell d0 (by simp))
                  have d1 := (hSw.cell d1 (by simp))
                  have d2 := (hSw.cell d2 (by simp))
                  have d3 := (hSw.cell d3 (by simp))
                  have d4 := (hSw.cell d4 (by simp))
                  go_simp
                  try with_reducible rfl
                try simp only [Act.put, List.setIfInBounds_toArray, List.set_cons_zero, List.set_cons_succ]
                refine wpAnyH_ready (rs := [5]) (by kernel_rfl) (by simp) ?_
                refine AllReadyH.cons rfl (fun K hK => ?_) AllReadyH.nil
                go_simp
                refine (HAL.out _).mono ?_
                rintro e w3 ⟨rfl, hch3⟩
                refine hK.out _ _ (show Chg [] w2 w3 from ((Chg.refl _ _).drew).then hch3) (fun _ => ?_)
                clear hK hHeld K
                have hHeld := (show Chg [] w2 w3 from ((Chg.refl _ _).drew).then hch3)
                try (unfold Act.put; simp only [List.setIfInBounds_toArray, List.set_cons_zero, List.set_cons_succ])
                refine take_read (i := 6) (v := ?_) (by simp only [List.getElem?_toArray, List.getElem?_cons_succ, List.getElem?_cons_zero]; rfl) (by kernel_rfl) (by kernel_rfl) (by kernel_rfl) (fun _ _ _ h => h) hHeld ?_ ?_
                rotate_left
                · intro w hSw
                  go_simp
                  try with_reducible rfl
                try simp only [Act.put, List.setIfInBounds_toArray, List.set_cons_zero, List.set_cons_succ]
                refine take_read (i := 7) (v := ?_) (by simp only [List.getElem?_toArray, List.getElem?_cons_succ, List.getElem?_cons_zero]; rfl) (by kernel_rfl) (by kernel_rfl) (by kernel_rfl) (fun _ _ _ h => h) hHeld ?_ ?_
                rotate_left
                · intro w hSw
                  go_simp
                  try with_reducible rfl
                try simp only [Act.put, List.setIfInBounds_toArray, List.set_cons_zero, List.set_cons_succ]
                refine take_read (i := 8) (v := ?_) (by simp only [List.getElem?_toArray, List.getElem?_cons_succ, List.getElem?_cons_zero]; rfl) (by kernel_rfl) (by kernel_rfl) (by kernel_rfl) (fun _ _ _ h => h) hHeld ?_ ?_
                rotate_left
                · intro w hSw
                  go_simp
                  try with_reducible rfl
                try simp only [Act.put, List.setIfInBounds_toArray, List.set_cons_zero, List.set_cons_succ]
                refine take_read (i := 9) (v := ?_) (by simp only [List.getElem?_toArray, List.getElem?_cons_succ, List.getElem?_cons_zero]; rfl) (by kernel_rfl) (by kernel_rfl) (by kernel_rfl) (fun _ _ _ h => h) hHeld ?_ ?_
                rotate_left
                · intro w hSw
                  go_simp
                  try with_reducible rfl
                try simp only [Act.put, List.setIfInBounds_toArray, List.set_cons_zero, List.set_cons_succ]
                refine wpAnyH_done (by kernel_rfl) ?_ _
                refine NoPanic.normal ?_
                have W3 := Lib.hid (hHeld)
                clear hHeld hch3 k1 k2 k3 k4 k5 d0 d1 d2 d3 d4
                go_wp2
                go_roundw
                case rel => exact ⟨j + 1, by omega, by go_num, by rw [HMn.out, HLn.out]; simp [eOf], HC2.out.then (HW2.out.then W3.out)⟩
                case measure => simp [intOf]; omega
          · obtain rfl : j = k := by omega
            have HR1 : Hid (eOf (M0 || ((entries l 32 8 j).take j).any (meetS s)) (L0 || ((entries l 32 8 j).take j).any (likeB s)) = refE l 32 8 many (j + 1)) := by
              refine Lib.hid ?_
              have e1 := anyK_snoc meetS (entries l 32 8 j) s
              have e2 := anyK_snoc likeB (entries l 32 8 j) s
              rw [entries_len] at e1 e2
              unfold refE
              rw [HENT.out, e1, e2, HM0.out, HL0.out, List.take_of_length_le (by rw [entries_len]; exact Nat.le_refl _), Bool.or_assoc]
            have hqq := HC2.out.heap Q8.out (by simp)
            have d0 := cell_of_heap hqq 0
            have d1 := cell_of_heap hqq 1
            have d2 := cell_of_heap hqq 2
            have d3 := cell_of_heap hqq 3
            have d4 := cell_of_heap hqq 4
            simp at d0 d1 d2 d3 d4
            clear hqq
            have CA := Lib.hid (Hch.out.then (C8.out.then (HC2.out.alloc (.cells #[.int .u32 n1, .int .u32 n2, .int .u64 n3, .int .u64 n4, .int .i64 n5] 52))))
            have BA := Lib.hid (Hbuf.out.pure (C8.out.then (HC2.out.alloc (.cells #[.int .u32 n1, .int .u32 n2, .int .u64 n3, .int .u64 n4, .int .i64 n5] 52))))
            have QA : Hid ((wq.alloc (.cells #[.int .u32 n1, .int .u32 n2, .int .u64 n3, .int .u64 n4, .int .i64 n5] 52)).heap[wq.heap.size]? = some (.cells #[.int .u32 n1, .int .u32 n2, .int .u64 n3, .int .u64 n4, .int .i64 n5] 52 (0, 0))) := Lib.hid (heap_alloc_eq _ _)
            go_wp2_with (at_builtin; refine app_sl rfl _ _ rfl w1.heap.size (.slice a8 j c8) (entries l 32 8 j) rfl BA.out (wq.heap.size) ⟨n1, n2, n3, n4, n5⟩ rfl QA.out (by rw [entries_len]; omega) (by have := CA.out.size; omega) ?_; intro va wa hoa hga; refine Hid.out ?_)
            refine Lib.hid ?_
            have BZ : Hid (SlBuf wa w1.heap.size va (entries l 32 8 (j + 1))) := by
              refine Lib.hid ?_
              rw [HENT.out, HSEX.out]
              exact hoa
            have CZ := Lib.hid (CA.out.trans (Chg.of_grown hga) (fun i hi hlt => by have := World.ownsRow.lt BA.out i (by simpa using hi); omega))
            clear hoa hga
            go_wp2
            go_roundw
            case rel => exact ⟨j + 1, hlt, by go_num, BZ.out, by rw [HR1.out], CZ.out⟩
            case measure => simp [intOf]; omega
      | false =>
        have HX0 : Hid ((4 : Int) = eOf M0 L0) := by
          refine Lib.hid ?_
          rw [hM0, HMS.out, HSA.out, hmb, Bool.and_false]
          rfl
        clear hmb
        have HM0 := Lib.hid hM0
        have HL0 := Lib.hid hL0
        clear hM0 hL0
        go_wp2_with fail
        obtain ⟨wo, rfl⟩ : ∃ wo, wo = wr := ⟨_, rfl⟩
        go_loopw [9, 14] (fun s9 s14 wl => ∃ j : Nat, j ≤ k ∧ s14 = .int .i64 (j : Int) ∧ s9 = .int .i64 (eOf (M0 || ((entries l 32 8 k).take j).any (meetS s)) (L0 || ((entries l 32 8 k).take j).any (likeB s))) ∧ Chg [] r8 wl) (fun _ s14 _ => k - (intOf s14).toNat)
        case atStart => exact ⟨0, Nat.zero_le _, rfl, by rw [HX0.out, List.take_zero, List.any_nil, List.any_nil, Bool.or_false, Bool.or_false], Chg.refl _ _⟩
        case round =>
          obtain ⟨j, hj, rfl, rfl, hch2⟩ := hrel
          obtain ⟨wq, rfl⟩ : ∃ wq, wq = wr := ⟨_, rfl⟩
          have HC2 := Lib.hid (hch2)
          clear hch2
          by_cases hjk : j < k
          · obtain ⟨g0, off0, rfl, _, hcl⟩ := HB8.out (by intro e; have := congrArg List.length e; rw [entries_len] at this; simp at this; omega)
            obtain ⟨h1, h2, h3, h4, h5⟩ := hcl j (by rw [entries_len]; exact hjk)
            obtain ⟨t, ht⟩ : ∃ s, s = (entries l 32 8 k).getD j .zero := ⟨_, rfl⟩
            have HTO : Hid (t.ok) := Lib.hid (entries_ok l 32 8 k (by decide) t (by rw [ht]; simp [List.getD_eq_getElem?_getD, entries_len, hjk]))
            rw [← ht] at h1 h2 h3 h4 h5
            have hMn : (M0 || ((entries l 32 8 k).take (j + 1)).any (meetS s)) = ((M0 || ((entries l 32 8 k).take j).any (meetS s)) || meetS s t) := by rw [take_any _ _ _ (by rw [entries_len]; exact hjk), ht, Bool.or_assoc]
            have hLn : (L0 || ((entries l 32 8 k).take (j + 1)).any (likeB s)) = ((L0 || ((entries l 32 8 k).take j).any (likeB s)) || likeB s t) := by rw [take_any _ _ _ (by rw [entries_len]; exact hjk), ht, Bool.or_assoc]
            have kk := (C8.out).then HC2.out
            have k1 := kk.cell h1 (by simp)
            have k2 := kk.cell h2 (by simp)
            have k3 := kk.cell h3 (by simp)
            have k4 := kk.cell h4 (by simp)
            have k5 := kk.cell h5 (by simp)
            clear h1 h2 h3 h4 h5 ht kk hcl
            obtain ⟨c', u', o', z', g'⟩ := t
            obtain ⟨_, hto2, hto3, hto4, _⟩ := HTO.out
            simp only at k1 k2 k3 k4 k5 hto2 hto3 hto4
            have hqq := HC2.out.heap Q8.out (by simp)
            have d0 := cell_of_heap hqq 0
            have d1 := cell_of_heap hqq 1
            have d2 := cell_of_heap hqq 2
            have d3 := cell_of_heap hqq 3
            have d4 := cell_of_heap hqq 4
            simp at d0 d1 d2 d3 d4
            clear hqq
            have hmc : meetS s ⟨c', u', o', z', g'⟩ = meetN o' z' n3 n4 := by rw [HSEX.out]; exact meetN_comm _ _ _ _
            have hlc : likeB s ⟨c', u', o', z', g'⟩ = likeB ⟨c', u', o', z', g'⟩ ⟨n1, n2, n3, n4, (n5 : Int)⟩ := by rw [HSEX.out]; exact likeB_comm _ _
            have HME := Lib.hid (fun w => RMeet_any o' z' n3 n4 hto3 HN3.out w)
            have HAL := Lib.hid (fun w => Alike_any ⟨c', u', o', z', g'⟩ ⟨n1, n2, n3, n4, (n5 : Int)⟩ w hto2 b2)
            simp only [SL.val] at HAL
            rw [hmc] at hMn
            rw [hlc] at hLn
            generalize meetN o' z' n3 n4 = mm at HME hMn
            generalize likeB ⟨c', u', o', z', g'⟩ ⟨n1, n2, n3, n4, (n5 : Int)⟩ = bl at HAL hLn
            generalize (M0 || ((entries l 32 8 k).take j).any (meetS s)) = Mo at hMn ⊢
            generalize (L0 || ((entries l 32 8 k).take j).any (likeB s)) = Lo at hLn ⊢
            have HMn := Lib.hid hMn
            have HLn := Lib.hid hLn
            clear hMn hLn
            clear hmc hlc hto2 hto3 hto4
            go_wp2_with fail
            refine wp_region_noPanic ?_
            refine wp_region_held_drew (S := fun w' => Chg [] wq w') (by kernel_rfl) ((Chg.refl _ _).drew) (fun hHeld => ?_)
            refine take_read (i := 0) (v := ?_) (by simp only [List.getElem?_toArray, List.getElem?_cons_zero]; rfl) (by kernel_rfl) (by kernel_rfl) (by kernel_rfl) (fun _ _ _ h => h) hHeld ?_ ?_
            rotate_left
            · intro w hSw
              go_simp
              try with_reducible rfl
            try simp only [Act.put, List.setIfInBounds_toArray, List.set_cons_zero, List.set_cons_succ]
            refine take_read (i := 1) (v := ?_) (by simp only [List.getElem?_toArray, List.getElem?_cons_succ, List.getElem?_cons_zero]; rfl) (by kernel_rfl) (by kernel_rfl) (by kernel_rfl) (fun _ _ _ h => h) hHeld ?_ ?_
            rotate_left
            · intro w hSw
              go_simp
              try with_reducible rfl
            try simp only [Act.put, List.setIfInBounds_toArray, List.set_cons_zero, List.set_cons_succ]
            refine take_read (i := 2) (v := ?_) (by simp only [List.getElem?_toArray, List.getElem?_cons_succ, List.getElem?_cons_zero]; rfl) (by kernel_rfl) (by kernel_rfl) (by kernel_rfl) (fun _ _ _ h => h) hHeld ?_ ?_
            rotate_left
            · intro w hSw
              go_simp
              try with_reducible rfl
            try simp only [Act.put, List.setIfInBounds_toArray, List.set_cons_zero, List.set_cons_succ]
            refine take_read (i := 3) (v := ?_) (by simp only [List.getElem?_toArray, List.getElem?_cons_succ, List.getElem?_cons_zero]; rfl) (by kernel_rfl) (by kernel_rfl) (by kernel_rfl) (fun _ _ _ h => h) hHeld ?_ ?_
            rotate_left
            · intro w hSw
              go_simp
              try with_reducible rfl
            try simp only [Act.put, List.setIfInBounds_toArray, List.set_cons_zero, List.set_cons_succ]
            refine take_read (i := 4) (v := ?_) (by simp only [List.getElem?_toArray, List.getElem?_cons_succ, List.getElem?_cons_zero]; rfl) (by kernel_rfl) (by kernel_rfl) (by kernel_rfl) (fun _ _ _ h => h) hHeld ?_ ?_
            rotate_left
            · intro w hSw
              have k3 := (hSw.cell k3 (by simp))
              have k4 := (hSw.cell k4 (by simp))
              go_simp
              try with_reducible rfl
            try simp only [Act.put, List.setIfInBounds_toArray, List.set_cons_zero, List.set_cons_succ]
            refine take_read (i := 5) (v := ?_) (by simp only [List.getElem?_toArray, List.getElem?_cons_succ, List.getElem?_cons_zero]; rfl) (by kernel_rfl) (by kernel_rfl) (by kernel_rfl) (fun _ _ _ h => h) hHeld ?_ ?_
            rotate_left
            · intro w hSw
              go_simp
              try with_reducible rfl
            try simp only [Act.put, List.setIfInBounds_toArray, List.set_cons_zero, List.set_cons_succ]
            refine take_read (i := 6) (v := ?_) (by simp only [List.getElem?_toArray, List.getElem?_cons_succ, List.getElem?_cons_zero]; rfl) (by kernel_rfl) (by kernel_rfl) (by kernel_rfl) (fun _ _ _ h => h) hHeld ?_ ?_
            rotate_left
            · intro w hSw
              have d2 := (hSw.cell d2 (by simp))
              have d3 := (hSw.cell d3 (by simp))
              go_simp
              try with_reducible rfl
            try simp only [Act.put, List.setIfInBounds_toArray, List.set_cons_zero, List.set_cons_succ]
            refine wpAnyH_ready (rs := [7]) (by kernel_rfl) (by simp) ?_
            refine AllReadyH.cons rfl (fun K hK => ?_) AllReadyH.nil
            go_simp
            refine (HME.out _).mono ?_
            rintro e w2 ⟨rfl, hch2⟩
            refine hK.out _ _ (show Chg [] wq w2 from ((Chg.refl _ _).drew).then hch2) (fun _ => ?_)
            clear hK hHeld K
            have hHeld := (show Chg [] wq w2 from ((Chg.refl _ _).drew).then hch2)
            try (unfold Act.put; simp only [List.setIfInBounds_toArray, List.set_cons_zero, List.set_cons_succ])
            refine wpAnyH_done (by kernel_rfl) ?_ _
            refine NoPanic.normal ?_
            have HW2 := Lib.hid (hHeld)
            replace k1 := hHeld.cell k1 (by simp)
            replace k2 := hHeld.cell k2 (by simp)
            replace k3 := hHeld.cell k3 (by simp)
            replace k4 := hHeld.cell k4 (by simp)
            replace k5 := hHeld.cell k5 (by simp)
            replace d0 := hHeld.cell d0 (by simp)
            replace d1 := hHeld.cell d1 (by simp)
            replace d2 := hHeld.cell d2 (by simp)
            replace d3 := hHeld.cell d3 (by simp)
            replace d4 := hHeld.cell d4 (by simp)
            clear hHeld hch2
            cases mm
            · cases Mo
              · cases Lo
                · rw [show eOf false false = 0 from rfl]
                  cases bl
                  · skip
                    go_wp2_with fail
                    refine wp_region_noPanic ?_
                    refine wp_region_held_drew (S := fun w' => Chg [] w2 w') (by kernel_rfl) ((Chg.refl _ _).drew) (fun hHeld => ?_)
                    refine take_read (i := 0) (v := ?_) (by simp only [List.getElem?_toArray, List.getElem?_cons_zero]; rfl) (by kernel_rfl) (by kernel_rfl) (by kernel_rfl) (fun _ _ _ h => h) hHeld ?_ ?_
                    rotate_left
                    · intro w hSw
                      go_simp
                      try with_reducible rfl
                    try simp only [Act.put, List.setIfInBounds_toArray, List.set_cons_zero, List.set_cons_succ]
                    refine take_read (i := 1) (v := ?_) (by simp only [List.getElem?_toArray, List.getElem?_cons_succ, List.getElem?_cons_zero]; rfl) (by kernel_rfl) (by kernel_rfl) (by kernel_rfl) (fun _ _ _ h => h) hHeld ?_ ?_
                    rotate_left
                    · intro w hSw
                      go_simp
                      try with_reducible rfl
                    try simp only [Act.put, List.setIfInBounds_toArray, List.set_cons_zero, List.set_cons_succ]
                    refine take_read (i := 2) (v := ?_) (by simp only [List.getElem?_toArray, List.getElem?_cons_succ, List.getElem?_cons_zero]; rfl) (by kernel_rfl) (by kernel_rfl) (by kernel_rfl) (fun _ _ _ h => h) hHeld ?_ ?_
                    rotate_left
                    · intro w hSw
                      go_simp
                      try with_reducible rfl
                    try simp only [Act.put, List.setIfInBounds_toArray, List.set_cons_zero, List.set_cons_succ]
                    refine take_read (i := 3) (v := ?_) (by simp only [List.getElem?_toArray, List.getElem?_cons_succ, List.getElem?_cons_zero]; rfl) (by kernel_rfl) (by kernel_rfl) (by kernel_rfl) (fun _ _ _ h => h) hHeld ?_ ?_
                    rotate_left
                    · intro w hSw
                      have k1 := (hSw.cell k1 (by simp))
                      have k2 := (hSw.cell k2 (by simp))
                      have k3 := (hSw.cell k3 (by simp))
                      have k4 := (hSw.cell k4 (by simp))
                      have k5 := (hSw.cell k5 (by simp))
                      go_simp
                      try with_reducible rfl
                    try simp only [Act.put, List.setIfInBounds_toArray, List.set_cons_zero, List.set_cons_succ]
                    refine take_read (i := 4) (v := ?_) (by simp only [List.getElem?_toArray, List.getElem?_cons_succ, List.getElem?_cons_zero]; rfl) (by kernel_rfl) (by kernel_rfl) (by kernel_rfl) (fun _ _ _ h => h) hHeld ?_ ?_
                    rotate_left
                    · intro w hSw
                      have d0 := (hSw.cell d0 (by simp))
                      have d1 := (hSw.cell d1 (by simp))
                      have d2 := (hSw.cell d2 (by simp))
                      have d3 := (hSw.cell d3 (by simp))
                      have d4 := (hSw.cell d4 (by simp))
                      go_simp
                      try with_reducible rfl
                    try simp only [Act.put, List.setIfInBounds_toArray, List.set_cons_zero, List.set_cons_succ]
                    refine wpAnyH_ready (rs := [5]) (by kernel_rfl) (by simp) ?_
                    refine AllReadyH.cons rfl (fun K hK => ?_) AllReadyH.nil
                    go_simp
                    refine (HAL.out _).mono ?_
                    rintro e w3 ⟨rfl, hch3⟩
                    refine hK.out _ _ (show Chg [] w2 w3 from ((Chg.refl _ _).drew).then hch3) (fun _ => ?_)
                    clear hK hHeld K
                    have hHeld := (show Chg [] w2 w3 from ((Chg.refl _ _).drew).then hch3)
                    try (unfold Act.put; simp only [List.setIfInBounds_toArray, List.set_cons_zero, List.set_cons_succ])
                    refine take_read (i := 6) (v := ?_) (by simp only [List.getElem?_toArray, List.getElem?_cons_succ, List.getElem?_cons_zero]; rfl) (by kernel_rfl) (by kernel_rfl) (by kernel_rfl) (fun _ _ _ h => h) hHeld ?_ ?_
                    rotate_left
                    · intro w hSw
                      go_simp
                      try with_reducible rfl
                    try simp only [Act.put, List.setIfInBounds_toArray, List.set_cons_zero, List.set_cons_succ]
                    refine take_read (i := 7) (v := ?_) (by simp only [List.getElem?_toArray, List.getElem?_cons_succ, List.getElem?_cons_zero]; rfl) (by kernel_rfl) (by kernel_rfl) (by kernel_rfl) (fun _ _ _ h => h) hHeld ?_ ?_
                    rotate_left
                    · intro w hSw
                      go_simp
                      try with_reducible rfl
                    try simp only [Act.put, List.setIfInBounds_toArray, List.set_cons_zero, List.set_cons_succ]
                    refine take_read (i := 8) (v := ?_) (by simp only [List.getElem?_toArray, List.getElem?_cons_succ, List.getElem?_cons_zero]; rfl) (by kernel_rfl) (by kernel_rfl) (by kernel_rfl) (fun _ _ _ h => h) hHeld ?_ ?_
                    rotate_left
                    · intro w hSw
                      go_simp
                      try with_reducible rfl
                    try simp only [Act.put, List.setIfInBounds_toArray, List.set_cons_zero, List.set_cons_succ]
                    refine take_read (i := 9) (v := ?_) (by simp only [List.getElem?_toArray, List.getElem?_cons_succ, List.getElem?_cons_zero]; rfl) (by kernel_rfl) (by kernel_rfl) (by kernel_rfl) (fun _ _ _ h => h) hHeld ?_ ?_
                    rotate_left
                    · intro w hSw
                      go_simp
                      try with_reducible rfl
                    try simp only [Act.put, List.setIfInBounds_toArray, List.set_cons_zero, List.set_cons_succ]
                    refine wpAnyH_done (by kernel_rfl) ?_ _
                    refine NoPanic.normal ?_
                    have W3 := Lib.hid (hHeld)
                    clear hHeld hch3 k1 k2 k3 k4 k5 d0 d1 d2 d3 d4
                    go_wp2
                    go_roundw
                    case rel => exact ⟨j + 1, by omega, by go_num, by rw [HMn.out, HLn.out]; simp [eOf], HC2.out.then (HW2.out.then W3.out)⟩
                    case measure => simp [intOf]; omega
                  · skip
                    go_wp2_with fail
                    refine wp_region_noPanic ?_
                    refine wp_region_held_drew (S := fun w' => Chg [] w2 w') (by kernel_rfl) ((Chg.refl _ _).drew) (fun hHeld => ?_)
                    refine take_read (i := 0) (v := ?_) (by simp only [List.getElem?_toArray, List.getElem?_cons_zero]; rfl) (by kernel_rfl) (by kernel_rfl) (by kernel_rfl) (fun _ _ _ h => h) hHeld ?_ ?_
                    rotate_left
                    · intro w hSw
                      go_simp
                      try with_reducible rfl
                    try simp only [Act.put, List.setIfInBounds_toArray, List.set_cons_zero, List.set_cons_succ]
                    refine take_read (i := 1) (v := ?_) (by simp only [List.getElem?_toArray, List.getElem?_cons_succ, List.getElem?_cons_zero]; rfl) (by kernel_rfl) (by kernel_rfl) (by kernel_rfl) (fun _ _ _ h => h) hHeld ?_ ?_
                    rotate_left
                    · intro w hSw
                      go_simp
                      try with_reducible rfl
                    try simp only [Act.put, List.setIfInBounds_toArray, List.set_cons_zero, List.set_cons_succ]
                    refine take_read (i := 2) (v := ?_) (by simp only [List.getElem?_toArray, List.getElem?_cons_succ, List.getElem?_cons_zero]; rfl) (by kernel_rfl) (by kernel_rfl) (by kernel_rfl) (fun _ _ _ h => h) hHeld ?_ ?_
                    rotate_left
                    · intro w hSw
                      go_simp
                      try with_reducible rfl
                    try simp only [Act.put, List.setIfInBounds_toArray, List.set_cons_zero, List.set_cons_succ]
                    refine take_read (i := 3) (v := ?_) (by simp only [List.getElem?_toArray, List.getElem?_cons_succ, List.getElem?_cons_zero]; rfl) (by kernel_rfl) (by kernel_rfl) (by kernel_rfl) (fun _ _ _ h => h) hHeld ?_ ?_
                    rotate_left
                    · intro w hSw
                      have k1 := (hSw.cell k1 (by simp))
                      have k2 := (hSw.cell k2 (by simp))
                      have k3 := (hSw.cell k3 (by simp))
                      have k4 := (hSw.cell k4 (by simp))
                      have k5 := (hSw.cell k5 (by simp))
                      go_simp
                      try with_reducible rfl
                    try simp only [Act.put, List.setIfInBounds_toArray, List.set_cons_zero, List.set_cons_succ]
                    refine take_read (i := 4) (v := ?_) (by simp only [List.getElem?_toArray, List.getElem?_cons_succ, List.getElem?_cons_zero]; rfl) (by kernel_rfl) (by kernel_rfl) (by kernel_rfl) (fun _ _ _ h => h) hHeld ?_ ?_
                    rotate_left
                    · intro w hSw
                      have d0 := (hSw.cell d0 (by simp))
                      have d1 := (hSw.cell d1 (by simp))
                      have d2 := (hSw.cell d2 (by simp))
                      have d3 := (hSw.cell d3 (by simp))
                      have d4 := (hSw.cell d4 (by simp))
                      go_simp
                      try with_reducible rfl
                    try simp only [Act.put, List.setIfInBounds_toArray, List.set_cons_zero, List.set_cons_succ]
                    refine wpAnyH_ready (rs := [5]) (by kernel_rfl) (by simp) ?_
                    refine AllReadyH.cons rfl (fun K hK => ?_) AllReadyH.nil
                    go_simp
                    refine (HAL.out _).mono ?_
                    rintro e w3 ⟨rfl, hch3⟩
                    refine hK.out _ _ (show Chg [] w2 w3 from ((Chg.refl _ _).drew).then hch3) (fun _ => ?_)
                    clear hK hHeld K
                    have hHeld := (show Chg [] w2 w3 from ((Chg.refl _ _).drew).then hch3)
                    try (unfold Act.put; simp only [List.setIfInBounds_toArray, List.set_cons_zero, List.set_cons_succ])
                    refine take_read (i := 6) (v := ?_) (by simp only [List.getElem?_toArray, List.getElem?_cons_succ, List.getElem?_cons_zero]; rfl) (by kernel_rfl) (by kernel_rfl) (by kernel_rfl) (fun _ _ _ h => h) hHeld ?_ ?_
                    rotate_left
                    · intro w hSw
                      go_simp
                      try with_reducible rfl
                    try simp only [Act.put, List.setIfInBounds_toArray, List.set_cons_zero, List.set_cons_succ]
                    refine take_read (i := 7) (v := ?_) (by simp only [List.getElem?_toArray, List.getElem?_cons_succ, List.getElem?_cons_zero]; rfl) (by kernel_rfl) (by kernel_rfl) (by kernel_rfl) (fun _ _ _ h => h) hHeld ?_ ?_
                    rotate_left
                    · intro w hSw
                      go_simp
                      try with_reducible rfl
                    try simp only [Act.put, List.setIfInBounds_toArray, List.set_cons_zero, List.set_cons_succ]
                    refine take_read (i := 8) (v := ?_) (by simp only [List.getElem?_toArray, List.getElem?_cons_succ, List.getElem?_cons_zero]; rfl) (by kernel_rfl) (by kernel_rfl) (by kernel_rfl) (fun _ _ _ h => h) hHeld ?_ ?_
                    rotate_left
                    · intro w hSw
                      go_simp
                      try with_reducible rfl
                    try simp only [Act.put, List.setIfInBounds_toArray, List.set_cons_zero, List.set_cons_succ]
                    refine take_read (i := 9) (v := ?_) (by simp only [List.getElem?_toArray, List.getElem?_cons_succ, List.getElem?_cons_zero]; rfl) (by kernel_rfl) (by kernel_rfl) (by kernel_rfl) (fun _ _ _ h => h) hHeld ?_ ?_
                    rotate_left
                    · intro w hSw
                      go_simp
                      try with_reducible rfl
                    try simp only [Act.put, List.setIfInBounds_toArray, List.set_cons_zero, List.set_cons_succ]
                    refine wpAnyH_done (by kernel_rfl) ?_ _
                    refine NoPanic.normal ?_
                    have W3 := Lib.hid (hHeld)
                    clear hHeld hch3 k1 k2 k3 k4 k5 d0 d1 d2 d3 d4
                    go_wp2
                    go_roundw
                    case rel => exact ⟨j + 1, by omega, by go_num, by rw [HMn.out, HLn.out]; simp [eOf], HC2.out.then (HW2.out.then W3.out)⟩
                    case measure => simp [intOf]; omega
                · rw [show eOf false true = 21 from rfl]
                  cases bl
                  · skip
                    go_wp2_with fail
                    refine wp_region_noPanic ?_
                    refine wp_region_held_drew (S := fun w' => Chg [] w2 w') (by kernel_rfl) ((Chg.refl _ _).drew) (fun hHeld => ?_)
                    refine take_read (i := 0) (v := ?_) (by simp only [List.getElem?_toArray, List.getElem?_cons_zero]; rfl) (by kernel_rfl) (by kernel_rfl) (by kernel_rfl) (fun _ _ _ h => h) hHeld ?_ ?_
                    rotate_left
                    · intro w hSw
                      go_simp
                      try with_reducible rfl
                    try simp only [Act.put, List.setIfInBounds_toArray, List.set_cons_zero, List.set_cons_succ]
                    refine take_read (i := 1) (v := ?_) (by simp only [List.getElem?_toArray, List.getElem?_cons_succ, List.getElem?_cons_zero]; rfl) (by kernel_rfl) (by kernel_rfl) (by kernel_rfl) (fun _ _ _ h => h) hHeld ?_ ?_
                    rotate_left
                    · intro w hSw
                      go_simp
                      try with_reducible rfl
                    try simp only [Act.put, List.setIfInBounds_toArray, List.set_cons_zero, List.set_cons_succ]
                    refine take_read (i := 2) (v := ?_) (by simp only [List.getElem?_toArray, List.getElem?_cons_succ, List.getElem?_cons_zero]; rfl) (by kernel_rfl) (by kernel_rfl) (by kernel_rfl) (fun _ _ _ h => h) hHeld ?_ ?_
                    rotate_left
                    · intro w hSw
                      go_simp
                      try with_reducible rfl
                    try simp only [Act.put, List.setIfInBounds_toArray, List.set_cons_zero, List.set_cons_succ]
                    refine take_read (i := 3) (v := ?_) (by simp only [List.getElem?_toArray, List.getElem?_cons_succ, List.getElem?_cons_zero]; rfl) (by kernel_rfl) (by kernel_rfl) (by kernel_rfl) (fun _ _ _ h => h) hHeld ?_ ?_
                    rotate_left
                    · intro w hSw
                      have k1 := (hSw.cell k1 (by simp))
                      have k2 := (hSw.cell k2 (by simp))
                      have k3 := (hSw.cell k3 (by simp))
                      have k4 := (hSw.cell k4 (by simp))
                      have k5 := (hSw.cell k5 (by simp))
                      go_simp
                      try with_reducible rfl
                    try simp only [Act.put, List.setIfInBounds_toArray, List.set_cons_zero, List.set_cons_succ]
                    refine take_read (i := 4) (v := ?_) (by simp only [List.getElem?_toArray, List.getElem?_cons_succ, List.getElem?_cons_zero]; rfl) (by kernel_rfl) (by kernel_rfl) (by kernel_rfl) (fun _ _ _ h => h) hHeld ?_ ?_
                    rotate_left
                    · intro w hSw
                      have d0 := (hSw.cell d0 (by simp))
                      have d1 := (hSw.cell d1 (by simp))
                      have d2 := (hSw.cell d2 (by simp))
                      have d3 := (hSw.cell d3 (by simp))
                      have d4 := (hSw.cell d4 (by simp))
                      go_simp
                      try with_reducible rfl
                    try simp only [Act.put, List.setIfInBounds_toArray, List.set_cons_zero, List.set_cons_succ]
                    refine wpAnyH_ready (rs := [5]) (by kernel_rfl) (by simp) ?_
                    refine AllReadyH.cons rfl (fun K hK => ?_) AllReadyH.nil
                    go_simp
                    refine (HAL.out _).mono ?_
                    rintro e w3 ⟨rfl, hch3⟩
                    refine hK.out _ _ (show Chg [] w2 w3 from ((Chg.refl _ _).drew).then hch3) (fun _ => ?_)
                    clear hK hHeld K
                    have hHeld := (show Chg [] w2 w3 from ((Chg.refl _ _).drew).then hch3)
                    try (unfold Act.put; simp only [List.setIfInBounds_toArray, List.set_cons_zero, List.set_cons_succ])
                    refine take_read (i := 6) (v := ?_) (by simp only [List.getElem?_toArray, List.getElem?_cons_succ, List.getElem?_cons_zero]; rfl) (by kernel_rfl) (by kernel_rfl) (by kernel_rfl) (fun _ _ _ h => h) hHeld ?_ ?_
                    rotate_left
                    · intro w hSw
                      go_simp
                      try with_reducible rfl
                    try simp only [Act.put, List.setIfInBounds_toArray, List.set_cons_zero, List.set_cons_succ]
                    refine take_read (i := 7) (v := ?_) (by simp only [List.getElem?_toArray, List.getElem?_cons_succ, List.getElem?_cons_zero]; rfl) (by kernel_rfl) (by kernel_rfl) (by kernel_rfl) (fun _ _ _ h => h) hHeld ?_ ?_
                    rotate_left
                    · intro w hSw
                      go_simp
                      try with_reducible rfl
                    try simp only [Act.put, List.setIfInBounds_toArray, List.set_cons_zero, List.set_cons_succ]
                    refine take_read (i := 8) (v := ?_) (by simp only [List.getElem?_toArray, List.getElem?_cons_succ, List.getElem?_cons_zero]; rfl) (by kernel_rfl) (by kernel_rfl) (by kernel_rfl) (fun _ _ _ h => h) hHeld ?_ ?_
                    rotate_left
                    · intro w hSw
                      go_simp
                      try with_reducible rfl
                    try simp only [Act.put, List.setIfInBounds_toArray, List.set_cons_zero, List.set_cons_succ]
                    refine take_read (i := 9) (v := ?_) (by simp only [List.getElem?_toArray, List.getElem?_cons_succ, List.getElem?_cons_zero]; rfl) (by kernel_rfl) (by kernel_rfl) (by kernel_rfl) (fun _ _ _ h => h) hHeld ?_ ?_
                    rotate_left
                    · intro w hSw
                      go_simp
                      try with_reducible rfl
                    try simp only [Act.put, List.setIfInBounds_toArray, List.set_cons_zero, List.set_cons_succ]
                    refine wpAnyH_done (by kernel_rfl) ?_ _
                    refine NoPanic.normal ?_
                    have W3 := Lib.hid (hHeld)
                    clear hHeld hch3 k1 k2 k3 k4 k5 d0 d1 d2 d3 d4
                    go_wp2
                    go_roundw
                    case rel => exact ⟨j + 1, by omega, by go_num, by rw [HMn.out, HLn.out]; simp [eOf], HC2.out.then (HW2.out.then W3.out)⟩
                    case measure => simp [intOf]; omega
                  · skip
                    go_wp2_with fail
                    refine wp_region_noPanic ?_
                    refine wp_region_held_drew (S := fun w' => Chg [] w2 w') (by kernel_rfl) ((Chg.refl _ _).drew) (fun hHeld => ?_)
                    refine take_read (i := 0) (v := ?_) (by simp only [List.getElem?_toArray, List.getElem?_cons_zero]; rfl) (by kernel_rfl) (by kernel_rfl) (by kernel_rfl) (fun _ _ _ h => h) hHeld ?_ ?_
                    rotate_left
                    · intro w hSw
                      go_simp
                      try with_reducible rfl
                    try simp only [Act.put, List.setIfInBounds_toArray, List.set_cons_zero, List.set_cons_succ]
                    refine take_read (i := 1) (v := ?_) (by simp only [List.getElem?_toArray, List.getElem?_cons_succ, List.getElem?_cons_zero]; rfl) (by kernel_rfl) (by kernel_rfl) (by kernel_rfl) (fun _ _ _ h => h) hHeld ?_ ?_
                    rotate_left
                    · intro w hSw
                      go_simp
                      try with_reducible rfl
                    try simp only [Act.put, List.setIfInBounds_toArray, List.set_cons_zero, List.set_cons_succ]
                    refine take_read (i := 2) (v := ?_) (by simp only [List.getElem?_toArray, List.getElem?_cons_succ, List.getElem?_cons_zero]; rfl) (by kernel_rfl) (by kernel_rfl) (by kernel_rfl) (fun _ _ _ h => h) hHeld ?_ ?_
                    rotate_left
                    · intro w hSw
                      go_simp
                      try with_reducible rfl
                    try simp only [Act.put, List.setIfInBounds_toArray, List.set_cons_zero, List.set_cons_succ]
                    refine take_read (i := 3) (v := ?_) (by simp only [List.getElem?_toArray, List.getElem?_cons_succ, List.getElem?_cons_zero]; rfl) (by kernel_rfl) (by kernel_rfl) (by kernel_rfl) (fun _ _ _ h => h) hHeld ?_ ?_
                    rotate_left
                    · intro w hSw
                      have k1 := (hSw.cell k1 (by simp))
                      have k2 := (hSw.cell k2 (by simp))
                      have k3 := (hSw.cell k3 (by simp))
                      have k4 := (hSw.cell k4 (by simp))
                      have k5 := (hSw.cell k5 (by simp))
                      go_simp
                      try with_reducible rfl
                    try simp only [Act.put, List.setIfInBounds_toArray, List.set_cons_zero, List.set_cons_succ]
                    refine take_read (i := 4) (v := ?_) (by simp only [List.getElem?_toArray, List.getElem?_cons_succ, List.getElem?_cons_zero]; rfl) (by kernel_rfl) (by kernel_rfl) (by kernel_rfl) (fun _ _ _ h => h) hHeld ?_ ?_
                    rotate_left
                    · intro w hSw
                      have d0 := (hSw.cell d0 (by simp))
                      have d1 := (hSw.cell d1 (by simp))
                      have d2 := (hSw.cell d2 (by simp))
                      have d3 := (hSw.cell d3 (by simp))
                      have d4 := (hSw.cell d4 (by simp))
                      go_simp
                      try with_reducible rfl
                    try simp only [Act.put, List.setIfInBounds_toArray, List.set_cons_zero, List.set_cons_succ]
                    refine wpAnyH_ready (rs := [5]) (by kernel_rfl) (by simp) ?_
                    refine AllReadyH.cons rfl (fun K hK => ?_) AllReadyH.nil
                    go_simp
                    refine (HAL.out _).mono ?_
                    rintro e w3 ⟨rfl, hch3⟩
                    refine hK.out _ _ (show Chg [] w2 w3 from ((Chg.refl _ _).drew).then hch3) (fun _ => ?_)
                    clear hK hHeld K
                    have hHeld := (show Chg [] w2 w3 from ((Chg.refl _ _).drew).then hch3)
                    try (unfold Act.put; simp only [List.setIfInBounds_toArray, List.set_cons_zero, List.set_cons_succ])
                    refine take_read (i := 6) (v := ?_) (by simp only [List.getElem?_toArray, List.getElem?_cons_succ, List.getElem?_cons_zero]; rfl) (by kernel_rfl) (by kernel_rfl) (by kernel_rfl) (fun _ _ _ h => h) hHeld ?_ ?_
                    rotate_left
                    · intro w hSw
                      go_simp
                      try with_reducible rfl
                    try simp only [Act.put, List.setIfInBounds_toArray, List.set_cons_zero, List.set_cons_succ]
                    refine take_read (i := 7) (v := ?_) (by simp only [List.getElem?_toArray, List.getElem?_cons_succ, List.getElem?_cons_zero]; rfl) (by kernel_rfl) (by kernel_rfl) (by kernel_rfl) (fun _ _ _ h => h) hHeld ?_ ?_
                    rotate_left
                    · intro w hSw
                      go_simp
                      try with_reducible rfl
                    try simp only [Act.put, List.setIfInBounds_toArray, List.set_cons_zero, List.set_cons_succ]
                    refine take_read (i := 8) (v := ?_) (by simp only [List.getElem?_toArray, List.getElem?_cons_succ, List.getElem?_cons_zero]; rfl) (by kernel_rfl) (by kernel_rfl) (by kernel_rfl) (fun _ _ _ h => h) hHeld ?_ ?_
                    rotate_left
                    · intro w hSw
                      go_simp
                      try with_reducible rfl
                    try simp only [Act.put, List.setIfInBounds_toArray, List.set_cons_zero, List.set_cons_succ]
                    refine take_read (i := 9) (v := ?_) (by simp only [List.getElem?_toArray, List.getElem?_cons_succ, List.getElem?_cons_zero]; rfl) (by kernel_rfl) (by kernel_rfl) (by kernel_rfl) (fun _ _ _ h => h) hHeld ?_ ?_
                    rotate_left
                    · intro w hSw
                      go_simp
                      try with_reducible rfl
                    try simp only [Act.put, List.setIfInBounds_toArray, List.set_cons_zero, List.set_cons_succ]
                    refine wpAnyH_done (by kernel_rfl) ?_ _
                    refine NoPanic.normal ?_
                    have W3 := Lib.hid (hHeld)
                    clear hHeld hch3 k1 k2 k3 k4 k5 d0 d1 d2 d3 d4
                    go_wp2
                    go_roundw
                    case rel => exact ⟨j + 1, by omega, by go_num, by rw [HMn.out, HLn.out]; simp [eOf], HC2.out.then (HW2.out.then W3.out)⟩
                    case measure => simp [intOf]; omega
              · rw [show eOf true Lo = 4 from rfl]
                cases bl
                · skip
                  go_wp2_with fail
                  refine wp_region_noPanic ?_
                  refine wp_region_held_drew (S := fun w' => Chg [] w2 w') (by kernel_rfl) ((Chg.refl _ _).drew) (fun hHeld => ?_)
                  refine take_read (i := 0) (v := ?_) (by simp only [List.getElem?_toArray, List.getElem?_cons_zero]; rfl) (by kernel_rfl) (by kernel_rfl) (by kernel_rfl) (fun _ _ _ h => h) hHeld ?_ ?_
                  rotate_left
                  · intro w hSw
                    go_simp
                    try with_reducible rfl
                  try simp only [Act.put, List.setIfInBounds_toArray, List.set_cons_zero, List.set_cons_succ]
                  refine take_read (i := 1) (v := ?_) (by simp only [List.getElem?_toArray, List.getElem?_cons_succ, List.getElem?_cons_zero]; rfl) (by kernel_rfl) (by kernel_rfl) (by kernel_rfl) (fun _ _ _ h => h) hHeld ?_ ?_
                  rotate_left
                  · intro w hSw
                    go_simp
                    try with_reducible rfl
                  try simp only [Act.put, List.setIfInBounds_toArray, List.set_cons_zero, List.set_cons_succ]
                  refine take_read (i := 2) (v := ?_) (by simp only [List.getElem?_toArray, List.getElem?_cons_succ, List.getElem?_cons_zero]; rfl) (by kernel_rfl) (by kernel_rfl) (by kernel_rfl) (fun _ _ _ h => h) hHeld ?_ ?_
                  rotate_left
                  · intro w hSw
                    go_simp
                    try with_reducible rfl
                  try simp only [Act.put, List.setIfInBounds_toArray, List.set_cons_zero, List.set_cons_succ]
                  refine take_read (i := 3) (v := ?_) (by simp only [List.getElem?_toArray, List.getElem?_cons_succ, List.getElem?_cons_zero]; rfl) (by kernel_rfl) (by kernel_rfl) (by kernel_rfl) (fun _ _ _ h => h) hHeld ?_ ?_
                  rotate_left
                  · intro w hSw
                    have k1 := (hSw.cell k1 (by simp))
                    have k2 := (hSw.cell k2 (by simp))
                    have k3 := (hSw.cell k3 (by simp))
                    have k4 := (hSw.cell k4 (by simp))
                    have k5 := (hSw.cell k5 (by simp))
                    go_simp
                    try with_reducible rfl
                  try simp only [Act.put, List.setIfInBounds_toArray, List.set_cons_zero, List.set_cons_succ]
                  refine take_read (i := 4) (v := ?_) (by simp only [List.getElem?_toArray, List.getElem?_cons_succ, List.getElem?_cons_zero]; rfl) (by kernel_rfl) (by kernel_rfl) (by kernel_rfl) (fun _ _ _ h => h) hHeld ?_ ?_
                  rotate_left
                  · intro w hSw
                    have d0 := (hSw.cell d0 (by simp))
                    have d1 := (hSw.cell d1 (by simp))
                    have d2 := (hSw.cell d2 (by simp))
                    have d3 := (hSw.cell d3 (by simp))
                    have d4 := (hSw.cell d4 (by simp))
                    go_simp
                    try with_reducible rfl
                  try simp only [Act.put, List.setIfInBounds_toArray, List.set_cons_zero, List.set_cons_succ]
                  refine wpAnyH_ready (rs := [5]) (by kernel_rfl) (by simp) ?_
                  refine AllReadyH.cons rfl (fun K hK => ?_) AllReadyH.nil
                  go_simp
                  refine (HAL.out _).mono ?_
                  rintro e w3 ⟨rfl, hch3⟩
                  refine hK.out _ _ (show Chg [] w2 w3 from ((Chg.refl _ _).drew).then hch3) (fun _ => ?_)
                  clear hK hHeld K
                  have hHeld := (show Chg [] w2 w3 from ((Chg.refl _ _).drew).then hch3)
                  try (unfold Act.put; simp only [List.setIfInBounds_toArray, List.set_cons_zero, List.set_cons_succ])
                  refine take_read (i := 6) (v := ?_) (by simp only [List.getElem?_toArray, List.getElem?_cons_succ, List.getElem?_cons_zero]; rfl) (by kernel_rfl) (by kernel_rfl) (by kernel_rfl) (fun _ _ _ h => h) hHeld ?_ ?_
                  rotate_left
                  · intro w hSw
                    go_simp
                    try with_reducible rfl
                  try simp only [Act.put, List.setIfInBounds_toArray, List.set_cons_zero, List.set_cons_succ]
                  refine take_read (i := 7) (v := ?_) (by simp only [List.getElem?_toArray, List.getElem?_cons_succ, List.getElem?_cons_zero]; rfl) (by kernel_rfl) (by kernel_rfl) (by kernel_rfl) (fun _ _ _ h => h) hHeld ?_ ?_
                  rotate_left
                  · intro w hSw
                    go_simp
                    try with_reducible rfl
                  try simp only [Act.put, List.setIfInBounds_toArray, List.set_cons_zero, List.set_cons_succ]
                  refine take_read (i := 8) (v := ?_) (by simp only [List.getElem?_toArray, List.getElem?_cons_succ, List.getElem?_cons_zero]; rfl) (by kernel_rfl) (by kernel_rfl) (by kernel_rfl) (fun _ _ _ h => h) hHeld ?_ ?_
                  rotate_left
                  · intro w hSw
                    go_simp
                    try with_reducible rfl
                  try simp only [Act.put, List.setIfInBounds_toArray, List.set_cons_zero, List.set_cons_succ]
                  refine take_read (i := 9) (v := ?_) (by simp only [List.getElem?_toArray, List.getElem?_cons_succ, List.getElem?_cons_zero]; rfl) (by kernel_rfl) (by kernel_rfl) (by kernel_rfl) (fun _ _ _ h => h) hHeld ?_ ?_
                  rotate_left
                  · intro w hSw
                    go_simp
                    try with_reducible rfl
                  try simp only [Act.put, List.setIfInBounds_toArray, List.set_cons_zero, List.set_cons_succ]
                  refine wpAnyH_done (by kernel_rfl) ?_ _
                  refine NoPanic.normal ?_
                  have W3 := Lib.hid (hHeld)
                  clear hHeld hch3 k1 k2 k3 k4 k5 d0 d1 d2 d3 d4
                  go_wp2
                  go_roundw
                  case rel => exact ⟨j + 1, by omega, by go_num, by rw [HMn.out, HLn.out]; simp [eOf], HC2.out.then (HW2.out.then W3.out)⟩
                  case measure => simp [intOf]; omega
                · skip
                  go_wp2_with fail
                  refine wp_region_noPanic ?_
                  refine wp_region_held_drew (S := fun w' => Chg [] w2 w') (by kernel_rfl) ((Chg.refl _ _).drew) (fun hHeld => ?_)
                  refine take_read (i := 0) (v := ?_) (by simp only [List.getElem?_toArray, List.getElem?_cons_zero]; rfl) (by kernel_rfl) (by kernel_rfl) (by kernel_rfl) (fun _ _ _ h => h) hHeld ?_ ?_
                  rotate_left
                  · intro w hSw
                    go_simp
                    try with_reducible rfl
                  try simp only [Act.put, List.setIfInBounds_toArray, List.set_cons_zero, List.set_cons_succ]
                  refine take_read (i := 1) (v := ?_) (by simp only [List.getElem?_toArray, List.getElem?_cons_succ, List.getElem?_cons_zero]; rfl) (by kernel_rfl) (by kernel_rfl) (by kernel_rfl) (fun _ _ _ h => h) hHeld ?_ ?_
                  rotate_left
                  · intro w hSw
                    go_simp
                    try with_reducible rfl
                  try simp only [Act.put, List.setIfInBounds_toArray, List.set_cons_zero, List.set_cons_succ]
                  refine take_read (i := 2) (v := ?_) (by simp only [List.getElem?_toArray, List.getElem?_cons_succ, List.getElem?_cons_zero]; rfl) (by kernel_rfl) (by kernel_rfl) (by kernel_rfl) (fun _ _ _ h => h) hHeld ?_ ?_
                  rotate_left
                  · intro w hSw
                    go_simp
                    try with_reducible rfl
                  try simp only [Act.put, List.setIfInBounds_toArray, List.set_cons_zero, List.set_cons_succ]
                  refine take_read (i := 3) (v := ?_) (by simp only [List.getElem?_toArray, List.getElem?_cons_succ, List.getElem?_cons_zero]; rfl) (by kernel_rfl) (by kernel_rfl) (by kernel_rfl) (fun _ _ _ h => h) hHeld ?_ ?_
                  rotate_left
                  · intro w hSw
                    have k1 := (hSw.cell k1 (by simp))
                    have k2 := (hSw.cell k2 (by simp))
                    have k3 := (hSw.cell k3 (by simp))
                    have k4 := (hSw.cell k4 (by simp))
                    have k5 := (hSw.cell k5 (by simp))
                    go_simp
                    try with_reducible rfl
                  try simp only [Act.put, List.setIfInBounds_toArray, List.set_cons_zero, List.set_cons_succ]
                  refine take_read (i := 4) (v := ?_) (by simp only [List.getElem?_toArray, List.getElem?_cons_succ, List.getElem?_cons_zero]; rfl) (by kernel_rfl) (by kernel_rfl) (by kernel_rfl) (fun _ _ _ h => h) hHeld ?_ ?_
                  rotate_left
                  · intro w hSw
                    have d0 := (hSw.cell d0 (by simp))
                    have d1 := (hSw.cell d1 (by simp))
                    have d2 := (hSw.cell d2 (by simp))
                    have d3 := (hSw.cell d3 (by simp))
                    have d4 := (hSw.cell d4 (by simp))
                    go_simp
                    try with_reducible rfl
                  try simp only [Act.put, List.setIfInBounds_toArray, List.set_cons_zero, List.set_cons_succ]
                  refine wpAnyH_ready (rs := [5]) (by kernel_rfl) (by simp) ?_
                  refine AllReadyH.cons rfl (fun K hK => ?_) AllReadyH.nil
                  go_simp
                  refine (HAL.out _).mono ?_
                  rintro e w3 ⟨rfl, hch3⟩
                  refine hK.out _ _ (show Chg [] w2 w3 from ((Chg.refl _ _).drew).then hch3) (fun _ => ?_)
                  clear hK hHeld K
                  have hHeld := (show Chg [] w2 w3 from ((Chg.refl _ _).drew).then hch3)
                  try (unfold Act.put; simp only [List.setIfInBounds_toArray, List.set_cons_zero, List.set_cons_succ])
                  refine take_read (i := 6) (v := ?_) (by simp only [List.getElem?_toArray, List.getElem?_cons_succ, List.getElem?_cons_zero]; rfl) (by kernel_rfl) (by kernel_rfl) (by kernel_rfl) (fun _ _ _ h => h) hHeld ?_ ?_
                  rotate_left
                  · intro w hSw
                    go_simp
                    try with_reducible rfl
                  try simp only [Act.put, List.setIfInBounds_toArray, List.set_cons_zero, List.set_cons_succ]
                  refine take_read (i := 7) (v := ?_) (by simp only [List.getElem?_toArray, List.getElem?_cons_succ, List.getElem?_cons_zero]; rfl) (by kernel_rfl) (by kernel_rfl) (by kernel_rfl) (fun _ _ _ h => h) hHeld ?_ ?_
                  rotate_left
                  · intro w hSw
                    go_simp
                    try with_reducible rfl
                  try simp only [Act.put, List.setIfInBounds_toArray, List.set_cons_zero, List.set_cons_succ]
                  refine take_read (i := 8) (v := ?_) (by simp only [List.getElem?_toArray, List.getElem?_cons_succ, List.getElem?_cons_zero]; rfl) (by kernel_rfl) (by kernel_rfl) (by kernel_rfl) (fun _ _ _ h => h) hHeld ?_ ?_
                  rotate_left
                  · intro w hSw
                    go_simp
                    try with_reducible rfl
                  try simp only [Act.put, List.setIfInBounds_toArray, List.set_cons_zero, List.set_cons_succ]
                  refine take_read (i := 9) (v := ?_) (by simp only [List.getElem?_toArray, List.getElem?_cons_succ, List.getElem?_cons_zero]; rfl) (by kernel_rfl) (by kernel_rfl) (by kernel_rfl) (fun _ _ _ h => h) hHeld ?_ ?_
                  rotate_left
                  · intro w hSw
                    go_simp
                    try with_reducible rfl
                  try simp only [Act.put, List.setIfInBounds_toArray, List.set_cons_zero, List.set_cons_succ]
                  refine wpAnyH_done (by kernel_rfl) ?_ _
                  refine NoPanic.normal ?_
                  have W3 := Lib.hid (hHeld)
                  clear hHeld hch3 k1 k2 k3 k4 k5 d0 d1 d2 d3 d4
                  go_wp2
                  go_roundw
                  case rel => exact ⟨j + 1, by omega, by go_num, by rw [HMn.out, HLn.out]; simp [eOf], HC2.out.then (HW2.out.then W3.out)⟩
                  case measure => simp [intOf]; omega
            · cases bl
              · skip
                go_wp2_with fail
                refine wp_region_noPanic ?_
                refine wp_region_held_drew (S := fun w' => Chg [] w2 w') (by kernel_rfl) ((Chg.refl _ _).drew) (fun hHeld => ?_)
                refine take_read (i := 0) (v := ?_) (by simp only [List.getElem?_toArray, List.getElem?_cons_zero]; rfl) (by kernel_rfl) (by kernel_rfl) (by kernel_rfl) (fun _ _ _ h => h) hHeld ?_ ?_
                rotate_left
                · intro w hSw
                  go_simp
                  try with_reducible rfl
                try simp only [Act.put, List.setIfInBounds_toArray, List.set_cons_zero, List.set_cons_succ]
                refine take_read (i := 1) (v := ?_) (by simp only [List.getElem?_toArray, List.getElem?_cons_succ, List.getElem?_cons_zero]; rfl) (by kernel_rfl) (by kernel_rfl) (by kernel_rfl) (fun _ _ _ h => h) hHeld ?_ ?_
                rotate_left
                · intro w hSw
                  go_simp
                  try with_reducible rfl
                try simp only [Act.put, List.setIfInBounds_toArray, List.set_cons_zero, List.set_cons_succ]
                refine take_read (i := 2) (v := ?_) (by simp only [List.getElem?_toArray, List.getElem?_cons_succ, List.getElem?_cons_zero]; rfl) (by kernel_rfl) (by kernel_rfl) (by kernel_rfl) (fun _ _ _ h => h) hHeld ?_ ?_
                rotate_left
                · intro w hSw
                  go_simp
                  try with_reducible rfl
                try simp only [Act.put, List.setIfInBounds_toArray, List.set_cons_zero, List.set_cons_succ]
                refine take_read (i := 3) (v := ?_) (by simp only [List.getElem?_toArray, List.getElem?_cons_succ, List.getElem?_cons_zero]; rfl) (by kernel_rfl) (by kernel_rfl) (by kernel_rfl) (fun _ _ _ h => h) hHeld ?_ ?_
                rotate_left
                · intro w hSw
                  have k1 := (hSw.cell k1 (by simp))
                  have k2 := (hSw.cell k2 (by simp))
                  have k3 := (hSw.cell k3 (by simp))
                  have k4 := (hSw.cell k4 (by simp))
                  have k5 := (hSw.cell k5 (by simp))
                  go_simp
                  try with_reducible rfl
                try simp only [Act.put, List.setIfInBounds_toArray, List.set_cons_zero, List.set_cons_succ]
                refine take_read (i := 4) (v := ?_) (by simp only [List.getElem?_toArray, List.getElem?_cons_succ, List.getElem?_cons_zero]; rfl) (by kernel_rfl) (by kernel_rfl) (by kernel_rfl) (fun _ _ _ h => h) hHeld ?_ ?_
                rotate_left
                · intro w hSw
                  have d0 := (hSw.cell d0 (by simp))
                  have d1 := (hSw.cell d1 (by simp))
                  have d2 := (hSw.cell d2 (by simp))
                  have d3 := (hSw.cell d3 (by simp))
                  have d4 := (hSw.cell d4 (by simp))
                  go_simp
                  try with_reducible rfl
                try simp only [Act.put, List.setIfInBounds_toArray, List.set_cons_zero, List.set_cons_succ]
                refine wpAnyH_ready (rs := [5]) (by kernel_rfl) (by simp) ?_
                refine AllReadyH.cons rfl (fun K hK => ?_) AllReadyH.nil
                go_simp
                refine (HAL.out _).mono ?_
                rintro e w3 ⟨rfl, hch3⟩
                refine hK.out _ _ (show Chg [] w2 w3 from ((Chg.refl _ _).drew).then hch3) (fun _ => ?_)
                clear hK hHeld K
                have hHeld := (show Chg [] w2 w3 from ((Chg.refl _ _).drew).then hch3)
                try (unfold Act.put; simp only [List.setIfInBounds_toArray, List.set_cons_zero, List.set_cons_succ])
                refine take_read (i := 6) (v := ?_) (by simp only [List.getElem?_toArray, List.getElem?_cons_succ, List.getElem?_cons_zero]; rfl) (by kernel_rfl) (by kernel_rfl) (by kernel_rfl) (fun _ _ _ h => h) hHeld ?_ ?_
                rotate_left
                · intro w hSw
                  go_simp
                  try with_reducible rfl
                try simp only [Act.put, List.setIfInBounds_toArray, List.set_cons_zero, List.set_cons_succ]
                refine take_read (i := 7) (v := ?_) (by simp only [List.getElem?_toArray, List.getElem?_cons_succ, List.getElem?_cons_zero]; rfl) (by kernel_rfl) (by kernel_rfl) (by kernel_rfl) (fun _ _ _ h => h) hHeld ?_ ?_
                rotate_left
                · intro w hSw
                  go_simp
                  try with_reducible rfl
                try simp only [Act.put, List.setIfInBounds_toArray, List.set_cons_zero, List.set_cons_succ]
                refine take_read (i := 8) (v := ?_) (by simp only [List.getElem?_toArray, List.getElem?_cons_succ, List.getElem?_cons_zero]; rfl) (by kernel_rfl) (by kernel_rfl) (by kernel_rfl) (fun _ _ _ h => h) hHeld ?_ ?_
                rotate_left
                · intro w hSw
                  go_simp
                  try with_reducible rfl
                try simp only [Act.put, List.setIfInBounds_toArray, List.set_cons_zero, List.set_cons_succ]
                refine take_read (i := 9) (v := ?_) (by simp only [List.getElem?_toArray, List.getElem?_cons_succ, List.getElem?_cons_zero]; rfl) (by kernel_rfl) (by kernel_rfl) (by kernel_rfl) (fun _ _ _ h => h) hHeld ?_ ?_
                rotate_left
                · intro w hSw
                  go_simp
                  try with_reducible rfl
                try simp only [Act.put, List.setIfInBounds_toArray, List.set_cons_zero, List.set_cons_succ]
                refine wpAnyH_done (by kernel_rfl) ?_ _
                refine NoPanic.normal ?_
                have W3 := Lib.hid (hHeld)
                clear hHeld hch3 k1 k2 k3 k4 k5 d0 d1 d2 d3 d4
                go_wp2
                go_roundw
                case rel => exact ⟨j + 1, by omega, by go_num, by rw [HMn.out, HLn.out]; simp [eOf], HC2.out.then (HW2.out.then W3.out)⟩
                case measure => simp [intOf]; omega
              · skip
                go_wp2_with fail
                refine wp_region_noPanic ?_
                refine wp_region_held_drew (S := fun w' => Chg [] w2 w') (by kernel_rfl) ((Chg.refl _ _).drew) (fun hHeld => ?_)
                refine take_read (i := 0) (v := ?_) (by simp only [List.getElem?_toArray, List.getElem?_cons_zero]; rfl) (by kernel_rfl) (by kernel_rfl) (by kernel_rfl) (fun _ _ _ h => h) hHeld ?_ ?_
                rotate_left
                · intro w hSw
                  go_simp
                  try with_reducible rfl
                try simp only [Act.put, List.setIfInBounds_toArray, List.set_cons_zero, List.set_cons_succ]
                refine take_read (i := 1) (v := ?_) (by simp only [List.getElem?_toArray, List.getElem?_cons_succ, List.getElem?_cons_zero]; rfl) (by kernel_rfl) (by kernel_rfl) (by kernel_rfl) (fun _ _ _ h => h) hHeld ?_ ?_
                rotate_left
                · intro w hSw
                  go_simp
                  try with_reducible rfl
                try simp only [Act.put, List.setIfInBounds_toArray, List.set_cons_zero, List.set_cons_succ]
                refine take_read (i := 2) (v := ?_) (by simp only [List.getElem?_toArray, List.getElem?_cons_succ, List.getElem?_cons_zero]; rfl) (by kernel_rfl) (by kernel_rfl) (by kernel_rfl) (fun _ _ _ h => h) hHeld ?_ ?_
                rotate_left
                · intro w hSw
                  go_simp
                  try with_reducible rfl
                try simp only [Act.put, List.setIfInBounds_toArray, List.set_cons_zero, List.set_cons_succ]
                refine take_read (i := 3) (v := ?_) (by simp only [List.getElem?_toArray, List.getElem?_cons_succ, List.getElem?_cons_zero]; rfl) (by kernel_rfl) (by kernel_rfl) (by kernel_rfl) (fun _ _ _ h => h) hHeld ?_ ?_
                rotate_left
                · intro w hSw
                  have k1 := (hSw.cell k1 (by simp))
                  have k2 := (hSw.cell k2 (by simp))
                  have k3 := (hSw.cell k3 (by simp))
                  have k4 := (hSw.cell k4 (by simp))
                  have k5 := (hSw.cell k5 (by simp))
                  go_simp
                  try with_reducible rfl
                try simp only [Act.put, List.setIfInBounds_toArray, List.set_cons_zero, List.set_cons_succ]
                refine take_read (i := 4) (v := ?_) (by simp only [List.getElem?_toArray, List.getElem?_cons_succ, List.getElem?_cons_zero]; rfl) (by kernel_rfl) (by kernel_rfl) (by kernel_rfl) (fun _ _ _ h => h) hHeld ?_ ?_
                rotate_left
                · intro w hSw
                  have d0 := (hSw.cell d0 (by simp))
                  have d1 := (hSw.cell d1 (by simp))
                  have d2 := (hSw.cell d2 (by simp))
                  have d3 := (hSw.cell d3 (by simp))
                  have d4 := (hSw.cell d4 (by simp))
                  go_simp
                  try with_reducible rfl
                try simp only [Act.put, List.setIfInBounds_toArray, List.set_cons_zero, List.set_cons_succ]
                refine wpAnyH_ready (rs := [5]) (by kernel_rfl) (by simp) ?_
                refine AllReadyH.cons rfl (fun K hK => ?_) AllReadyH.nil
                go_simp
                refine (HAL.out _).mono ?_
                rintro e w3 ⟨rfl, hch3⟩
                refine hK.out _ _ (show Chg [] w2 w3 from ((Chg.refl _ _).drew).then hch3) (fun _ => ?_)
                clear hK hHeld K
                have hHeld := (show Chg [] w2 w3 from ((Chg.refl _ _).drew).then hch3)
                try (unfold Act.put; simp only [List.setIfInBounds_toArray, List.set_cons_zero, List.set_cons_succ])
                refine take_read (i := 6) (v := ?_) (by simp only [List.getElem?_toArray, List.getElem?_cons_succ, List.getElem?_cons_zero]; rfl) (by kernel_rfl) (by kernel_rfl) (by kernel_rfl) (fun _ _ _ h => h) hHeld ?_ ?_
                rotate_left
                · intro w hSw
                  go_simp
                  try with_reducible rfl
                try simp only [Act.put, List.setIfInBounds_toArray, List.set_cons_zero, List.set_cons_succ]
                refine take_read (i := 7) (v := ?_) (by simp only [List.getElem?_toArray, List.getElem?_cons_succ, List.getElem?_cons_zero]; rfl) (by kernel_rfl) (by kernel_rfl) (by kernel_rfl) (fun _ _ _ h => h) hHeld ?_ ?_
                rotate_left
                · intro w hSw
                  go_simp
                  try with_reducible rfl
                try simp only [Act.put, List.setIfInBounds_toArray, List.set_cons_zero, List.set_cons_succ]
                refine take_read (i := 8) (v := ?_) (by simp only [List.getElem?_toArray, List.getElem?_cons_succ, List.getElem?_cons_zero]; rfl) (by kernel_rfl) (by kernel_rfl) (by kernel_rfl) (fun _ _ _ h => h) hHeld ?_ ?_
                rotate_left
                · intro w hSw
                  go_simp
                  try with_reducible rfl
                try simp only [Act.put, List.setIfInBounds_toArray, List.set_cons_zero, List.set_cons_succ]
                refine take_read (i := 9) (v := ?_) (by simp only [List.getElem?_toArray, List.getElem?_cons_succ, List.getElem?_cons_zero]; rfl) (by kernel_rfl) (by kernel_rfl) (by kernel_rfl) (fun _ _ _ h => h) hHeld ?_ ?_
                rotate_left
                · intro w hSw
                  go_simp
                  try with_reducible rfl
                try simp only [Act.put, List.setIfInBounds_toArray, List.set_cons_zero, List.set_cons_succ]
                refine wpAnyH_done (by kernel_rfl) ?_ _
                refine NoPanic.normal ?_
                have W3 := Lib.hid (hHeld)
                clear hHeld hch3 k1 k2 k3 k4 k5 d0 d1 d2 d3 d4
                go_wp2
                go_roundw
                case rel => exact ⟨j + 1, by omega, by go_num, by rw [HMn.out, HLn.out]; simp [eOf], HC2.out.then (HW2.out.then W3.out)⟩
                case measure => simp [intOf]; omega
          · obtain rfl : j = k := by omega
            have HR1 : Hid (eOf (M0 || ((entries l 32 8 j).take j).any (meetS s)) (L0 || ((entries l 32 8 j).take j).any (likeB s)) = refE l 32 8 many (j + 1)) := by
              refine Lib.hid ?_
              have e1 := anyK_snoc meetS (entries l 32 8 j) s
              have e2 := anyK_snoc likeB (entries l 32 8 j) s
              rw [entries_len] at e1 e2
              unfold refE
              rw [HENT.out, e1, e2, HM0.out, HL0.out, List.take_of_length_le (by rw [entries_len]; exact Nat.le_refl _), Bool.or_assoc]
            have hqq := HC2.out.heap Q8.out (by simp)
            have d0 := cell_of_heap hqq 0
            have d1 := cell_of_heap hqq 1
            have d2 := cell_of_heap hqq 2
            have d3 := cell_of_heap hqq 3
            have d4 := cell_of_heap hqq 4
            simp at d0 d1 d2 d3 d4
            clear hqq
            have CA := Lib.hid (Hch.out.then (C8.out.then (HC2.out.alloc (.cells #[.int .u32 n1, .int .u32 n2, .int .u64 n3, .int .u64 n4, .int .i64 n5] 52))))
            have BA := Lib.hid (Hbuf.out.pure (C8.out.then (HC2.out.alloc (.cells #[.int .u32 n1, .int .u32 n2, .int .u64 n3, .int .u64 n4, .int .i64 n5] 52))))
            have QA : Hid ((wq.alloc (.cells #[.int .u32 n1, .int .u32 n2, .int .u64 n3, .int .u64 n4, .int .i64 n5] 52)).heap[wq.heap.size]? = some (.cells #[.int .u32 n1, .int .u32 n2, .int .u64 n3, .int .u64 n4, .int .i64 n5] 52 (0, 0))) := Lib.hid (heap_alloc_eq _ _)
            go_wp2_with (at_builtin; refine app_sl rfl _ _ rfl w1.heap.size (.slice a8 j c8) (entries l 32 8 j) rfl BA.out (wq.heap.size) ⟨n1, n2, n3, n4, n5⟩ rfl QA.out (by rw [entries_len]; omega) (by have := CA.out.size; omega) ?_; intro va wa hoa hga; refine Hid.out ?_)
            refine Lib.hid ?_
            have BZ : Hid (SlBuf wa w1.heap.size va (entries l 32 8 (j + 1))) := by
              refine Lib.hid ?_
              rw [HENT.out, HSEX.out]
              exact hoa
            have CZ := Lib.hid (CA.out.trans (Chg.of_grown hga) (fun i hi hlt => by have := World.ownsRow.lt BA.out i (by simpa using hi); omega))
            clear hoa hga
            go_wp2
            go_roundw
            case rel => exact ⟨j + 1, hlt, by go_num, BZ.out, by rw [HR1.out], CZ.out⟩
            case measure => simp [intOf]; omega
    · obtain rfl : k = many := by omega
      have HEQ : Hid (entE l 32 8 apE = refE l 32 8 k k) := Lib.hid (by rw [HE.out, refE_end])
      generalize refE l 32 8 k k = X at HEQ ⊢
      by_cases h0 : X = 0
      · subst h0
        go_wp2
        go_ret2
        rw [HEQ.out]
        exact ⟨_, rfl, fun _ => Hbuf.out.rd, fun h => absurd rfl h, HC1.out.then Hch.out⟩
      · have hx : (X != 0) = true := by rw [bne_iff_ne]; exact h0
        go_wp2
        go_ret2
        rw [HEQ.out]
        exact ⟨_, rfl, fun h => absurd h h0, fun _ => rfl, HC1.out.then Hch.out⟩
end Go.Proofs.YtchkombikjcokaaDoor
