/- clevislaw04.known and CommandLong, walked. -/
import Derived.Test.YtchkombikjcokaaDoorMake
import Derived.Test.YtchkombikjcokaaDoorInt
import Derived.Laws.MakeOwn
namespace Go.Proofs.YtchkombikjcokaaDoor
open Go.RowKit
set_option maxRecDepth 100000

theorem toNat_ofNat_lt {x : Nat} (h : x < 256) : (UInt8.ofNat x).toNat = x := by simp; omega
theorem leNum_le4 (n : Nat) (h : n < 4294967296) : leNum (le4 n) = n := by
  unfold le4
  simp only [leNum]
  rw [toNat_ofNat_lt (by omega), toNat_ofNat_lt (by omega), toNat_ofNat_lt (by omega), toNat_ofNat_lt (by omega)]
  omega
theorem oneL_take (cmd : Nat) (says : List UInt8) : (oneL cmd says).take 4 = le4 cmd ∧ ((oneL cmd says).drop 4).take 4 = le4 (oneN says.length) := by
  unfold oneL le4
  constructor <;> simp
theorem mayB_one (cmd : Nat) (hc : cmd < 4294967296) (says : List UInt8) (hl : oneN says.length < 4294967296) : mayB cmd (oneL cmd says) = true := by
  rw [mayB_eq, oneL_len, (oneL_take cmd says).1, (oneL_take cmd says).2, leNum_le4 _ hc, leNum_le4 _ hl]
  exact ⟨by unfold oneN; omega, rfl, rfl, by unfold oneN; omega⟩
theorem headL_len (ws : List Nat) : (headL ws).length = 4 * ws.length := by
  unfold headL
  induction ws with
  | nil => rfl
  | cons a l ih => simp only [List.flatMap_cons, List.length_append, ih, List.length_cons]; show 4 + _ = _; omega
theorem makeL_len (sub kind fl : Nat) (cs : List Cmd) : (makeL sub kind fl cs).length = 32 + (catL cs).length := by
  unfold makeL; rw [List.length_append, headL_len]; rfl
theorem Rd_blk2 {w : World} {b : Nat} {c : Array Value} {xs : List Value} {T : TypeId} {fz : Nat × Nat} (h : w.heap[b]? = some (.cells c T fz)) (hc : c = xs.toArray) (n : Nat) (hn : n = xs.length) (hl : xs.length ≤ maxLen) : Rd w (.slice (some ⟨b, 0, none⟩) n n) xs := by
  subst hc
  refine ⟨_, _, _, rfl, hn, Nat.le_refl _, by rw [hn]; exact hl, fun _ => ⟨_, _, rfl, fun j _ => ?_⟩⟩
  rw [Nat.zero_add, cell_of_heap h]
  simp
theorem CmdRd.nil (w : World) : CmdRd w (.slice none 0 0) [] := ⟨none, 0, 0, rfl, rfl, Nat.le_refl _, Nat.zero_le _, fun h => absurd rfl h⟩
theorem CmdRd.one {w : World} {b cap : Nat} {cmd : Nat} {l : List UInt8} {a : Option Addr} {c : Nat} (hb : w.heap[b]? = some (.cells #[.int .u32 cmd, .slice a l.length c] 26 (0, 0))) (hr : Rd w (.slice a l.length c) (bytesV l)) (h1 : 1 ≤ cap) (h2 : cap ≤ maxLen) :
    CmdRd w (.slice (some ⟨b, 0, none⟩) 1 cap) [(cmd, l)] := by
  refine ⟨_, _, _, rfl, rfl, h1, h2, fun _ => ⟨b, 0, rfl, lt_of_heap hb, fun j hj => ?_⟩⟩
  obtain rfl : j = 0 := by simp at hj; exact hj
  exact ⟨by rw [cell_of_heap hb]; rfl, a, c, by rw [cell_of_heap hb]; rfl, hr⟩

set_option maxHeartbeats 1000000 in
theorem known_cmd (w : World) (hg : Env w) : Calls Tryd.prog 13 #[] w fun e w' => e = .returned (.bool true) ∧ Chg [] w w' := by
  have HR := Lib.hid (Rd_new w (bytesV [1, 2, 3]) 5 3 rfl (by decide))
  have HC0 := Lib.hid ((Chg.refl [] w).alloc (.cells (bytesV [1, 2, 3]).toArray 5))
  have Hg := Lib.hid hg
  clear hg
  go_enter Tryd.func13, Tryd.ntmps13
  go_wp2_with fail
  refine (One_ok 27 (by decide) [1, 2, 3] _ _ _ HR.out (by decide)).mono ?_
  rintro e w1 ⟨v1, rfl, hb1, hch1⟩
  have HC1 := Lib.hid (HC0.out.then hch1)
  have HB1 := Lib.hid (hb1)
  clear hb1 hch1
  obtain ⟨a1, cap1, rfl⟩ := HB1.out.form
  have hlen : (oneL 27 [1, 2, 3]).length = 16 := by rw [oneL_len]; rfl
  rw [hlen]
  rw [hlen] at HB1
  clear hlen
  go_wp2_with fail
  obtain ⟨w2, hw2⟩ : ∃ w2, w2 = w1.alloc (.cells #[.int .u32 27, .slice a1 16 cap1] 26) := ⟨_, rfl⟩
  obtain ⟨r, hr⟩ : ∃ r, r = w1.heap.size := ⟨_, rfl⟩
  have HQ : Hid (w2.heap[r]? = some (.cells #[.int .u32 27, .slice a1 16 cap1] 26 (0, 0))) := Lib.hid (by rw [hw2, hr]; exact heap_alloc_eq _ _)
  have HC2 : Hid (Chg [] w1 w2) := Lib.hid (by rw [hw2]; exact (Chg.refl _ _).alloc _)
  rw [← hr, ← hw2]
  clear hw2 hr
  have hme : makeE (0 : Nat) (2 : Nat) [] = 0 := by decide +kernel
  have HML : Hid ((makeL 0 2 0 []).length = 32) := Lib.hid (makeL_len _ _ _ _)
  refine (Make_may 0 2 0 (by decide) [] none 0 w2 (Hg.out.frame (HC1.out.then HC2.out) (by simp)) (CmdRd.nil w2) (by decide) (by decide) (by decide +kernel)).mono ?_
  rintro e w3 ⟨v, rfl, hok, _, hch⟩
  have HB3 := Lib.hid (hok hme)
  rw [hme]
  have HC3 := Lib.hid (hch)
  clear hok hch hme
  obtain ⟨a3, cap3, rfl⟩ := HB3.out.form
  rw [HML.out]
  have hq := HC3.out.heap HQ.out (by simp)
  have c1 := cell_of_heap hq 1
  simp at c1
  have hs1 : (convert 24 9 (.slice a1 16 cap1)).run Tryd.prog w3 = .ok (.string ⟨(oneL 27 [1, 2, 3]).toArray⟩) w3 := run_str ((HB1.out.pure HC2.out).pure HC3.out).rd
  rw [show oneL 27 [1, 2, 3] = [27, 0, 0, 0, 16, 0, 0, 0, 1, 2, 3, 0, 0, 0, 0, 0] from by decide +kernel] at hs1
  clear hq
  go_wp2
  go_ret
  exact ⟨rfl, HC1.out.then (HC2.out.then HC3.out)⟩

theorem zeros_at (w : World) (n : Nat) (hn : n ≤ 1048596) : ∃ o, (Instr.makeSlice 24 (.int .i64 (n : Int)) (.int .i64 (n : Int))).run Tryd.prog w = .ok (.slice (some ⟨w.heap.size, 0, none⟩) n n) (w.alloc o) ∧
    Rd (w.alloc o) (.slice (some ⟨w.heap.size, 0, none⟩) n n) (bytesV (List.replicate n 0)) := by
  obtain ⟨i0, hi, hz0, hz1, hz2⟩ := info_parts Tryd.infoU8
  have hb : (i0.bytes : Int) * (n : Int) ≤ 281474976710656 := by rw [hz2]; omega
  have hr := run_make (P := Tryd.prog) w 24 5 i0 (.int .u8 0) Tryd.underlying24 hi hz0 .i64 .i64 n n (by omega) (by omega) hb (by omega)
  simp only [Int.toNat_natCast] at hr
  refine ⟨_, hr, ?_⟩
  refine Rd_blk2 (heap_alloc_eq w _) ?_ n (by simp [bytesV]) (by simp [bytesV]; unfold maxLen; omega)
  rw [bytesV_zeros, hz1, Nat.mul_one]
  apply Array.ext'
  apply List.ext_getElem?
  intro j
  by_cases hj : j < n <;> simp [madeCells, hj, Value.cells, Nat.mod_one]

set_option maxHeartbeats 2000000 in
theorem CommandLong_in (zs : List UInt8) (hz : zs = List.replicate zs.length 0) (h1 : 1048516 ≤ zs.length) (h2 : zs.length ≤ 1048596) (cmd : Nat) (hc : cmd < 4294967296) (w : World) (hg : Env w) :
    Calls Tryd.prog 3 #[.int .i64 zs.length, .int .u32 cmd] w fun e w' => e = .returned (.bool true) ∧ Chg [] w w' := by
  obtain ⟨o, hmk, hrd⟩ := zeros_at w zs.length h2
  rw [← hz] at hrd
  obtain ⟨N, hN⟩ : ∃ N, N = oneN zs.length := ⟨_, rfl⟩
  have n1 : 8 + zs.length ≤ N := by rw [hN]; unfold oneN; omega
  have n2 : N < 16 + zs.length := by rw [hN]; unfold oneN; omega
  have n3 : N % 8 = 0 := by rw [hN]; unfold oneN; omega
  have t1 : decide ((zs.length : Int) < 1048516) = false := by simp; omega
  have t2 : decide ((1048596 : Int) < zs.length) = false := by simp; omega
  have hle : zs.length ≤ 70368744177664 := by omega
  have HN := Lib.hid hN
  have Hrd := Lib.hid hrd
  have Hg := Lib.hid hg
  have H1 := Lib.hid h1
  have H2 := Lib.hid h2
  clear hN hrd hg h1 h2
  clear hz
  by_cases hbig : 1048576 < N
  · have db : decide ((1048576 : Int) < N) = true := by simp; omega
    go_enter Tryd.func3, Tryd.ntmps3
    go_wp2_with fail
    refine (One_many cmd _ zs.length zs.length _ (by omega) (by rw [← HN.out]; exact hbig)).mono ?_
    rintro e w1 ⟨rfl, hch⟩
    have HC1 := Lib.hid (((Chg.refl [] w).alloc o).then hch)
    clear hch hmk
    go_wp2_with fail
    go_loop [7] (fun s7 => ∃ s : Nat, 8 + zs.length ≤ s ∧ s ≤ N ∧ s7 = .int .i64 (s : Int)) (fun s7 => N - (intOf s7).toNat)
    case atStart => exact ⟨8 + zs.length, Nat.le_refl _, by omega, by go_num⟩
    case round =>
      obtain ⟨s, hs1, hs2, rfl⟩ := hrel
      by_cases hm : s % 8 = 0
      · have d1 : ((s : Int) % 8 != 0) = false := by simp; omega
        obtain rfl : N = s := by omega
        clear hm
        go_wp2_with fail
        refine (known_cmd _ (Hg.out.frame (HC1.out.alloc _) (by simp))).mono ?_
        rintro e w9 ⟨rfl, hch⟩
        have Hch := Lib.hid hch
        clear hch
        go_wp2
        go_ret
        exact ⟨rfl, (HC1.out.alloc _).then Hch.out⟩
      · have d1 : ((s : Int) % 8 != 0) = true := by rw [bne_iff_ne]; omega
        have hlt : s < N := by omega
        clear hm
        go_wp2
        go_round
        case rel => exact ⟨s + 1, by omega, by omega, by go_num⟩
        case measure => simp [intOf]; omega
  · have db : decide ((1048576 : Int) < N) = false := by simp; omega
    have hN1 : oneN zs.length ≤ 1048576 := by rw [← HN.out]; omega
    have hlen : (oneL cmd zs).length = N := by rw [oneL_len, HN.out]
    have hcat : (catL [(cmd, oneL cmd zs)]).length = N := by rw [← hlen]; simp [catL]
    have HK : Hid (makeE (0 : Nat) (6 : Nat) [(cmd, oneL cmd zs)] = if 1048576 < 32 + N then 11 else 0) := by
      refine Lib.hid ?_
      unfold makeE
      rw [show kindB ((0 : Nat) : Int) ((6 : Nat) : Int) = true from by decide, if_neg (by decide), hcat]
      rw [show ([(cmd, oneL cmd zs)].all fun c => mayB c.1 c.2) = true from by simpa using mayB_one cmd hc zs (by omega), if_neg (by decide)]
      by_cases h : 1048576 < 32 + N
      · rw [if_pos h, if_pos (.inr h)]
      · rw [if_neg h, if_neg (by simp; omega)]
    have HML : Hid ((makeL 0 6 0 [(cmd, oneL cmd zs)]).length = 32 + N) := Lib.hid (by rw [makeL_len, hcat])
    have HCL : Hid ((catL [(cmd, oneL cmd zs)]).length ≤ 70368744177664) := Lib.hid (by rw [hcat]; omega)
    have HLEN := Lib.hid (hlen)
    clear hlen hcat
    by_cases hb2 : 1048576 < 32 + N
    · have d2 : decide ((1048576 : Int) < N + 32) = true := by simp; omega
      have hkk : makeE (0 : Nat) (6 : Nat) [(cmd, oneL cmd zs)] = 11 := by rw [HK.out, if_pos hb2]
      have HKK := Lib.hid (hkk)
      clear hkk HK hb2 hbig
      go_enter Tryd.func3, Tryd.ntmps3
      go_wp2_with fail
      refine (One_ok cmd hc zs _ zs.length _ Hrd.out hN1).mono ?_
      rintro e w1 ⟨v1, rfl, hb1, hch1⟩
      have HC1 := Lib.hid (((Chg.refl [] w).alloc o).then hch1)
      have HB1 := Lib.hid (hb1)
      clear hb1 hch1 hmk hN1
      obtain ⟨a1, cap1, rfl⟩ := HB1.out.form
      rw [HLEN.out]
      rw [HLEN.out] at HB1
      go_wp2_with fail
      obtain ⟨w2, hw2⟩ : ∃ w2, w2 = w1.alloc (.cells #[.int .u32 cmd, .slice a1 N cap1] 26) := ⟨_, rfl⟩
      obtain ⟨r, hr⟩ : ∃ r, r = w1.heap.size := ⟨_, rfl⟩
      have HQ : Hid (w2.heap[r]? = some (.cells #[.int .u32 cmd, .slice a1 N cap1] 26 (0, 0))) := Lib.hid (by rw [hw2, hr]; exact heap_alloc_eq _ _)
      have HC2 : Hid (Chg [] w1 w2) := Lib.hid (by rw [hw2]; exact (Chg.refl _ _).alloc _)
      rw [← hr, ← hw2]
      clear hw2 hr
      go_wp2_with fail
      go_loop [7] (fun s7 => ∃ s : Nat, 8 + zs.length ≤ s ∧ s ≤ N ∧ s7 = .int .i64 (s : Int)) (fun s7 => N - (intOf s7).toNat)
      case atStart => exact ⟨8 + zs.length, Nat.le_refl _, by omega, by go_num⟩
      case round =>
        obtain ⟨s, hs1, hs2, rfl⟩ := hrel
        by_cases hm : s % 8 = 0
        · have d1 : ((s : Int) % 8 != 0) = false := by simp; omega
          obtain rfl : N = s := by omega
          clear hm
          have c0 := cell_of_heap HQ.out 0
          have c1 := cell_of_heap HQ.out 1
          simp at c0 c1
          go_wp2_with fail
          obtain ⟨w3, hw3⟩ : ∃ w3, w3 = w2.alloc (.cells #[.int .u32 cmd, .slice a1 N cap1] 26) := ⟨_, rfl⟩
          obtain ⟨q, hq⟩ : ∃ q, q = w2.heap.size := ⟨_, rfl⟩
          have HQ3 : Hid (w3.heap[q]? = some (.cells #[.int .u32 cmd, .slice a1 N cap1] 26 (0, 0))) := Lib.hid (by rw [hw3, hq]; exact heap_alloc_eq _ _)
          have HC3 : Hid (Chg [] w2 w3) := Lib.hid (by rw [hw3]; exact (Chg.refl _ _).alloc _)
          rw [← hq, ← hw3]
          clear hw3 hq c0 c1
          have HRD : Hid (CmdRd w3 (.slice (some ⟨q, 0, none⟩) 1 1) [(cmd, oneL cmd zs)]) := Lib.hid (CmdRd.one (a := a1) (c := cap1) (by rw [HLEN.out]; exact HQ3.out) (by rw [HLEN.out]; exact ((HB1.out.pure HC2.out).pure HC3.out).rd) (Nat.le_refl _) (by unfold maxLen; omega))
          refine (Make_may 0 6 0 (by decide) [(cmd, oneL cmd zs)] (some ⟨q, 0, none⟩) 1 w3 (Hg.out.frame (HC1.out.then (HC2.out.then HC3.out)) (by simp)) HRD.out (by simp) HCL.out (by decide)).mono ?_
          rintro e w4 ⟨v, rfl, hok, hbad, hch⟩
          have HC4 := Lib.hid (hch)
          clear hch
          have hv := hbad (by rw [HKK.out]; decide)
          subst hv
          rw [HKK.out]
          clear hok hbad
          go_wp2_with fail
          refine (known_cmd _ (Hg.out.frame (HC1.out.then (HC2.out.then (HC3.out.then HC4.out))) (by simp))).mono ?_
          rintro e w9 ⟨rfl, hch⟩
          have Hch := Lib.hid hch
          clear hch
          go_wp2
          go_ret
          exact ⟨rfl, HC1.out.then (HC2.out.then (HC3.out.then (HC4.out.then Hch.out)))⟩
        · have d1 : ((s : Int) % 8 != 0) = true := by rw [bne_iff_ne]; omega
          have hlt : s < N := by omega
          clear hm
          go_wp2
          go_round
          case rel => exact ⟨s + 1, by omega, by omega, by go_num⟩
          case measure => simp [intOf]; omega
    · have d2 : decide ((1048576 : Int) < N + 32) = false := by simp; omega
      have hkk : makeE (0 : Nat) (6 : Nat) [(cmd, oneL cmd zs)] = 0 := by rw [HK.out, if_neg hb2]
      have HKK := Lib.hid (hkk)
      clear hkk HK hb2 hbig
      go_enter Tryd.func3, Tryd.ntmps3
      go_wp2_with fail
      refine (One_ok cmd hc zs _ zs.length _ Hrd.out hN1).mono ?_
      rintro e w1 ⟨v1, rfl, hb1, hch1⟩
      have HC1 := Lib.hid (((Chg.refl [] w).alloc o).then hch1)
      have HB1 := Lib.hid (hb1)
      clear hb1 hch1 hmk hN1
      obtain ⟨a1, cap1, rfl⟩ := HB1.out.form
      rw [HLEN.out]
      rw [HLEN.out] at HB1
      go_wp2_with fail
      obtain ⟨w2, hw2⟩ : ∃ w2, w2 = w1.alloc (.cells #[.int .u32 cmd, .slice a1 N cap1] 26) := ⟨_, rfl⟩
      obtain ⟨r, hr⟩ : ∃ r, r = w1.heap.size := ⟨_, rfl⟩
      have HQ : Hid (w2.heap[r]? = some (.cells #[.int .u32 cmd, .slice a1 N cap1] 26 (0, 0))) := Lib.hid (by rw [hw2, hr]; exact heap_alloc_eq _ _)
      have HC2 : Hid (Chg [] w1 w2) := Lib.hid (by rw [hw2]; exact (Chg.refl _ _).alloc _)
      rw [← hr, ← hw2]
      clear hw2 hr
      go_wp2_with fail
      go_loop [7] (fun s7 => ∃ s : Nat, 8 + zs.length ≤ s ∧ s ≤ N ∧ s7 = .int .i64 (s : Int)) (fun s7 => N - (intOf s7).toNat)
      case atStart => exact ⟨8 + zs.length, Nat.le_refl _, by omega, by go_num⟩
      case round =>
        obtain ⟨s, hs1, hs2, rfl⟩ := hrel
        by_cases hm : s % 8 = 0
        · have d1 : ((s : Int) % 8 != 0) = false := by simp; omega
          obtain rfl : N = s := by omega
          clear hm
          have c0 := cell_of_heap HQ.out 0
          have c1 := cell_of_heap HQ.out 1
          simp at c0 c1
          go_wp2_with fail
          obtain ⟨w3, hw3⟩ : ∃ w3, w3 = w2.alloc (.cells #[.int .u32 cmd, .slice a1 N cap1] 26) := ⟨_, rfl⟩
          obtain ⟨q, hq⟩ : ∃ q, q = w2.heap.size := ⟨_, rfl⟩
          have HQ3 : Hid (w3.heap[q]? = some (.cells #[.int .u32 cmd, .slice a1 N cap1] 26 (0, 0))) := Lib.hid (by rw [hw3, hq]; exact heap_alloc_eq _ _)
          have HC3 : Hid (Chg [] w2 w3) := Lib.hid (by rw [hw3]; exact (Chg.refl _ _).alloc _)
          rw [← hq, ← hw3]
          clear hw3 hq c0 c1
          have HRD : Hid (CmdRd w3 (.slice (some ⟨q, 0, none⟩) 1 1) [(cmd, oneL cmd zs)]) := Lib.hid (CmdRd.one (a := a1) (c := cap1) (by rw [HLEN.out]; exact HQ3.out) (by rw [HLEN.out]; exact ((HB1.out.pure HC2.out).pure HC3.out).rd) (Nat.le_refl _) (by unfold maxLen; omega))
          refine (Make_may 0 6 0 (by decide) [(cmd, oneL cmd zs)] (some ⟨q, 0, none⟩) 1 w3 (Hg.out.frame (HC1.out.then (HC2.out.then HC3.out)) (by simp)) HRD.out (by simp) HCL.out (by decide)).mono ?_
          rintro e w4 ⟨v, rfl, hok, hbad, hch⟩
          have HC4 := Lib.hid (hch)
          clear hch
          obtain ⟨a5, cap5, rfl⟩ := (hok HKK.out).form
          rw [HKK.out, HML.out]
          clear hok hbad
          go_wp2_with fail
          refine (known_cmd _ (Hg.out.frame (HC1.out.then (HC2.out.then (HC3.out.then HC4.out))) (by simp))).mono ?_
          rintro e w9 ⟨rfl, hch⟩
          have Hch := Lib.hid hch
          clear hch
          go_wp2
          go_ret
          exact ⟨rfl, HC1.out.then (HC2.out.then (HC3.out.then (HC4.out.then Hch.out)))⟩
        · have d1 : ((s : Int) % 8 != 0) = true := by rw [bne_iff_ne]; omega
          have hlt : s < N := by omega
          clear hm
          go_wp2
          go_round
          case rel => exact ⟨s + 1, by omega, by omega, by go_num⟩
          case measure => simp [intOf]; omega
theorem CommandLong_walk (w : World) (hg : Env w) (n : Int) (hn : (Lit.int .i64 n).wf = true) (m : Int) (hm : (Lit.int .u32 m).wf = true) :
    Calls Tryd.prog 3 #[.int .i64 n, .int .u32 m] w fun e w' => e = .returned (.bool true) ∧ Chg [] w w' := by
  obtain ⟨cmd, rfl, hc⟩ := nat_u32 m hm
  obtain ⟨hn1, hn2⟩ := int_i64 n hn
  by_cases h1 : 1048516 ≤ n
  · by_cases h2 : n ≤ 1048596
    · obtain ⟨k, rfl⟩ : ∃ k : Nat, n = k := ⟨n.toNat, by omega⟩
      have hk : (List.replicate k (0 : UInt8)).length = k := List.length_replicate
      have := CommandLong_in (List.replicate k 0) (by rw [hk]) (by rw [hk]; omega) (by rw [hk]; omega) cmd hc w hg
      rwa [hk] at this
    · have t1 : decide (n < 1048516) = false := by simp; omega
      have t2 : decide (1048596 < n) = true := by simp; omega
      have Hg := Lib.hid hg
      have H1 := Lib.hid h1
      have H2 := Lib.hid h2
      have Hn1 := Lib.hid hn1
      have Hn2 := Lib.hid hn2
      clear hg h1 h2 hn1 hn2
      go_enter Tryd.func3, Tryd.ntmps3
      go_wp2_with fail
      refine (known_cmd _ Hg.out).mono ?_
      rintro e w9 ⟨rfl, hch⟩
      have Hch := Lib.hid hch
      clear hch
      go_wp2
      go_ret
      exact ⟨rfl, Hch.out⟩
  · have t1 : decide (n < 1048516) = true := by simp; omega
    have Hg := Lib.hid hg
    have H1 := Lib.hid h1
    have Hn1 := Lib.hid hn1
    have Hn2 := Lib.hid hn2
    clear hg h1 hn1 hn2
    go_enter Tryd.func3, Tryd.ntmps3
    go_wp2_with fail
    refine (known_cmd _ Hg.out).mono ?_
    rintro e w9 ⟨rfl, hch⟩
    have Hch := Lib.hid hch
    clear hch
    go_wp2
    go_ret
    exact ⟨rfl, Hch.out⟩
end Go.Proofs.YtchkombikjcokaaDoor
