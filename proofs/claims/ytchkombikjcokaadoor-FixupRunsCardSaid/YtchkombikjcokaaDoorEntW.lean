/- fat.entries: its loop. -/
import Derived.Test.YtchkombikjcokaaDoorEntr
namespace Go.Proofs.YtchkombikjcokaaDoor
open Go.RowKit
set_option maxRecDepth 100000

theorem wrong_any (p n : Int) (hn : n ≠ 0) (w : World) : Calls Tryd.prog 61 #[.int .i64 p, .int .i64 n] w fun e w' => ∃ v, e = .returned v ∧ WErr w' v n ∧ v ≠ .nilIface ∧ Chg [] w w' := by
  go_enter Tryd.func61, Tryd.ntmps61
  go_wp2
  go_ret
  exact ⟨_, rfl, .inr ⟨hn, _, _, rfl, heap_alloc_eq w _⟩, (by intro h; cases h), (Chg.refl _ _).alloc _⟩

def entE (l : List UInt8) (size width : Nat) (ap : List SL → Int) : Int :=
  if l.length < 8 then 3 else if 32 < num l 4 4 then 11 else if l.length < 8 + num l 4 4 * size then 3 else if maysB l size width (num l 4 4) (num l 4 4) then ap (entries l size width (num l 4 4)) else 4

set_option maxHeartbeats 2000000 in
theorem ent20 (ap : List SL → Int) (l : List UInt8) (a : Option Addr) (cap : Nat) (w : World) (hg : Env w) (rd : Rd w (.slice a l.length cap) (bytesV l)) (h8 : 8 ≤ l.length) (hl : l.length ≤ 1048576)
    (hap : ∀ ls, ls.length ≤ 32 → (∀ s ∈ ls, s.ok) → ∀ v W, SlRd W v ls → Calls Tryd.prog 59 #[v] W fun e w' => ∃ v', e = .returned v' ∧ WErr w' v' (ap ls) ∧ Chg [] W w')
    (hm : num l 4 4 ≤ 32) (hfit : 8 + num l 4 4 * 20 ≤ l.length) :
    Calls Tryd.prog 64 #[.slice a l.length cap, .int .i64 20, .int .i64 4] w fun e w' => ∃ v v', e = .returned (.tuple #[v, v']) ∧ WErr w' v' (entE l 20 4 ap) ∧ SlRd w' v (entries l 20 4 (num l 4 4)) ∧ Chg [] w w' := by
  have HE : Hid (entE l 20 4 ap = if maysB l 20 4 (num l 4 4) (num l 4 4) then ap (entries l 20 4 (num l 4 4)) else 4) := by
    refine Lib.hid ?_
    unfold entE
    rw [if_neg (by omega), if_neg (by omega), if_neg (by omega)]
  obtain ⟨hv1, hs1⟩ := takeN4 l 4 (by omega)
  obtain ⟨many, hmany⟩ : ∃ m, m = num l 4 4 := ⟨_, rfl⟩
  rw [← hmany] at hv1 hm hfit HE ⊢
  have HS : Hid (seekS ⟨l, 0, true, false⟩ 4 = ⟨l, 4, true, false⟩) := Lib.hid (seek_to l 0 4 true (by omega))
  have hl2 : l.length ≤ 70368744177664 := by omega
  have dm : decide ((32 : Int) < (many : Int)) = false := by simp; omega
  have dl : decide ((l.length : Int) - 8 < (many : Int) * 20) = false := by simp; omega
  obtain ⟨Hn, hHn⟩ : ∃ h, h = 8 + many * 20 := ⟨_, rfl⟩
  have hHi : (8 : Int) + (many : Int) * 20 = (Hn : Int) := by omega
  have hHb : Hn ≤ 1032 := by omega
  have HHN := Lib.hid hHn
  clear hHn
  have HV1 := Lib.hid hv1
  have HS1 := Lib.hid hs1
  have HR := Lib.hid rd
  have HG := Lib.hid hg
  have HAP := Lib.hid hap
  have HL := Lib.hid hl
  clear hv1 hs1 rd hg hap hl
  clear hmany
  go_enter Tryd.func64, Tryd.ntmps64
  go_wp2_with fail
  refine (New_cur _ l true w HR.out (by omega)).mono ?_
  rintro e w1 ⟨c, rfl, hx, hcur, hch⟩
  have Hx := Lib.hid hx
  have Hcur := Lib.hid hcur
  have Hch := Lib.hid hch
  clear hx hcur hch
  go_wp2_with fail
  refine (Seek_cur c _ 4 w1 Hcur.out).mono ?_
  rintro e w2 ⟨rfl, hcur2, hch2⟩
  rw [HS.out] at hcur2
  have Hcur2 := Lib.hid hcur2
  have Hch2 := Lib.hid hch2
  clear hcur2 hch2
  go_wp2_with fail
  refine (Number_cur c _ 4 w2 Hcur2.out).mono ?_
  rintro e w3 ⟨rfl, hcur3, hch3⟩
  rw [HV1.out]
  rw [HS1.out] at hcur3
  have HC3 := Lib.hid (Hch.out.new (Hch2.out.same hch3) Hx.out)
  have Hcur3 := Lib.hid hcur3
  have Hch3 := Lib.hid hch3
  clear hcur3 hch3
  go_wp2_with fail
  refine (Err_cur c _ w3 (HG.out.frame HC3.out (by simp)) Hcur3.out).mono ?_
  rintro e w4 ⟨rfl, hch4⟩
  simp only [Bool.false_eq_true, if_false]
  have Hcur4 := Lib.hid (Hcur3.out.frame hch4)
  have HC4 := Lib.hid (HC3.out.then hch4)
  clear hch4
  go_wp2_with fail
  refine (Left_cur c _ w4 Hcur4.out).mono ?_
  rintro e w5 ⟨rfl, hd5⟩
  simp only
  rw [show ((4 + 4 : Nat) : Int) = 8 from rfl]
  have HC5 := Lib.hid (HC4.out.dr hd5)
  have Hcur5 := Lib.hid (Hcur4.out.frame ((Chg.refl [] w4).dr hd5))
  clear hd5
  have Hx0 : Hid (w.heap.size ≤ c) := Lib.hid (Hx.out)
  go_wp2_with fail
  go_loopw [6, 7, 42] (fun s6 s7 s42 wr => ∃ k : Nat, k ≤ many ∧ s42 = .int .i64 (k : Int) ∧ EntInv w5 c l 20 4 many s6 s7 k wr) (fun _ _ s42 _ => many - (intOf s42).toNat)
  case atStart => exact ⟨0, Nat.zero_le _, rfl, SlBuf.nil _ _, .inl ⟨rfl, rfl⟩, ⟨_, Hcur5.out⟩, Chg.refl _ _⟩
  case round =>
    obtain ⟨k, hk, rfl, hbuf, herr, ⟨pos, hcr⟩, hchr⟩ := hrel
    have Hbuf := Lib.hid hbuf
    have Herr := Lib.hid herr
    have Hcr := Lib.hid hcr
    have Hchr := Lib.hid hchr
    clear hbuf herr hcr hchr
    by_cases hlt : k < many
    · skip
      obtain ⟨p, hp⟩ : ∃ p, p = 8 + k * 20 := ⟨_, rfl⟩
      have hpi : (8 : Int) + (k : Int) * 20 = (p : Int) := by rw [hp]; omega
      have hpl : p + 20 ≤ l.length := by rw [hp]; omega
      have N1 := Lib.hid (takeN4 l p (by omega))
      have N2 := Lib.hid (takeN4 l (p + 4) (by omega))
      have N3 := Lib.hid (takeN4 l (p + 8) (by omega))
      have N4 := Lib.hid (takeN4 l (p + 12) (by omega))
      have N5 := Lib.hid (takeN4 l (p + 16) (by omega))
      have HSK : Hid (seekS ⟨l, pos, true, false⟩ (p : Int) = ⟨l, p, true, false⟩) := Lib.hid (seek_to l pos p true (by omega))
      obtain ⟨s, hs⟩ : ∃ s, s = entry l 4 p := ⟨_, rfl⟩
      have hok : s.ok := by rw [hs]; exact entry_ok _ _ _ (by decide)
      have HENT : Hid (entries l 20 4 (k + 1) = entries l 20 4 k ++ [s]) := Lib.hid (by rw [entries_succ, hs, hp])
      have HMS : Hid (maysB l 20 4 many (k + 1) = (maysB l 20 4 many k && mayS s s.align.toNat Hn l.length)) := Lib.hid (by rw [maysB_succ, hs, hp, HHN.out])
      obtain ⟨n1, hn1⟩ : ∃ n, n = num l p 4 := ⟨_, rfl⟩
      obtain ⟨n2, hn2⟩ : ∃ n, n = num l (p + 4) 4 := ⟨_, rfl⟩
      obtain ⟨n3, hn3⟩ : ∃ n, n = num l (p + 8) 4 := ⟨_, rfl⟩
      obtain ⟨n4, hn4⟩ : ∃ n, n = num l (p + 12) 4 := ⟨_, rfl⟩
      obtain ⟨n5, hn5⟩ : ∃ n, n = num l (p + 16) 4 := ⟨_, rfl⟩
      have b1 : n1 < 4294967296 := by rw [hn1]; exact num4 _ _
      have b2 : n2 < 4294967296 := by rw [hn2]; exact num4 _ _
      have b5 : n5 < 4294967296 := by rw [hn5]; exact num4 _ _
      have hse : s = ⟨n1, n2, n3, n4, (n5 : Int)⟩ := by rw [hs, hn1, hn2, hn3, hn4, hn5]; rfl
      rw [← hn1] at N1
      rw [← hn2] at N2
      rw [← hn3] at N3
      rw [← hn4] at N4
      rw [← hn5] at N5
      have HSEX := Lib.hid (hse)
      have HOK := Lib.hid (hok)
      clear hp hs hn1 hn2 hn3 hn4 hn5 hse hok
      have HSA : Hid (s.align.toNat = n5) := Lib.hid (by rw [HSEX.out]; rfl)
      have HMAY := Lib.hid (fun w => may_any s HOK.out n5 Hn (by omega) a l.length cap HL.out w)
      rw [HSEX.out] at HMAY
      simp only [SL.val] at HMAY
      rw [← HSEX.out] at HMAY
      go_wp2_with fail
      refine (Seek_cur c _ (p : Int) wr Hcr.out).mono ?_
      rintro e r1 ⟨rfl, hcx, hch⟩
      rw [HSK.out] at hcx
      have X1 := Lib.hid (hcx)
      have B1 := Lib.hid (Hbuf.out.cur Hcr.out hch)
      have E1 := Lib.hid (Herr.out.cur Hcr.out hch)
      have C1 := Lib.hid (Hchr.out.same hch)
      clear hcx hch
      go_wp2_with fail
      refine (Number_cur c _ 4 r1 X1.out).mono ?_
      rintro e r2 ⟨rfl, hcx, hch⟩
      rw [N1.out.1]
      rw [N1.out.2] at hcx
      try simp only [Nat.add_assoc, Nat.reduceAdd] at hcx
      have X2 := Lib.hid (hcx)
      have B2 := Lib.hid (B1.out.cur X1.out hch)
      have E2 := Lib.hid (E1.out.cur X1.out hch)
      have C2 := Lib.hid (C1.out.same hch)
      clear hcx hch
      go_wp2_with fail
      refine (Number_cur c _ 4 r2 X2.out).mono ?_
      rintro e r3 ⟨rfl, hcx, hch⟩
      rw [N2.out.1]
      rw [N2.out.2] at hcx
      try simp only [Nat.add_assoc, Nat.reduceAdd] at hcx
      have X3 := Lib.hid (hcx)
      have B3 := Lib.hid (B2.out.cur X2.out hch)
      have E3 := Lib.hid (E2.out.cur X2.out hch)
      have C3 := Lib.hid (C2.out.same hch)
      clear hcx hch
      go_wp2_with fail
      obtain ⟨r4, hr4⟩ : ∃ q, q = r3.alloc (.cells #[.int .u32 n1, .int .u32 n2, .int .u64 0, .int .u64 0, .int .i64 0] 52) := ⟨_, rfl⟩
      obtain ⟨q, hq⟩ : ∃ q, q = r3.heap.size := ⟨_, rfl⟩
      have Q4 : Hid (r4.heap[q]? = some (.cells #[.int .u32 n1, .int .u32 n2, .int .u64 0, .int .u64 0, .int .i64 0] 52 (0, 0))) := Lib.hid (by rw [hr4, hq]; exact heap_alloc_eq _ _)
      have ha : Chg [] r3 r4 := by rw [hr4]; exact (Chg.refl _ _).alloc _
      have QC : Hid (q ∉ [c]) := by
        refine Lib.hid ?_
        rw [List.mem_singleton, hq]
        have := X3.out.lt
        omega
      have QN : Hid (∀ i ∈ [q], i < w5.heap.size → i ∈ [c]) := by
        refine Lib.hid ?_
        intro i hi hlt
        rw [List.mem_singleton, hq] at hi
        have := C3.out.size
        omega
      have QX : Hid (∀ i ∈ [q], c < i) := by
        refine Lib.hid ?_
        intro i hi
        rw [List.mem_singleton, hq] at hi
        have := X3.out.lt
        omega
      have X4 := Lib.hid (X3.out.frame ha)
      have B4 := Lib.hid (B3.out.pure ha)
      have E4 := Lib.hid (E3.out.pure ha)
      have C4 := Lib.hid (C3.out.then ha)
      have QB : Hid (∀ b, Value.ownBlock u6 = some b → b ∉ [q]) := by
        refine Lib.hid ?_
        intro b hb
        rw [List.mem_singleton, hq]
        have := World.ownsRow.lt B3.out b hb
        omega
      rw [← hr4, ← hq]
      clear hr4 hq ha
      refine (Number_cur c _ 4 r4 X4.out).mono ?_
      rintro e r5 ⟨rfl, hcx, hch⟩
      rw [N3.out.1]
      rw [N3.out.2] at hcx
      try simp only [Nat.add_assoc, Nat.reduceAdd] at hcx
      have X5 := Lib.hid (hcx)
      have B5 := Lib.hid (B4.out.cur X4.out hch)
      have E5 := Lib.hid (E4.out.cur X4.out hch)
      have C5 := Lib.hid (C4.out.same hch)
      have Q5 := Lib.hid (hch.heap Q4.out QC.out)
      clear hcx hch
      go_wp2_with fail
      refine (Number_cur c _ 4 r5 X5.out).mono ?_
      rintro e r6 ⟨rfl, hcx, hch⟩
      rw [N4.out.1]
      rw [N4.out.2] at hcx
      try simp only [Nat.add_assoc, Nat.reduceAdd] at hcx
      have X6 := Lib.hid (hcx)
      have B6 := Lib.hid (B5.out.cur X5.out hch)
      have E6 := Lib.hid (E5.out.cur X5.out hch)
      have C6 := Lib.hid (C5.out.same hch)
      have hq6 := hch.heap Q5.out QC.out
      have Q6 := Lib.hid (hq6)
      clear hcx hch
      have f2 := frozen_of_heap hq6 2
      have f3 := frozen_of_heap hq6 3
      have d2 := cell_of_heap hq6 2
      have d3 := cell_of_heap hq6 3
      simp at d2 d3
      clear hq6
      go_wp2_with fail
      clear f2 f3 d2 d3
      obtain ⟨r7, hr7⟩ : ∃ x, x = (r6.setCell ⟨q, 2, none⟩ (.int .u64 n3)).setCell ⟨q, 3, none⟩ (.int .u64 n4) := ⟨_, rfl⟩
      have ha : Chg [q] r6 r7 := by rw [hr7]; exact ((Chg.refl [q] r6).setCell _ _ (.inl (by simp))).setCell _ _ (.inl (by simp))
      have Q7 : Hid (r7.heap[q]? = some (.cells #[.int .u32 n1, .int .u32 n2, .int .u64 n3, .int .u64 n4, .int .i64 0] 52 (0, 0))) := Lib.hid (by rw [hr7]; exact heap_setCell (heap_setCell Q6.out 2 _) 3 _)
      have X7 := Lib.hid (X6.out.far ha QX.out)
      have B7 := Lib.hid (B6.out.frame ha QB.out)
      have E7 := Lib.hid (E6.out.cell Q6.out ha)
      have C7 := Lib.hid (C6.out.trans ha QN.out)
      rw [← hr7]
      clear hr7 ha
      refine (Number_cur c _ 4 r7 X7.out).mono ?_
      rintro e r8 ⟨rfl, hcx, hch⟩
      rw [N5.out.1]
      rw [N5.out.2] at hcx
      have X8 := Lib.hid (hcx)
      have B8 := Lib.hid (B7.out.cur X7.out hch)
      have E8 := Lib.hid (E7.out.cur X7.out hch)
      have C8 := Lib.hid (C7.out.same hch)
      have hq8 := hch.heap Q7.out QC.out
      clear hcx hch
      have Q8 := Lib.hid (hq8)
      have f4 := frozen_of_heap hq8 4
      have d0 := cell_of_heap hq8 0
      have d1 := cell_of_heap hq8 1
      have d2 := cell_of_heap hq8 2
      have d3 := cell_of_heap hq8 3
      have d4 := cell_of_heap hq8 4
      simp at d0 d1 d2 d3 d4
      clear hq8
      have ha : Chg [q] r8 (r8.setCell ⟨q, 4, none⟩ (.int .i64 n5)) := (Chg.refl [q] r8).setCell _ _ (.inl (by simp))
      have Q9 : Hid ((r8.setCell ⟨q, 4, none⟩ (.int .i64 n5)).heap[q]? = some (.cells #[.int .u32 n1, .int .u32 n2, .int .u64 n3, .int .u64 n4, .int .i64 n5] 52 (0, 0))) := Lib.hid (heap_setCell Q8.out 4 _)
      have X9 := Lib.hid (X8.out.far ha QX.out)
      have B9 := Lib.hid (B8.out.frame ha QB.out)
      have E9 := Lib.hid (E8.out.cell Q8.out ha)
      have C9 := Lib.hid (C8.out.trans ha QN.out)
      clear ha
      cases hmk : maysB l 20 4 many k with
      | true =>
        rw [hmk] at E9 HMS
        clear hmk
        have hnil : u7 = .nilIface := by
          rcases E9.out with h | ⟨h, _⟩
          · exact h.2
          · exact absurd rfl h
        subst hnil
        go_wp2_with fail
        clear d0 d1 d2 d3 d4 f4
        refine (HMAY.out _).mono ?_
        rintro e r10 ⟨rfl, hch⟩
        have B10 := Lib.hid (B9.out.pure hch)
        have E10 := Lib.hid (E9.out.pure hch)
        have X10 := Lib.hid (X9.out.frame hch)
        have C10 := Lib.hid (C9.out.then hch)
        have hq10 := hch.heap Q9.out (by simp)
        have Q10 := Lib.hid (hq10)
        clear hch
        cases hmb : mayS s n5 Hn l.length with
        | true =>
          have HMS2 : Hid (maysB l 20 4 many (k + 1) = true) := Lib.hid (by rw [HMS.out, HSA.out, hmb]; rfl)
          clear hmb
          have d0 := cell_of_heap hq10 0
          have d1 := cell_of_heap hq10 1
          have d2 := cell_of_heap hq10 2
          have d3 := cell_of_heap hq10 3
          have d4 := cell_of_heap hq10 4
          simp at d0 d1 d2 d3 d4
          clear hq10
          have BA := Lib.hid (B10.out.pure ((Chg.refl [] r10).alloc (.cells #[.int .u32 n1, .int .u32 n2, .int .u64 n3, .int .u64 n4, .int .i64 n5] 52)))
          have EA := Lib.hid (E10.out.pure ((Chg.refl [] r10).alloc (.cells #[.int .u32 n1, .int .u32 n2, .int .u64 n3, .int .u64 n4, .int .i64 n5] 52)))
          have XA := Lib.hid (X10.out.frame ((Chg.refl [] r10).alloc (.cells #[.int .u32 n1, .int .u32 n2, .int .u64 n3, .int .u64 n4, .int .i64 n5] 52)))
          have CA := Lib.hid (C10.out.then ((Chg.refl [] r10).alloc (.cells #[.int .u32 n1, .int .u32 n2, .int .u64 n3, .int .u64 n4, .int .i64 n5] 52)))
          have QA : Hid ((r10.alloc (.cells #[.int .u32 n1, .int .u32 n2, .int .u64 n3, .int .u64 n4, .int .i64 n5] 52)).heap[r10.heap.size]? = some (.cells #[.int .u32 n1, .int .u32 n2, .int .u64 n3, .int .u64 n4, .int .i64 n5] 52 (0, 0))) := by
            refine Lib.hid ?_
            have := heap_alloc_eq r10 (.cells #[.int .u32 n1, .int .u32 n2, .int .u64 n3, .int .u64 n4, .int .i64 n5] 52)
            simpa using this
          go_wp2_with (at_builtin; refine app_sl rfl _ _ rfl w5.heap.size u6 (entries l 20 4 k) rfl BA.out (r10.heap.size) ⟨n1, n2, n3, n4, n5⟩ rfl QA.out (by rw [entries_len]; omega) (by have := CA.out.size; omega) ?_; intro va wa hoa hga; refine Hid.out ?_)
          refine Lib.hid ?_
          have BZ : Hid (SlBuf wa w5.heap.size va (entries l 20 4 (k + 1))) := by
            refine Lib.hid ?_
            rw [HENT.out, HSEX.out]
            exact hoa
          have EZ := Lib.hid (EA.out.grown BA.out hga)
          have XZ := Lib.hid (XA.out.grown Hcur5.out.lt BA.out hga)
          have CZ := Lib.hid (CA.out.trans (Chg.of_grown hga) (fun i hi hlt => by have := World.ownsRow.lt BA.out i (by simpa using hi); omega))
          clear hoa hga
          go_wp2
          go_roundw
          case rel => exact ⟨k + 1, hlt, by go_num, BZ.out, by rw [HMS2.out]; exact EZ.out, ⟨_, XZ.out⟩, CZ.out⟩
          case measure => simp [intOf]; omega
        | false =>
          have HMS2 : Hid (maysB l 20 4 many (k + 1) = false) := Lib.hid (by rw [HMS.out, HSA.out, hmb]; rfl)
          clear hmb hq10
          go_wp2_with fail
          refine (wrong_any _ 4 (by decide) r10).mono ?_
          rintro e r11 ⟨v7, rfl, he11, hv7, hch⟩
          have B11 := Lib.hid (B10.out.pure hch)
          have E11 := Lib.hid (he11)
          have X11 := Lib.hid (X10.out.frame hch)
          have C11 := Lib.hid (C10.out.then hch)
          have hq11 := hch.heap Q10.out (by simp)
          clear hch he11 hv7
          have d0 := cell_of_heap hq11 0
          have d1 := cell_of_heap hq11 1
          have d2 := cell_of_heap hq11 2
          have d3 := cell_of_heap hq11 3
          have d4 := cell_of_heap hq11 4
          simp at d0 d1 d2 d3 d4
          clear hq11
          have BA := Lib.hid (B11.out.pure ((Chg.refl [] r11).alloc (.cells #[.int .u32 n1, .int .u32 n2, .int .u64 n3, .int .u64 n4, .int .i64 n5] 52)))
          have EA := Lib.hid (E11.out.pure ((Chg.refl [] r11).alloc (.cells #[.int .u32 n1, .int .u32 n2, .int .u64 n3, .int .u64 n4, .int .i64 n5] 52)))
          have XA := Lib.hid (X11.out.frame ((Chg.refl [] r11).alloc (.cells #[.int .u32 n1, .int .u32 n2, .int .u64 n3, .int .u64 n4, .int .i64 n5] 52)))
          have CA := Lib.hid (C11.out.then ((Chg.refl [] r11).alloc (.cells #[.int .u32 n1, .int .u32 n2, .int .u64 n3, .int .u64 n4, .int .i64 n5] 52)))
          have QA : Hid ((r11.alloc (.cells #[.int .u32 n1, .int .u32 n2, .int .u64 n3, .int .u64 n4, .int .i64 n5] 52)).heap[r11.heap.size]? = some (.cells #[.int .u32 n1, .int .u32 n2, .int .u64 n3, .int .u64 n4, .int .i64 n5] 52 (0, 0))) := by
            refine Lib.hid ?_
            have := heap_alloc_eq r11 (.cells #[.int .u32 n1, .int .u32 n2, .int .u64 n3, .int .u64 n4, .int .i64 n5] 52)
            simpa using this
          go_wp2_with (at_builtin; refine app_sl rfl _ _ rfl w5.heap.size u6 (entries l 20 4 k) rfl BA.out (r11.heap.size) ⟨n1, n2, n3, n4, n5⟩ rfl QA.out (by rw [entries_len]; omega) (by have := CA.out.size; omega) ?_; intro va wa hoa hga; refine Hid.out ?_)
          refine Lib.hid ?_
          have BZ : Hid (SlBuf wa w5.heap.size va (entries l 20 4 (k + 1))) := by
            refine Lib.hid ?_
            rw [HENT.out, HSEX.out]
            exact hoa
          have EZ := Lib.hid (EA.out.grown BA.out hga)
          have XZ := Lib.hid (XA.out.grown Hcur5.out.lt BA.out hga)
          have CZ := Lib.hid (CA.out.trans (Chg.of_grown hga) (fun i hi hlt => by have := World.ownsRow.lt BA.out i (by simpa using hi); omega))
          clear hoa hga
          go_wp2
          go_roundw
          case rel => exact ⟨k + 1, hlt, by go_num, BZ.out, by rw [HMS2.out]; exact EZ.out, ⟨_, XZ.out⟩, CZ.out⟩
          case measure => simp [intOf]; omega
      | false =>
        rw [hmk] at E9 HMS
        clear hmk
        have HMS2 : Hid (maysB l 20 4 many (k + 1) = false) := Lib.hid (by rw [HMS.out]; rfl)
        obtain ⟨eb, rfl⟩ : ∃ b, u7 = .iface 149 (.pointer (some ⟨b, 0, none⟩)) := by
          rcases E9.out with h | ⟨h, b, at_, h2, _⟩
          · exact absurd h.1 (by decide)
          · exact ⟨b, h2⟩
        have BA := Lib.hid (B9.out.pure ((Chg.refl [] (r8.setCell ⟨q, 4, none⟩ (.int .i64 n5))).alloc (.cells #[.int .u32 n1, .int .u32 n2, .int .u64 n3, .int .u64 n4, .int .i64 n5] 52)))
        have EA := Lib.hid (E9.out.pure ((Chg.refl [] (r8.setCell ⟨q, 4, none⟩ (.int .i64 n5))).alloc (.cells #[.int .u32 n1, .int .u32 n2, .int .u64 n3, .int .u64 n4, .int .i64 n5] 52)))
        have XA := Lib.hid (X9.out.frame ((Chg.refl [] (r8.setCell ⟨q, 4, none⟩ (.int .i64 n5))).alloc (.cells #[.int .u32 n1, .int .u32 n2, .int .u64 n3, .int .u64 n4, .int .i64 n5] 52)))
        have CA := Lib.hid (C9.out.then ((Chg.refl [] (r8.setCell ⟨q, 4, none⟩ (.int .i64 n5))).alloc (.cells #[.int .u32 n1, .int .u32 n2, .int .u64 n3, .int .u64 n4, .int .i64 n5] 52)))
        have QA : Hid (((r8.setCell ⟨q, 4, none⟩ (.int .i64 n5)).alloc (.cells #[.int .u32 n1, .int .u32 n2, .int .u64 n3, .int .u64 n4, .int .i64 n5] 52)).heap[r8.heap.size]? = some (.cells #[.int .u32 n1, .int .u32 n2, .int .u64 n3, .int .u64 n4, .int .i64 n5] 52 (0, 0))) := by
          refine Lib.hid ?_
          have := heap_alloc_eq (r8.setCell ⟨q, 4, none⟩ (.int .i64 n5)) (.cells #[.int .u32 n1, .int .u32 n2, .int .u64 n3, .int .u64 n4, .int .i64 n5] 52)
          simpa using this
        go_wp2_with (at_builtin; refine app_sl rfl _ _ rfl w5.heap.size u6 (entries l 20 4 k) rfl BA.out (r8.heap.size) ⟨n1, n2, n3, n4, n5⟩ rfl QA.out (by rw [entries_len]; omega) (by have := CA.out.size; omega) ?_; intro va wa hoa hga; refine Hid.out ?_)
        refine Lib.hid ?_
        have BZ : Hid (SlBuf wa w5.heap.size va (entries l 20 4 (k + 1))) := by
          refine Lib.hid ?_
          rw [HENT.out, HSEX.out]
          exact hoa
        have EZ := Lib.hid (EA.out.grown BA.out hga)
        have XZ := Lib.hid (XA.out.grown Hcur5.out.lt BA.out hga)
        have CZ := Lib.hid (CA.out.trans (Chg.of_grown hga) (fun i hi hlt => by have := World.ownsRow.lt BA.out i (by simpa using hi); omega))
        clear hoa hga
        go_wp2
        go_roundw
        case rel => exact ⟨k + 1, hlt, by go_num, BZ.out, by rw [HMS2.out]; exact EZ.out, ⟨_, XZ.out⟩, CZ.out⟩
        case measure => simp [intOf]; omega
    · obtain rfl : k = many := by omega
      cases hmk : maysB l 20 4 k k with
      | true =>
        have HE1 : Hid (entE l 20 4 ap = ap (entries l 20 4 k)) := Lib.hid (by rw [HE.out, hmk]; rfl)
        rw [hmk] at Herr
        have hnil : u7 = .nilIface := by
          rcases Herr.out with h | ⟨h, _⟩
          · exact h.2
          · exact absurd rfl h
        subst hnil
        clear hmk
        have HQ := Lib.hid (HAP.out (entries l 20 4 k) (by rw [entries_len]; exact hm) (entries_ok _ _ _ _ (by decide)) u6 wr Hbuf.out.rd)
        go_wp2_with fail
        refine HQ.out.mono ?_
        rintro e w6 ⟨v', rfl, he, hch⟩
        have HE6 := Lib.hid (he)
        have HC6 := Lib.hid ((HC5.out.new Hchr.out Hx0.out).then hch)
        have HB6 := Lib.hid ((Hbuf.out.pure hch).rd)
        clear he hch
        go_wp2
        go_ret2
        rw [HE1.out]
        exact ⟨_, _, rfl, HE6.out, HB6.out, HC6.out⟩
      | false =>
        have HE1 : Hid (entE l 20 4 ap = 4) := Lib.hid (by rw [HE.out, hmk]; rfl)
        rw [hmk] at Herr
        obtain ⟨eb, rfl⟩ : ∃ b, u7 = .iface 149 (.pointer (some ⟨b, 0, none⟩)) := by
          rcases Herr.out with h | ⟨h, b, at_, h2, _⟩
          · exact absurd h.1 (by decide)
          · exact ⟨b, h2⟩
        clear hmk
        go_wp2
        go_ret2
        rw [HE1.out]
        exact ⟨_, _, rfl, Herr.out, Hbuf.out.rd, HC5.out.new Hchr.out Hx0.out⟩
set_option maxHeartbeats 2000000 in
theorem ent32 (ap : List SL → Int) (l : List UInt8) (a : Option Addr) (cap : Nat) (w : World) (hg : Env w) (rd : Rd w (.slice a l.length cap) (bytesV l)) (h8 : 8 ≤ l.length) (hl : l.length ≤ 1048576)
    (hap : ∀ ls, ls.length ≤ 32 → (∀ s ∈ ls, s.ok) → ∀ v W, SlRd W v ls → Calls Tryd.prog 59 #[v] W fun e w' => ∃ v', e = .returned v' ∧ WErr w' v' (ap ls) ∧ Chg [] W w')
    (hm : num l 4 4 ≤ 32) (hfit : 8 + num l 4 4 * 32 ≤ l.length) :
    Calls Tryd.prog 64 #[.slice a l.length cap, .int .i64 32, .int .i64 8] w fun e w' => ∃ v v', e = .returned (.tuple #[v, v']) ∧ WErr w' v' (entE l 32 8 ap) ∧ SlRd w' v (entries l 32 8 (num l 4 4)) ∧ Chg [] w w' := by
  have HE : Hid (entE l 32 8 ap = if maysB l 32 8 (num l 4 4) (num l 4 4) then ap (entries l 32 8 (num l 4 4)) else 4) := by
    refine Lib.hid ?_
    unfold entE
    rw [if_neg (by omega), if_neg (by omega), if_neg (by omega)]
  obtain ⟨hv1, hs1⟩ := takeN4 l 4 (by omega)
  obtain ⟨many, hmany⟩ : ∃ m, m = num l 4 4 := ⟨_, rfl⟩
  rw [← hmany] at hv1 hm hfit HE ⊢
  have HS : Hid (seekS ⟨l, 0, true, false⟩ 4 = ⟨l, 4, true, false⟩) := Lib.hid (seek_to l 0 4 true (by omega))
  have hl2 : l.length ≤ 70368744177664 := by omega
  have dm : decide ((32 : Int) < (many : Int)) = false := by simp; omega
  have dl : decide ((l.length : Int) - 8 < (many : Int) * 32) = false := by simp; omega
  obtain ⟨Hn, hHn⟩ : ∃ h, h = 8 + many * 32 := ⟨_, rfl⟩
  have hHi : (8 : Int) + (many : Int) * 32 = (Hn : Int) := by omega
  have hHb : Hn ≤ 1032 := by omega
  have HHN := Lib.hid hHn
  clear hHn
  have HV1 := Lib.hid hv1
  have HS1 := Lib.hid hs1
  have HR := Lib.hid rd
  have HG := Lib.hid hg
  have HAP := Lib.hid hap
  have HL := Lib.hid hl
  clear hv1 hs1 rd hg hap hl
  clear hmany
  go_enter Tryd.func64, Tryd.ntmps64
  go_wp2_with fail
  refine (New_cur _ l true w HR.out (by omega)).mono ?_
  rintro e w1 ⟨c, rfl, hx, hcur, hch⟩
  have Hx := Lib.hid hx
  have Hcur := Lib.hid hcur
  have Hch := Lib.hid hch
  clear hx hcur hch
  go_wp2_with fail
  refine (Seek_cur c _ 4 w1 Hcur.out).mono ?_
  rintro e w2 ⟨rfl, hcur2, hch2⟩
  rw [HS.out] at hcur2
  have Hcur2 := Lib.hid hcur2
  have Hch2 := Lib.hid hch2
  clear hcur2 hch2
  go_wp2_with fail
  refine (Number_cur c _ 4 w2 Hcur2.out).mono ?_
  rintro e w3 ⟨rfl, hcur3, hch3⟩
  rw [HV1.out]
  rw [HS1.out] at hcur3
  have HC3 := Lib.hid (Hch.out.new (Hch2.out.same hch3) Hx.out)
  have Hcur3 := Lib.hid hcur3
  have Hch3 := Lib.hid hch3
  clear hcur3 hch3
  go_wp2_with fail
  refine (Err_cur c _ w3 (HG.out.frame HC3.out (by simp)) Hcur3.out).mono ?_
  rintro e w4 ⟨rfl, hch4⟩
  simp only [Bool.false_eq_true, if_false]
  have Hcur4 := Lib.hid (Hcur3.out.frame hch4)
  have HC4 := Lib.hid (HC3.out.then hch4)
  clear hch4
  go_wp2_with fail
  refine (Left_cur c _ w4 Hcur4.out).mono ?_
  rintro e w5 ⟨rfl, hd5⟩
  simp only
  rw [show ((4 + 4 : Nat) : Int) = 8 from rfl]
  have HC5 := Lib.hid (HC4.out.dr hd5)
  have Hcur5 := Lib.hid (Hcur4.out.frame ((Chg.refl [] w4).dr hd5))
  clear hd5
  have Hx0 : Hid (w.heap.size ≤ c) := Lib.hid (Hx.out)
  go_wp2_with fail
  go_loopw [6, 7, 42] (fun s6 s7 s42 wr => ∃ k : Nat, k ≤ many ∧ s42 = .int .i64 (k : Int) ∧ EntInv w5 c l 32 8 many s6 s7 k wr) (fun _ _ s42 _ => many - (intOf s42).toNat)
  case atStart => exact ⟨0, Nat.zero_le _, rfl, SlBuf.nil _ _, .inl ⟨rfl, rfl⟩, ⟨_, Hcur5.out⟩, Chg.refl _ _⟩
  case round =>
    obtain ⟨k, hk, rfl, hbuf, herr, ⟨pos, hcr⟩, hchr⟩ := hrel
    have Hbuf := Lib.hid hbuf
    have Herr := Lib.hid herr
    have Hcr := Lib.hid hcr
    have Hchr := Lib.hid hchr
    clear hbuf herr hcr hchr
    by_cases hlt : k < many
    · skip
      obtain ⟨p, hp⟩ : ∃ p, p = 8 + k * 32 := ⟨_, rfl⟩
      have hpi : (8 : Int) + (k : Int) * 32 = (p : Int) := by rw [hp]; omega
      have hpl : p + 32 ≤ l.length := by rw [hp]; omega
      have N1 := Lib.hid (takeN4 l p (by omega))
      have N2 := Lib.hid (takeN4 l (p + 4) (by omega))
      have N3 := Lib.hid (takeN8 l (p + 8) (by omega))
      have N4 := Lib.hid (takeN8 l (p + 16) (by omega))
      have N5 := Lib.hid (takeN4 l (p + 24) (by omega))
      have HSK : Hid (seekS ⟨l, pos, true, false⟩ (p : Int) = ⟨l, p, true, false⟩) := Lib.hid (seek_to l pos p true (by omega))
      obtain ⟨s, hs⟩ : ∃ s, s = entry l 8 p := ⟨_, rfl⟩
      have hok : s.ok := by rw [hs]; exact entry_ok _ _ _ (by decide)
      have HENT : Hid (entries l 32 8 (k + 1) = entries l 32 8 k ++ [s]) := Lib.hid (by rw [entries_succ, hs, hp])
      have HMS : Hid (maysB l 32 8 many (k + 1) = (maysB l 32 8 many k && mayS s s.align.toNat Hn l.length)) := Lib.hid (by rw [maysB_succ, hs, hp, HHN.out])
      obtain ⟨n1, hn1⟩ : ∃ n, n = num l p 4 := ⟨_, rfl⟩
      obtain ⟨n2, hn2⟩ : ∃ n, n = num l (p + 4) 4 := ⟨_, rfl⟩
      obtain ⟨n3, hn3⟩ : ∃ n, n = num l (p + 8) 8 := ⟨_, rfl⟩
      obtain ⟨n4, hn4⟩ : ∃ n, n = num l (p + 16) 8 := ⟨_, rfl⟩
      obtain ⟨n5, hn5⟩ : ∃ n, n = num l (p + 24) 4 := ⟨_, rfl⟩
      have b1 : n1 < 4294967296 := by rw [hn1]; exact num4 _ _
      have b2 : n2 < 4294967296 := by rw [hn2]; exact num4 _ _
      have b5 : n5 < 4294967296 := by rw [hn5]; exact num4 _ _
      have hse : s = ⟨n1, n2, n3, n4, (n5 : Int)⟩ := by rw [hs, hn1, hn2, hn3, hn4, hn5]; rfl
      rw [← hn1] at N1
      rw [← hn2] at N2
      rw [← hn3] at N3
      rw [← hn4] at N4
      rw [← hn5] at N5
      have HSEX := Lib.hid (hse)
      have HOK := Lib.hid (hok)
      clear hp hs hn1 hn2 hn3 hn4 hn5 hse hok
      have HSA : Hid (s.align.toNat = n5) := Lib.hid (by rw [HSEX.out]; rfl)
      have HMAY := Lib.hid (fun w => may_any s HOK.out n5 Hn (by omega) a l.length cap HL.out w)
      rw [HSEX.out] at HMAY
      simp only [SL.val] at HMAY
      rw [← HSEX.out] at HMAY
      go_wp2_with fail
      refine (Seek_cur c _ (p : Int) wr Hcr.out).mono ?_
      rintro e r1 ⟨rfl, hcx, hch⟩
      rw [HSK.out] at hcx
      have X1 := Lib.hid (hcx)
      have B1 := Lib.hid (Hbuf.out.cur Hcr.out hch)
      have E1 := Lib.hid (Herr.out.cur Hcr.out hch)
      have C1 := Lib.hid (Hchr.out.same hch)
      clear hcx hch
      go_wp2_with fail
      refine (Number_cur c _ 4 r1 X1.out).mono ?_
      rintro e r2 ⟨rfl, hcx, hch⟩
      rw [N1.out.1]
      rw [N1.out.2] at hcx
      try simp only [Nat.add_assoc, Nat.reduceAdd] at hcx
      have X2 := Lib.hid (hcx)
      have B2 := Lib.hid (B1.out.cur X1.out hch)
      have E2 := Lib.hid (E1.out.cur X1.out hch)
      have C2 := Lib.hid (C1.out.same hch)
      clear hcx hch
      go_wp2_with fail
      refine (Number_cur c _ 4 r2 X2.out).mono ?_
      rintro e r3 ⟨rfl, hcx, hch⟩
      rw [N2.out.1]
      rw [N2.out.2] at hcx
      try simp only [Nat.add_assoc, Nat.reduceAdd] at hcx
      have X3 := Lib.hid (hcx)
      have B3 := Lib.hid (B2.out.cur X2.out hch)
      have E3 := Lib.hid (E2.out.cur X2.out hch)
      have C3 := Lib.hid (C2.out.same hch)
      clear hcx hch
      go_wp2_with fail
      obtain ⟨r4, hr4⟩ : ∃ q, q = r3.alloc (.cells #[.int .u32 n1, .int .u32 n2, .int .u64 0, .int .u64 0, .int .i64 0] 52) := ⟨_, rfl⟩
      obtain ⟨q, hq⟩ : ∃ q, q = r3.heap.size := ⟨_, rfl⟩
      have Q4 : Hid (r4.heap[q]? = some (.cells #[.int .u32 n1, .int .u32 n2, .int .u64 0, .int .u64 0, .int .i64 0] 52 (0, 0))) := Lib.hid (by rw [hr4, hq]; exact heap_alloc_eq _ _)
      have ha : Chg [] r3 r4 := by rw [hr4]; exact (Chg.refl _ _).alloc _
      have QC : Hid (q ∉ [c]) := by
        refine Lib.hid ?_
        rw [List.mem_singleton, hq]
        have := X3.out.lt
        omega
      have QN : Hid (∀ i ∈ [q], i < w5.heap.size → i ∈ [c]) := by
        refine Lib.hid ?_
        intro i hi hlt
        rw [List.mem_singleton, hq] at hi
        have := C3.out.size
        omega
      have QX : Hid (∀ i ∈ [q], c < i) := by
        refine Lib.hid ?_
        intro i hi
        rw [List.mem_singleton, hq] at hi
        have := X3.out.lt
        omega
      have X4 := Lib.hid (X3.out.frame ha)
      have B4 := Lib.hid (B3.out.pure ha)
      have E4 := Lib.hid (E3.out.pure ha)
      have C4 := Lib.hid (C3.out.then ha)
      have QB : Hid (∀ b, Value.ownBlock u6 = some b → b ∉ [q]) := by
        refine Lib.hid ?_
        intro b hb
        rw [List.mem_singleton, hq]
        have := World.ownsRow.lt B3.out b hb
        omega
      rw [← hr4, ← hq]
      clear hr4 hq ha
      refine (Number_cur c _ 8 r4 X4.out).mono ?_
      rintro e r5 ⟨rfl, hcx, hch⟩
      rw [N3.out.1]
      rw [N3.out.2] at hcx
      try simp only [Nat.add_assoc, Nat.reduceAdd] at hcx
      have X5 := Lib.hid (hcx)
      have B5 := Lib.hid (B4.out.cur X4.out hch)
      have E5 := Lib.hid (E4.out.cur X4.out hch)
      have C5 := Lib.hid (C4.out.same hch)
      have Q5 := Lib.hid (hch.heap Q4.out QC.out)
      clear hcx hch
      go_wp2_with fail
      refine (Number_cur c _ 8 r5 X5.out).mono ?_
      rintro e r6 ⟨rfl, hcx, hch⟩
      rw [N4.out.1]
      rw [N4.out.2] at hcx
      try simp only [Nat.add_assoc, Nat.reduceAdd] at hcx
      have X6 := Lib.hid (hcx)
      have B6 := Lib.hid (B5.out.cur X5.out hch)
      have E6 := Lib.hid (E5.out.cur X5.out hch)
      have C6 := Lib.hid (C5.out.same hch)
      have hq6 := hch.heap Q5.out QC.out
      have Q6 := Lib.hid (hq6)
      clear hcx hch
      have f2 := frozen_of_heap hq6 2
      have f3 := frozen_of_heap hq6 3
      have d2 := cell_of_heap hq6 2
      have d3 := cell_of_heap hq6 3
      simp at d2 d3
      clear hq6
      go_wp2_with fail
      clear f2 f3 d2 d3
      obtain ⟨r7, hr7⟩ : ∃ x, x = (r6.setCell ⟨q, 2, none⟩ (.int .u64 n3)).setCell ⟨q, 3, none⟩ (.int .u64 n4) := ⟨_, rfl⟩
      have ha : Chg [q] r6 r7 := by rw [hr7]; exact ((Chg.refl [q] r6).setCell _ _ (.inl (by simp))).setCell _ _ (.inl (by simp))
      have Q7 : Hid (r7.heap[q]? = some (.cells #[.int .u32 n1, .int .u32 n2, .int .u64 n3, .int .u64 n4, .int .i64 0] 52 (0, 0))) := Lib.hid (by rw [hr7]; exact heap_setCell (heap_setCell Q6.out 2 _) 3 _)
      have X7 := Lib.hid (X6.out.far ha QX.out)
      have B7 := Lib.hid (B6.out.frame ha QB.out)
      have E7 := Lib.hid (E6.out.cell Q6.out ha)
      have C7 := Lib.hid (C6.out.trans ha QN.out)
      rw [← hr7]
      clear hr7 ha
      refine (Number_cur c _ 4 r7 X7.out).mono ?_
      rintro e r8 ⟨rfl, hcx, hch⟩
      rw [N5.out.1]
      rw [N5.out.2] at hcx
      have X8 := Lib.hid (hcx)
      have B8 := Lib.hid (B7.out.cur X7.out hch)
      have E8 := Lib.hid (E7.out.cur X7.out hch)
      have C8 := Lib.hid (C7.out.same hch)
      have hq8 := hch.heap Q7.out QC.out
      clear hcx hch
      have Q8 := Lib.hid (hq8)
      have f4 := frozen_of_heap hq8 4
      have d0 := cell_of_heap hq8 0
      have d1 := cell_of_heap hq8 1
      have d2 := cell_of_heap hq8 2
      have d3 := cell_of_heap hq8 3
      have d4 := cell_of_heap hq8 4
      simp at d0 d1 d2 d3 d4
      clear hq8
      have ha : Chg [q] r8 (r8.setCell ⟨q, 4, none⟩ (.int .i64 n5)) := (Chg.refl [q] r8).setCell _ _ (.inl (by simp))
      have Q9 : Hid ((r8.setCell ⟨q, 4, none⟩ (.int .i64 n5)).heap[q]? = some (.cells #[.int .u32 n1, .int .u32 n2, .int .u64 n3, .int .u64 n4, .int .i64 n5] 52 (0, 0))) := Lib.hid (heap_setCell Q8.out 4 _)
      have X9 := Lib.hid (X8.out.far ha QX.out)
      have B9 := Lib.hid (B8.out.frame ha QB.out)
      have E9 := Lib.hid (E8.out.cell Q8.out ha)
      have C9 := Lib.hid (C8.out.trans ha QN.out)
      clear ha
      cases hmk : maysB l 32 8 many k with
      | true =>
        rw [hmk] at E9 HMS
        clear hmk
        have hnil : u7 = .nilIface := by
          rcases E9.out with h | ⟨h, _⟩
          · exact h.2
          · exact absurd rfl h
        subst hnil
        go_wp2_with fail
        clear d0 d1 d2 d3 d4 f4
        refine (HMAY.out _).mono ?_
        rintro e r10 ⟨rfl, hch⟩
        have B10 := Lib.hid (B9.out.pure hch)
        have E10 := Lib.hid (E9.out.pure hch)
        have X10 := Lib.hid (X9.out.frame hch)
        have C10 := Lib.hid (C9.out.then hch)
        have hq10 := hch.heap Q9.out (by simp)
        have Q10 := Lib.hid (hq10)
        clear hch
        cases hmb : mayS s n5 Hn l.length with
        | true =>
          have HMS2 : Hid (maysB l 32 8 many (k + 1) = true) := Lib.hid (by rw [HMS.out, HSA.out, hmb]; rfl)
          clear hmb
          have d0 := cell_of_heap hq10 0
          have d1 := cell_of_heap hq10 1
          have d2 := cell_of_heap hq10 2
          have d3 := cell_of_heap hq10 3
          have d4 := cell_of_heap hq10 4
          simp at d0 d1 d2 d3 d4
          clear hq10
          have BA := Lib.hid (B10.out.pure ((Chg.refl [] r10).alloc (.cells #[.int .u32 n1, .int .u32 n2, .int .u64 n3, .int .u64 n4, .int .i64 n5] 52)))
          have EA := Lib.hid (E10.out.pure ((Chg.refl [] r10).alloc (.cells #[.int .u32 n1, .int .u32 n2, .int .u64 n3, .int .u64 n4, .int .i64 n5] 52)))
          have XA := Lib.hid (X10.out.frame ((Chg.refl [] r10).alloc (.cells #[.int .u32 n1, .int .u32 n2, .int .u64 n3, .int .u64 n4, .int .i64 n5] 52)))
          have CA := Lib.hid (C10.out.then ((Chg.refl [] r10).alloc (.cells #[.int .u32 n1, .int .u32 n2, .int .u64 n3, .int .u64 n4, .int .i64 n5] 52)))
          have QA : Hid ((r10.alloc (.cells #[.int .u32 n1, .int .u32 n2, .int .u64 n3, .int .u64 n4, .int .i64 n5] 52)).heap[r10.heap.size]? = some (.cells #[.int .u32 n1, .int .u32 n2, .int .u64 n3, .int .u64 n4, .int .i64 n5] 52 (0, 0))) := by
            refine Lib.hid ?_
            have := heap_alloc_eq r10 (.cells #[.int .u32 n1, .int .u32 n2, .int .u64 n3, .int .u64 n4, .int .i64 n5] 52)
            simpa using this
          go_wp2_with (at_builtin; refine app_sl rfl _ _ rfl w5.heap.size u6 (entries l 32 8 k) rfl BA.out (r10.heap.size) ⟨n1, n2, n3, n4, n5⟩ rfl QA.out (by rw [entries_len]; omega) (by have := CA.out.size; omega) ?_; intro va wa hoa hga; refine Hid.out ?_)
          refine Lib.hid ?_
          have BZ : Hid (SlBuf wa w5.heap.size va (entries l 32 8 (k + 1))) := by
            refine Lib.hid ?_
            rw [HENT.out, HSEX.out]
            exact hoa
          have EZ := Lib.hid (EA.out.grown BA.out hga)
          have XZ := Lib.hid (XA.out.grown Hcur5.out.lt BA.out hga)
          have CZ := Lib.hid (CA.out.trans (Chg.of_grown hga) (fun i hi hlt => by have := World.ownsRow.lt BA.out i (by simpa using hi); omega))
          clear hoa hga
          go_wp2
          go_roundw
          case rel => exact ⟨k + 1, hlt, by go_num, BZ.out, by rw [HMS2.out]; exact EZ.out, ⟨_, XZ.out⟩, CZ.out⟩
          case measure => simp [intOf]; omega
        | false =>
          have HMS2 : Hid (maysB l 32 8 many (k + 1) = false) := Lib.hid (by rw [HMS.out, HSA.out, hmb]; rfl)
          clear hmb hq10
          go_wp2_with fail
          refine (wrong_any _ 4 (by decide) r10).mono ?_
          rintro e r11 ⟨v7, rfl, he11, hv7, hch⟩
          have B11 := Lib.hid (B10.out.pure hch)
          have E11 := Lib.hid (he11)
          have X11 := Lib.hid (X10.out.frame hch)
          have C11 := Lib.hid (C10.out.then hch)
          have hq11 := hch.heap Q10.out (by simp)
          clear hch he11 hv7
          have d0 := cell_of_heap hq11 0
          have d1 := cell_of_heap hq11 1
          have d2 := cell_of_heap hq11 2
          have d3 := cell_of_heap hq11 3
          have d4 := cell_of_heap hq11 4
          simp at d0 d1 d2 d3 d4
          clear hq11
          have BA := Lib.hid (B11.out.pure ((Chg.refl [] r11).alloc (.cells #[.int .u32 n1, .int .u32 n2, .int .u64 n3, .int .u64 n4, .int .i64 n5] 52)))
          have EA := Lib.hid (E11.out.pure ((Chg.refl [] r11).alloc (.cells #[.int .u32 n1, .int .u32 n2, .int .u64 n3, .int .u64 n4, .int .i64 n5] 52)))
          have XA := Lib.hid (X11.out.frame ((Chg.refl [] r11).alloc (.cells #[.int .u32 n1, .int .u32 n2, .int .u64 n3, .int .u64 n4, .int .i64 n5] 52)))
          have CA := Lib.hid (C11.out.then ((Chg.refl [] r11).alloc (.cells #[.int .u32 n1, .int .u32 n2, .int .u64 n3, .int .u64 n4, .int .i64 n5] 52)))
          have QA : Hid ((r11.alloc (.cells #[.int .u32 n1, .int .u32 n2, .int .u64 n3, .int .u64 n4, .int .i64 n5] 52)).heap[r11.heap.size]? = some (.cells #[.int .u32 n1, .int .u32 n2, .int .u64 n3, .int .u64 n4, .int .i64 n5] 52 (0, 0))) := by
            refine Lib.hid ?_
            have := heap_alloc_eq r11 (.cells #[.int .u32 n1, .int .u32 n2, .int .u64 n3, .int .u64 n4, .int .i64 n5] 52)
            simpa using this
          go_wp2_with (at_builtin; refine app_sl rfl _ _ rfl w5.heap.size u6 (entries l 32 8 k) rfl BA.out (r11.heap.size) ⟨n1, n2, n3, n4, n5⟩ rfl QA.out (by rw [entries_len]; omega) (by have := CA.out.size; omega) ?_; intro va wa hoa hga; refine Hid.out ?_)
          refine Lib.hid ?_
          have BZ : Hid (SlBuf wa w5.heap.size va (entries l 32 8 (k + 1))) := by
            refine Lib.hid ?_
            rw [HENT.out, HSEX.out]
            exact hoa
          have EZ := Lib.hid (EA.out.grown BA.out hga)
          have XZ := Lib.hid (XA.out.grown Hcur5.out.lt BA.out hga)
          have CZ := Lib.hid (CA.out.trans (Chg.of_grown hga) (fun i hi hlt => by have := World.ownsRow.lt BA.out i (by simpa using hi); omega))
          clear hoa hga
          go_wp2
          go_roundw
          case rel => exact ⟨k + 1, hlt, by go_num, BZ.out, by rw [HMS2.out]; exact EZ.out, ⟨_, XZ.out⟩, CZ.out⟩
          case measure => simp [intOf]; omega
      | false =>
        rw [hmk] at E9 HMS
        clear hmk
        have HMS2 : Hid (maysB l 32 8 many (k + 1) = false) := Lib.hid (by rw [HMS.out]; rfl)
        obtain ⟨eb, rfl⟩ : ∃ b, u7 = .iface 149 (.pointer (some ⟨b, 0, none⟩)) := by
          rcases E9.out with h | ⟨h, b, at_, h2, _⟩
          · exact absurd h.1 (by decide)
          · exact ⟨b, h2⟩
        have BA := Lib.hid (B9.out.pure ((Chg.refl [] (r8.setCell ⟨q, 4, none⟩ (.int .i64 n5))).alloc (.cells #[.int .u32 n1, .int .u32 n2, .int .u64 n3, .int .u64 n4, .int .i64 n5] 52)))
        have EA := Lib.hid (E9.out.pure ((Chg.refl [] (r8.setCell ⟨q, 4, none⟩ (.int .i64 n5))).alloc (.cells #[.int .u32 n1, .int .u32 n2, .int .u64 n3, .int .u64 n4, .int .i64 n5] 52)))
        have XA := Lib.hid (X9.out.frame ((Chg.refl [] (r8.setCell ⟨q, 4, none⟩ (.int .i64 n5))).alloc (.cells #[.int .u32 n1, .int .u32 n2, .int .u64 n3, .int .u64 n4, .int .i64 n5] 52)))
        have CA := Lib.hid (C9.out.then ((Chg.refl [] (r8.setCell ⟨q, 4, none⟩ (.int .i64 n5))).alloc (.cells #[.int .u32 n1, .int .u32 n2, .int .u64 n3, .int .u64 n4, .int .i64 n5] 52)))
        have QA : Hid (((r8.setCell ⟨q, 4, none⟩ (.int .i64 n5)).alloc (.cells #[.int .u32 n1, .int .u32 n2, .int .u64 n3, .int .u64 n4, .int .i64 n5] 52)).heap[r8.heap.size]? = some (.cells #[.int .u32 n1, .int .u32 n2, .int .u64 n3, .int .u64 n4, .int .i64 n5] 52 (0, 0))) := by
          refine Lib.hid ?_
          have := heap_alloc_eq (r8.setCell ⟨q, 4, none⟩ (.int .i64 n5)) (.cells #[.int .u32 n1, .int .u32 n2, .int .u64 n3, .int .u64 n4, .int .i64 n5] 52)
          simpa using this
        go_wp2_with (at_builtin; refine app_sl rfl _ _ rfl w5.heap.size u6 (entries l 32 8 k) rfl BA.out (r8.heap.size) ⟨n1, n2, n3, n4, n5⟩ rfl QA.out (by rw [entries_len]; omega) (by have := CA.out.size; omega) ?_; intro va wa hoa hga; refine Hid.out ?_)
        refine Lib.hid ?_
        have BZ : Hid (SlBuf wa w5.heap.size va (entries l 32 8 (k + 1))) := by
          refine Lib.hid ?_
          rw [HENT.out, HSEX.out]
          exact hoa
        have EZ := Lib.hid (EA.out.grown BA.out hga)
        have XZ := Lib.hid (XA.out.grown Hcur5.out.lt BA.out hga)
        have CZ := Lib.hid (CA.out.trans (Chg.of_grown hga) (fun i hi hlt => by have := World.ownsRow.lt BA.out i (by simpa using hi); omega))
        clear hoa hga
        go_wp2
        go_roundw
        case rel => exact ⟨k + 1, hlt, by go_num, BZ.out, by rw [HMS2.out]; exact EZ.out, ⟨_, XZ.out⟩, CZ.out⟩
        case measure => simp [intOf]; omega
    · obtain rfl : k = many := by omega
      cases hmk : maysB l 32 8 k k with
      | true =>
        have HE1 : Hid (entE l 32 8 ap = ap (entries l 32 8 k)) := Lib.hid (by rw [HE.out, hmk]; rfl)
        rw [hmk] at Herr
        have hnil : u7 = .nilIface := by
          rcases Herr.out with h | ⟨h, _⟩
          · exact h.2
          · exact absurd rfl h
        subst hnil
        clear hmk
        have HQ := Lib.hid (HAP.out (entries l 32 8 k) (by rw [entries_len]; exact hm) (entries_ok _ _ _ _ (by decide)) u6 wr Hbuf.out.rd)
        go_wp2_with fail
        refine HQ.out.mono ?_
        rintro e w6 ⟨v', rfl, he, hch⟩
        have HE6 := Lib.hid (he)
        have HC6 := Lib.hid ((HC5.out.new Hchr.out Hx0.out).then hch)
        have HB6 := Lib.hid ((Hbuf.out.pure hch).rd)
        clear he hch
        go_wp2
        go_ret2
        rw [HE1.out]
        exact ⟨_, _, rfl, HE6.out, HB6.out, HC6.out⟩
      | false =>
        have HE1 : Hid (entE l 32 8 ap = 4) := Lib.hid (by rw [HE.out, hmk]; rfl)
        rw [hmk] at Herr
        obtain ⟨eb, rfl⟩ : ∃ b, u7 = .iface 149 (.pointer (some ⟨b, 0, none⟩)) := by
          rcases Herr.out with h | ⟨h, b, at_, h2, _⟩
          · exact absurd h.1 (by decide)
          · exact ⟨b, h2⟩
        clear hmk
        go_wp2
        go_ret2
        rw [HE1.out]
        exact ⟨_, _, rfl, Herr.out, Hbuf.out.rd, HC5.out.new Hchr.out Hx0.out⟩
end Go.Proofs.YtchkombikjcokaaDoor
