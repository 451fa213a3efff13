/- clevislaw03.FatLimits. -/
import Derived.Test.YtchkombikjcokaaDoorFew
import Derived.Test.YtchkombikjcokaaDoorFewF
import Derived.Test.YtchkombikjcokaaDoorFSl
import Derived.Test.YtchkombikjcokaaDoorRSs
import Derived.Test.YtchkombikjcokaaDoorKnown3
import Derived.Test.YtchkombikjcokaaDoorInt
import Derived.Laws.MakeOwn
import Derived.Deep.CutRange
namespace Go.Proofs.YtchkombikjcokaaDoor
open Go.RowKit
set_option maxRecDepth 100000

/-- make([]byte, n). -/
theorem zeros_blk (w : World) (n : Nat) (hn : n ≤ 1048596) : (Instr.makeSlice 24 (.int .i64 (n : Int)) (.int .i64 (n : Int))).run Tryd.prog w = .ok (.slice (some ⟨w.heap.size, 0, none⟩) n n) (w.alloc (.cells (bytesV (zerosL n)).toArray 5)) := by
  obtain ⟨i0, hi, hz0, hz1, hz2⟩ := info_parts Tryd.infoU8
  have hb : (i0.bytes : Int) * (n : Int) ≤ 281474976710656 := by rw [hz2]; omega
  have hr := run_make (P := Tryd.prog) w 24 5 i0 (.int .u8 0) Tryd.underlying24 hi hz0 .i64 .i64 n n (by omega) (by omega) hb (by omega)
  simp only [Int.toNat_natCast] at hr
  rw [hr]
  congr 4
  rw [hz1, Nat.mul_one]
  apply Array.ext'
  apply List.ext_getElem?
  intro j
  by_cases hj : j < n <;> simp [madeCells, hj, Value.cells, Nat.mod_one, zerosL, bytesV, byteV]
/-- The bytes with the last one filled. -/
def fillL (m f : Nat) : List UInt8 := zerosL m ++ [UInt8.ofNat f]
theorem fillL_len (m f : Nat) : (fillL m f).length = m + 1 := by simp [fillL, zerosL]
theorem fill_row (m f : Nat) (hf : f < 256) : ((bytesV (zerosL (m + 1))).toArray.setIfInBounds m (.int .u8 f)) = (bytesV (fillL m f)).toArray := by
  apply Array.ext'
  apply List.ext_getElem?
  intro j
  have e : (UInt8.ofNat f).toNat = f := by simp; omega
  rcases Nat.lt_trichotomy j m with h | rfl | h
  · simp [fillL, zerosL, bytesV, byteV, h, show j < m + 1 by omega, show ¬ m = j by omega]
  · simp [fillL, zerosL, bytesV, byteV, e]
  · simp [fillL, zerosL, bytesV, byteV, show ¬ j < m + 1 by omega]
theorem MemRd.one {w : World} {b : Nat} {cpu sub : Nat} {al : Int} {l : List UInt8} {a : Option Addr} {c : Nat} {T : TypeId} {fz : Nat × Nat} (hb : w.heap[b]? = some (.cells #[.int .u32 cpu, .int .u32 sub, .int .i64 al, .slice a l.length c] T fz)) (hr : Rd w (.slice a l.length c) (bytesV l)) :
    MemRd w (.slice (some ⟨b, 0, none⟩) 1 1) [⟨cpu, sub, al, l⟩] := by
  refine ⟨_, _, _, rfl, rfl, Nat.le_refl _, by unfold maxLen; omega, fun _ => ⟨b, 0, rfl, lt_of_heap hb, fun j hj => ?_⟩⟩
  obtain rfl : j = 0 := by simp at hj; exact hj
  exact ⟨by rw [cell_of_heap hb]; rfl, by rw [cell_of_heap hb]; rfl, by rw [cell_of_heap hb]; rfl, a, c, by rw [cell_of_heap hb]; rfl, hr⟩

set_option maxHeartbeats 4000000 in
theorem FatLimits_walk (w : World) (hg : Env w) (n : Int) (_ : (Lit.int .i64 n).wf = true) (f : Int) (hfw : (Lit.int .u8 f).wf = true) (wide : Bool) :
    Calls Tryd.prog 11 #[.int .i64 n, .int .u8 f, .bool wide] w fun e w' => e = .returned (.bool true) ∧ Chg [] w w' := by
  have HG := Lib.hid hg
  clear hg
  obtain ⟨F, rfl, hF⟩ := nat_u8 f hfw
  clear hfw
  by_cases h1 : n < 1048536
  · have d1 : decide (n < 1048536) = true := by simpa using h1
    clear h1
    go_enter Tryd.func11, Tryd.ntmps11
    go_wp2_with fail
    refine (known3 _ (HG.out.frame (Chg.refl [] w) (by simp))).mono ?_
    rintro e wk ⟨rfl, hch⟩
    have HK := Lib.hid (((Chg.refl [] w)).then hch)
    clear hch
    go_wp2
    go_ret
    exact ⟨rfl, HK.out⟩
  · have d1 : decide (n < 1048536) = false := by simpa using h1
    by_cases h2 : 1048586 < n
    · have d2 : decide (1048586 < n) = true := by simpa using h2
      clear h1 h2
      go_enter Tryd.func11, Tryd.ntmps11
      go_wp2_with fail
      refine (known3 _ (HG.out.frame (Chg.refl [] w) (by simp))).mono ?_
      rintro e wk ⟨rfl, hch⟩
      have HK := Lib.hid (((Chg.refl [] w)).then hch)
      clear hch
      go_wp2
      go_ret
      exact ⟨rfl, HK.out⟩
    · have d2 : decide (1048586 < n) = false := by simpa using h2
      obtain ⟨N, rfl⟩ : ∃ N : Nat, n = N := ⟨n.toNat, by omega⟩
      obtain ⟨M, hM⟩ : ∃ M : Nat, N = M + 1 := ⟨N - 1, by omega⟩
      have hidx : (N : Int) - 1 = (M : Int) := by omega
      have hMN : M < N := by omega
      have hN : N ≤ 1048586 := by omega
      have hmk := zeros_blk w N (by omega)
      rw [hM] at hmk
      have HFR := Lib.hid (fill_row M F hF)
      have HRL : Hid (∀ j, j < M + 1 → (bytesV (zerosL (M + 1))).toArray[j]? = some (.int .u8 0)) := Lib.hid (fun j hj => by simp [bytesV, byteV, zerosL, hj])
      generalize (bytesV (zerosL (M + 1))).toArray = ZS at hmk HFR HRL
      rw [← hM] at hmk
      have HM := Lib.hid (hM)
      clear h1 h2 hM
      go_enter Tryd.func11, Tryd.ntmps11
      go_upto_region 4 with fail
      obtain ⟨w1, hw1⟩ : ∃ x, x = w.alloc (.cells ZS 5) := ⟨_, rfl⟩
      obtain ⟨q, hq⟩ : ∃ x, x = w.heap.size := ⟨_, rfl⟩
      have hb1 : w1.heap[q]? = some (.cells ZS 5 (0, 0)) := by rw [hw1, hq]; exact heap_alloc_eq _ _
      have C1 : Hid (Chg [] w w1) := Lib.hid (by rw [hw1]; exact (Chg.refl _ _).alloc _)
      have HQ : Hid (w.heap.size ≤ q) := Lib.hid (Nat.le_of_eq hq.symm)
      rw [← hw1, ← hq]
      have cm : w1.cell? ⟨q, M, none⟩ = some (.int .u8 0) := by rw [cell_of_heap hb1]; exact HRL.out M (Nat.lt_succ_self M)
      have fm := frozen_of_heap hb1 M
      have hb2 := heap_setCell hb1 M (.int .u8 F)
      rw [HFR.out] at hb2
      clear hw1 hq hb1 hmk HRL HFR ZS
      go_upto_region 5 with fail
      obtain ⟨w2, hw2⟩ : ∃ x, x = w1.setCell ⟨q, M, none⟩ (.int .u8 F) := ⟨_, rfl⟩
      rw [← hw2] at hb2
      rw [← hw2]
      have C2 : Hid (Chg [] w w2) := Lib.hid (by rw [hw2]; exact C1.out.setCell _ _ (.inr HQ.out))
      obtain ⟨LL, hLL⟩ : ∃ LL, LL = fillL M F := ⟨_, rfl⟩
      have hLN : N = LL.length := by rw [hLL, fillL_len, HM.out]
      rw [← hLL] at hb2
      have HRD : Hid (Rd w2 (.slice (some ⟨q, 0, none⟩) LL.length LL.length) (bytesV LL)) := by
        refine Lib.hid ?_
        have := Rd_heap hb2 (by rw [bytesV_length, ← hLN]; unfold maxLen; omega)
        rw [bytesV_length] at this
        exact this
      clear hw2 hLL hb2 cm fm
      subst hLN
      have HNL := Lib.hid (hN)
      clear hidx hMN HM
      go_wp2_with fail
      obtain ⟨w3, hw3⟩ : ∃ x, x = w2.alloc (.cells #[.int .u32 16777228, .int .u32 0, .int .i64 0, .slice (some ⟨q, 0, none⟩) LL.length LL.length] 82) := ⟨_, rfl⟩
      obtain ⟨r, hr⟩ : ∃ x, x = w2.heap.size := ⟨_, rfl⟩
      have HB3 : Hid (w3.heap[r]? = some (.cells #[.int .u32 16777228, .int .u32 0, .int .i64 0, .slice (some ⟨q, 0, none⟩) LL.length LL.length] 82 (0, 0))) := Lib.hid (by rw [hw3, hr]; exact heap_alloc_eq _ _)
      have D3 : Hid (Chg [] w2 w3) := Lib.hid (by rw [hw3]; exact (Chg.refl _ _).alloc _)
      rw [← hw3, ← hr]
      clear hw3 hr
      have HM3 : Hid (MemRd w3 (.slice (some ⟨r, 0, none⟩) 1 1) [⟨16777228, 0, 0, LL⟩]) := Lib.hid (MemRd.one HB3.out (HRD.out.frame D3.out (fun _ _ hm => by cases hm)))
      have HOK : Hid (∀ m ∈ [(⟨16777228, 0, 0, LL⟩ : Mem)], m.ok) := Lib.hid (by intro m hm; simp at hm; subst hm; unfold Mem.ok; simp)
      have HBB : Hid (∀ m ∈ [(⟨16777228, 0, 0, LL⟩ : Mem)], m.bytes.length ≤ 2097152) := Lib.hid (by intro m hm; simp at hm; subst hm; show LL.length ≤ _; omega)
      have HFM := Lib.hid (fun w hg rd => FMake_any wide [⟨16777228, 0, 0, LL⟩] HOK.out (by simp) HBB.out (some ⟨r, 0, none⟩) 1 w hg rd)
      have HRM := Lib.hid (fun c w rd => RMake_any wide [⟨16777228, 0, 0, LL⟩] HOK.out (by simp) HBB.out c 1 w rd)
      have HPL : Hid (0 < (fatL wide [⟨16777228, 0, 0, LL⟩]).length) := by
        refine Lib.hid ?_
        rw [fatL_len]
        have := atL_ge (endOf wide [⟨16777228, 0, 0, LL⟩]) [⟨16777228, 0, 0, LL⟩] 1 (Nat.le_refl _)
        have e : endOf wide [⟨16777228, 0, 0, LL⟩] = 8 + 1 * esz wide := rfl
        have e2 : ([⟨16777228, 0, 0, LL⟩] : List Mem).take 1 = [⟨16777228, 0, 0, LL⟩] := rfl
        rw [e2] at this
        omega
      generalize fatE wide [⟨16777228, 0, 0, LL⟩] = E at *
      generalize fatL wide [⟨16777228, 0, 0, LL⟩] = LX at *
      refine (HFM.out w3 (HG.out.frame (C2.out.then D3.out) (by simp)) HM3.out).mono ?_
      rintro e w4 ⟨v4, rfl, hv4, hv4n, hch⟩
      have D4 := Lib.hid (D3.out.then hch)
      have HV4 := Lib.hid (hv4)
      have HV4N := Lib.hid (hv4n)
      clear hv4 hv4n hch
      go_wp2_with fail
      obtain ⟨w8, hw8⟩ : ∃ x, x = w4.alloc (.cells #[.int .u32 16777228, .int .u32 0, .int .i64 0, .slice (some ⟨q, 0, none⟩) LL.length LL.length] 82) := ⟨_, rfl⟩
      obtain ⟨r8, hr8⟩ : ∃ x, x = w4.heap.size := ⟨_, rfl⟩
      have HB8 : Hid (w8.heap[r8]? = some (.cells #[.int .u32 16777228, .int .u32 0, .int .i64 0, .slice (some ⟨q, 0, none⟩) LL.length LL.length] 82 (0, 0))) := Lib.hid (by rw [hw8, hr8]; exact heap_alloc_eq _ _)
      have D8 : Hid (Chg [] w2 w8) := Lib.hid (by rw [hw8]; exact D4.out.alloc _)
      rw [← hw8, ← hr8]
      clear hw8 hr8
      refine (HRM.out (some ⟨r8, 0, none⟩) w8 (MemRd.one HB8.out (HRD.out.frame D8.out (fun _ _ hm => by cases hm)))).mono ?_
      rintro e w5 ⟨v5, rfl, _, _, hch⟩
      have D5 := Lib.hid (D8.out.then hch)
      have C5 := Lib.hid (C2.out.then D5.out)
      clear hch
      have kE : (E != E) = false := by simp
      by_cases h0 : E = 0
      · obtain ⟨aX, cX, rfl⟩ := (HV4.out h0).form
        subst h0
        have hp := HPL.out
        have k1 : decide ((0 : Int) < (LX.length : Int)) = true := by simp; omega
        have k2 : decide (0 < LX.length) = true := by simpa using hp
        clear hp
        go_wp2_with fail
        refine (Slices_any LL (some ⟨q, 0, none⟩) LL.length w5 (HG.out.frame C5.out (by simp)) (HRD.out.frame D5.out (fun _ _ hm => by cases hm)) (by have := HNL.out; omega)).mono ?_
        rintro e w6 ⟨v6, rfl, _, _, hch⟩
        have D6 := Lib.hid (D5.out.then hch)
        have C6 := Lib.hid (C5.out.then hch)
        clear hch
        go_wp2_with fail
        refine (RSlices_any LL (some ⟨q, 0, none⟩) LL.length w6 (HRD.out.frame D6.out (fun _ _ hm => by cases hm))).mono ?_
        rintro e w7 ⟨v7, rfl, _, _, hch⟩
        have C7 := Lib.hid (C6.out.then hch)
        clear hch
        generalize sliceE LL = S
        have ks : (S == S) = true := by simp
        go_wp2_with fail
        refine (known3 _ (HG.out.frame C7.out (by simp))).mono ?_
        rintro e wk ⟨rfl, hch⟩
        have HK := Lib.hid ((C7.out).then hch)
        clear hch
        go_wp2
        go_ret
        exact ⟨rfl, HK.out⟩
      · obtain rfl := HV4N.out h0
        have k0 : (E == 0) = false := by rw [beq_eq_false_iff_ne]; exact h0
        clear h0
        go_wp2_with fail
        refine (Slices_any LL (some ⟨q, 0, none⟩) LL.length w5 (HG.out.frame C5.out (by simp)) (HRD.out.frame D5.out (fun _ _ hm => by cases hm)) (by have := HNL.out; omega)).mono ?_
        rintro e w6 ⟨v6, rfl, _, _, hch⟩
        have D6 := Lib.hid (D5.out.then hch)
        have C6 := Lib.hid (C5.out.then hch)
        clear hch
        go_wp2_with fail
        refine (RSlices_any LL (some ⟨q, 0, none⟩) LL.length w6 (HRD.out.frame D6.out (fun _ _ hm => by cases hm))).mono ?_
        rintro e w7 ⟨v7, rfl, _, _, hch⟩
        have C7 := Lib.hid (C6.out.then hch)
        clear hch
        generalize sliceE LL = S
        have ks : (S == S) = true := by simp
        go_wp2_with fail
        refine (known3 _ (HG.out.frame C7.out (by simp))).mono ?_
        rintro e wk ⟨rfl, hch⟩
        have HK := Lib.hid ((C7.out).then hch)
        clear hch
        go_wp2
        go_ret
        exact ⟨rfl, HK.out⟩
end Go.Proofs.YtchkombikjcokaaDoor
