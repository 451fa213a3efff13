/- Lemmas, laid together: part 20 of 43. Conditions: none but each lemma's own. -/
import Derived.Test.YtgjlgamlmmjdpaaGreatDoorJ19
import Derived.Test.YtgjlgamlmmjdpaaGreatDoorJ4
import Derived.Deep.CutRange
/- command.head: a header's numbers, or why there is none. -/
namespace Go.Proofs.YtgjlgamlmmjdpaaGreatDoor
open Go.RowKit
set_option maxRecDepth 100000

/-- The number of four bytes at a place, the lowest first. -/
def nL (l : List UInt8) (p : Nat) : Nat := leNum ((l.drop p).take 4)
theorem nL_lt (l : List UInt8) (p : Nat) : nL l p < 4294967296 := leNum4_lt l p
def hdSub (l : List UInt8) : Nat := nL l 8 % 16777216
def headE (l : List UInt8) : Int :=
  if l.length < 32 then 3 else if nL l 0 ≠ 4277009103 then 5 else if nL l 4 ≠ 16777228 then 6
  else if kindB (hdSub l) (nL l 12) = false then (if hdSub l = 0 ∨ hdSub l = 2 then 7 else 6)
  else if 256 < nL l 16 then 11 else if l.length - 32 < nL l 20 then 3 else 0

def hcells (s k f m z : Nat) : Array Value := #[.int .i64 s, .int .i64 k, .int .u32 f, .int .i64 m, .int .i64 z]
/-- A header that is being read: the cursor, the header's row. -/
structure HD (w0 w : World) (c r : Nat) (l : List UInt8) (p : Nat) (s k f m z : Nat) : Prop where
  cur : CurB w c ⟨l, p, false, false⟩
  row : w.heap[r]? = some (.cells #[.int .i64 s, .int .i64 k, .int .u32 f, .int .i64 m, .int .i64 z] 70 (0, 0))
  chg : Chg [c] w0 w
  new : w0.heap.size ≤ r
  lt : c < w0.heap.size
section
variable {w0 w w' : World} {c r p s k f m z : Nat} {l : List UInt8}
theorem HD.pure (h : HD w0 w c r l p s k f m z) (g : Chg [] w w') : HD w0 w' c r l p s k f m z := ⟨h.cur.frame g, g.heap h.row (by simp), h.chg.then g, h.new, h.lt⟩
theorem HD.dr (h : HD w0 w c r l p s k f m z) (g : Dr w w') : HD w0 w' c r l p s k f m z := h.pure ((Chg.refl _ _).dr g)
theorem HD.num (h : HD w0 w c r l p s k f m z) (hp : p + 4 ≤ l.length) (hc : CurB w' c (numberS ⟨l, p, false, false⟩ 4)) (g : Chg [c] w w') : HD w0 w' c r l (p + 4) s k f m z := by
  rw [(takeL4 l p hp).2] at hc
  have := h.new
  have := h.lt
  exact ⟨hc, g.heap h.row (by simp; omega), h.chg.same g, h.new, h.lt⟩
/-- Writes into the header's row. -/
theorem HD.set {s' k' f' m' z' : Nat} (h : HD w0 w c r l p s k f m z) (g : Chg [r] w w') (hr : w'.heap[r]? = some (.cells #[.int .i64 s', .int .i64 k', .int .u32 f', .int .i64 m', .int .i64 z'] 70 (0, 0))) : HD w0 w' c r l p s' k' f' m' z' := by
  have := h.new
  have := h.lt
  exact ⟨h.cur.far g (by simp; omega), hr, h.chg.trans g (fun i hm hi => by rw [List.mem_singleton] at hm; omega), h.new, h.lt⟩
end
def setH (w : World) (r : Nat) (s k f m z : Nat) : World :=
  ((((w.setCell ⟨r, 0, none⟩ (.int .i64 s)).setCell ⟨r, 1, none⟩ (.int .i64 k)).setCell ⟨r, 2, none⟩ (.int .u32 f)).setCell ⟨r, 3, none⟩ (.int .i64 m)).setCell ⟨r, 4, none⟩ (.int .i64 z)
theorem setH_heap {w : World} {r : Nat} {c0 c1 c2 c3 c4 : Value} {T : TypeId} {fz : Nat × Nat} (s k f m z : Nat) (h : w.heap[r]? = some (.cells #[c0, c1, c2, c3, c4] T fz)) :
    (setH w r s k f m z).heap[r]? = some (.cells #[.int .i64 s, .int .i64 k, .int .u32 f, .int .i64 m, .int .i64 z] T fz) := by
  have h1 := heap_setCell h 0 (.int .i64 s)
  have h2 := heap_setCell h1 1 (.int .i64 k)
  have h3 := heap_setCell h2 2 (.int .u32 f)
  have h4 := heap_setCell h3 3 (.int .i64 m)
  exact heap_setCell h4 4 (.int .i64 z)
theorem setH_chg (w : World) (r : Nat) (s k f m z : Nat) : Chg [r] w (setH w r s k f m z) :=
  (((((Chg.refl [r] w).setCell _ _ (.inl (by simp))).setCell _ _ (.inl (by simp))).setCell _ _ (.inl (by simp))).setCell _ _ (.inl (by simp))).setCell _ _ (.inl (by simp))

/-- What head answers. -/
def HeadSays (w0 : World) (c : Nat) (l : List UInt8) (e : Ending) (w' : World) : Prop :=
  ∃ (s k f m z : Nat) (err : Value), e = .returned (.tuple #[.agg #[.int .i64 s, .int .i64 k, .int .u32 f, .int .i64 m, .int .i64 z], err]) ∧
    (headE l = 0 ∧ err = .nilIface ∧ s = hdSub l ∧ k = nL l 12 ∧ f = nL l 24 ∧ m = nL l 16 ∧ z = nL l 20 ∧ CurB w' c ⟨l, 32, false, false⟩ ∨ headE l ≠ 0 ∧ err = .iface 33 (.int .i64 (headE l))) ∧ Chg [c] w0 w'
set_option maxHeartbeats 4000000 in
theorem head_any (l : List UInt8) (c : Nat) (w : World) (hl : l.length ≤ 70368744177664) (hc : CurB w c ⟨l, 0, false, false⟩) :
    Calls Tryz.prog 47 #[.pointer (some ⟨c, 0, none⟩)] w (HeadSays w c l) := by
  unfold HeadSays
  have HC := Lib.hid hc
  clear hc
  by_cases h32 : l.length < 32
  · have d1 : decide ((l.length : Int) < 32) = true := by simp; omega
    have HE : Hid (headE l = 3) := Lib.hid (by unfold headE; rw [if_pos h32])
    clear h32
    go_enter Tryz.func47, Tryz.ntmps47
    go_wp2_with fail
    obtain ⟨w0, hw0⟩ : ∃ x, x = w.alloc (.cells #[.int .i64 0, .int .i64 0, .int .u32 0, .int .i64 0, .int .i64 0] 70) := ⟨_, rfl⟩
    obtain ⟨r, hr⟩ : ∃ x, x = w.heap.size := ⟨_, rfl⟩
    have H0 : Hid (HD w w0 c r l 0 0 0 0 0 0) := by
      refine Lib.hid ?_
      have k : Chg [] w w0 := by rw [hw0]; exact (Chg.refl _ _).alloc _
      exact ⟨HC.out.frame k, by rw [hw0, hr]; exact heap_alloc_eq _ _, k.add, Nat.le_of_eq hr.symm, HC.out.lt⟩
    rw [← hw0, ← hr]
    clear hw0 hr
    refine (Left_cur c _ w0 H0.out.cur).mono ?_
    rintro e w1 ⟨rfl, hd⟩
    have H1 := Lib.hid (H0.out.dr hd)
    clear hd H0
    have hrow := H1.out.row
    have f0 := frozen_of_heap hrow 0
    have f1 := frozen_of_heap hrow 1
    have f2 := frozen_of_heap hrow 2
    have f3 := frozen_of_heap hrow 3
    have f4 := frozen_of_heap hrow 4
    have d0 := cell_of_heap hrow 0
    have d1 := cell_of_heap hrow 1
    have d2 := cell_of_heap hrow 2
    have d3 := cell_of_heap hrow 3
    have d4 := cell_of_heap hrow 4
    simp at d0 d1 d2 d3 d4
    clear hrow
    go_wp2
    obtain ⟨wH, hwH⟩ : ∃ x, x = setH w1 r 0 0 0 0 0 := ⟨_, rfl⟩
    change bodyPost _ _ _ _ _ (setH w1 r 0 0 0 0 0)
    rw [← hwH]
    have hqH := setH_heap 0 0 0 0 0 H1.out.row
    rw [← hwH] at hqH
    have HDH : Hid (HD w wH c r l 0 0 0 0 0 0) := Lib.hid (H1.out.set (by rw [hwH]; exact setH_chg _ _ _ _ _ _ _) hqH)
    have g0 := cell_of_heap hqH 0
    have g1 := cell_of_heap hqH 1
    have g2 := cell_of_heap hqH 2
    have g3 := cell_of_heap hqH 3
    have g4 := cell_of_heap hqH 4
    simp at g0 g1 g2 g3 g4
    clear hqH hwH
    clear f0 f1 f2 f3 f4 d0 d1 d2 d3 d4
    refine bodyPost_ret (v := .tuple #[.agg #[.int .i64 0, .int .i64 0, .int .u32 0, .int .i64 0, .int .i64 0], .iface 33 (.int .i64 3)]) (by simp [results, Tryz.results47, go_sem, g0, g1, g2, g3, g4]) rfl ?_
    rw [HE.out]
    exact ⟨0, 0, 0, 0, 0, _, rfl, .inr ⟨by decide, rfl⟩, HDH.out.chg⟩
  · have d1 : decide ((l.length : Int) < 32) = false := by simp; omega
    have h32' : 32 ≤ l.length := by omega
    obtain ⟨n0, hn0⟩ : ∃ n, n = nL l 0 := ⟨_, rfl⟩
    obtain ⟨n4, hn4⟩ : ∃ n, n = nL l 4 := ⟨_, rfl⟩
    obtain ⟨n8, hn8⟩ : ∃ n, n = nL l 8 := ⟨_, rfl⟩
    obtain ⟨n12, hn12⟩ : ∃ n, n = nL l 12 := ⟨_, rfl⟩
    obtain ⟨n16, hn16⟩ : ∃ n, n = nL l 16 := ⟨_, rfl⟩
    obtain ⟨n20, hn20⟩ : ∃ n, n = nL l 20 := ⟨_, rfl⟩
    obtain ⟨n24, hn24⟩ : ∃ n, n = nL l 24 := ⟨_, rfl⟩
    have V0 : Hid (numberV ⟨l, 0, false, false⟩ 4 = n0) := Lib.hid (by rw [hn0]; exact (takeL4 l 0 (by omega)).1)
    have V4 : Hid (numberV ⟨l, 4, false, false⟩ 4 = n4) := Lib.hid (by rw [hn4]; exact (takeL4 l 4 (by omega)).1)
    have V8 : Hid (numberV ⟨l, 8, false, false⟩ 4 = n8) := Lib.hid (by rw [hn8]; exact (takeL4 l 8 (by omega)).1)
    have V12 : Hid (numberV ⟨l, 12, false, false⟩ 4 = n12) := Lib.hid (by rw [hn12]; exact (takeL4 l 12 (by omega)).1)
    have V16 : Hid (numberV ⟨l, 16, false, false⟩ 4 = n16) := Lib.hid (by rw [hn16]; exact (takeL4 l 16 (by omega)).1)
    have V20 : Hid (numberV ⟨l, 20, false, false⟩ 4 = n20) := Lib.hid (by rw [hn20]; exact (takeL4 l 20 (by omega)).1)
    have V24 : Hid (numberV ⟨l, 24, false, false⟩ 4 = n24) := Lib.hid (by rw [hn24]; exact (takeL4 l 24 (by omega)).1)
    have L8 : Hid (n8 < 4294967296) := Lib.hid (by rw [hn8]; exact nL_lt l 8)
    have L12 : Hid (n12 < 4294967296) := Lib.hid (by rw [hn12]; exact nL_lt l 12)
    have L16 : Hid (n16 < 4294967296) := Lib.hid (by rw [hn16]; exact nL_lt l 16)
    have L20 : Hid (n20 < 4294967296) := Lib.hid (by rw [hn20]; exact nL_lt l 20)
    have L24 : Hid (n24 < 4294967296) := Lib.hid (by rw [hn24]; exact nL_lt l 24)
    obtain ⟨S, hS⟩ : ∃ S, S = n8 % 16777216 := ⟨_, rfl⟩
    have HSB : Hid (S < 16777216) := Lib.hid (by rw [hS]; exact Nat.mod_lt _ (by decide))
    have HSD : Hid (hdSub l = S) := Lib.hid (by rw [hS, hn8]; rfl)
    have HE : Hid (headE l = if n0 ≠ 4277009103 then 5 else if n4 ≠ 16777228 then 6 else if kindB S n12 = false then (if S = 0 ∨ S = 2 then 7 else 6) else if 256 < n16 then 11 else if l.length - 32 < n20 then 3 else 0) := by
      refine Lib.hid ?_
      unfold headE
      rw [if_neg h32, HSD.out, ← hn0, ← hn4, ← hn12, ← hn16, ← hn20]
    have hand : bits .and .u64 (n8 : Int) 16777215 = (S : Int) := by
      have := Go.bits_mask .u64 64 (by decide) (fun n h1 h2 => by rw [IntKind.wrap_u64]; omega) 24 (by decide) (n8 : Int) (by omega) (by have := L8.out; omega)
      rw [hS, Int.natCast_emod]
      simpa using this
    have wS : IntKind.i64.wrap (S : Int) = (S : Int) := by have := HSB.out; rw [IntKind.wrap_i64]; omega
    have w12 : IntKind.i64.wrap (n12 : Int) = (n12 : Int) := by have := L12.out; rw [IntKind.wrap_i64]; omega
    have w16 : IntKind.i64.wrap (n16 : Int) = (n16 : Int) := by have := L16.out; rw [IntKind.wrap_i64]; omega
    have w20 : IntKind.i64.wrap (n20 : Int) = (n20 : Int) := by have := L20.out; rw [IntKind.wrap_i64]; omega
    have w24 : IntKind.u32.wrap (n24 : Int) = (n24 : Int) := by have := L24.out; rw [IntKind.wrap_u32]; omega
    have N12 := Lib.hid hn12
    have N16 := Lib.hid hn16
    have N20 := Lib.hid hn20
    have N24 := Lib.hid hn24
    clear hn12 hn16 hn20 hn24
    clear hS hn0 hn4 hn8 h32
    go_enter Tryz.func47, Tryz.ntmps47
    go_wp2_with fail
    obtain ⟨w0, hw0⟩ : ∃ x, x = w.alloc (.cells #[.int .i64 0, .int .i64 0, .int .u32 0, .int .i64 0, .int .i64 0] 70) := ⟨_, rfl⟩
    obtain ⟨r, hr⟩ : ∃ x, x = w.heap.size := ⟨_, rfl⟩
    have H0 : Hid (HD w w0 c r l 0 0 0 0 0 0) := by
      refine Lib.hid ?_
      have k : Chg [] w w0 := by rw [hw0]; exact (Chg.refl _ _).alloc _
      exact ⟨HC.out.frame k, by rw [hw0, hr]; exact heap_alloc_eq _ _, k.add, Nat.le_of_eq hr.symm, HC.out.lt⟩
    rw [← hw0, ← hr]
    clear hw0 hr
    refine (Left_cur c _ w0 H0.out.cur).mono ?_
    rintro e w1 ⟨rfl, hd⟩
    have H1 := Lib.hid (H0.out.dr hd)
    clear hd H0
    go_wp2_with fail
    refine (Number_cur c _ 4 w1 H1.out.cur).mono ?_
    rintro e w2 ⟨rfl, hcx, hch⟩
    rw [V0.out]
    have H2 := Lib.hid (H1.out.num (by omega) hcx hch)
    clear hcx hch H1
    by_cases h5 : n0 = 4277009103
    · subst h5
      rw [if_neg (by decide)] at HE
      go_wp2_with fail
      refine (Number_cur c _ 4 w2 H2.out.cur).mono ?_
      rintro e w3 ⟨rfl, hcx, hch⟩
      rw [V4.out]
      have H3 := Lib.hid (H2.out.num (by omega) hcx hch)
      clear hcx hch H2
      go_wp2_with fail
      refine (Number_cur c _ 4 w3 H3.out.cur).mono ?_
      rintro e w4 ⟨rfl, hcx, hch⟩
      rw [V8.out]
      have H4 := Lib.hid (H3.out.num (by omega) hcx hch)
      clear hcx hch H3
      go_wp2_with fail
      refine (Number_cur c _ 4 w4 H4.out.cur).mono ?_
      rintro e w5 ⟨rfl, hcx, hch⟩
      rw [V12.out]
      have H5 := Lib.hid (H4.out.num (by omega) hcx hch)
      clear hcx hch H4
      have hrow := H5.out.row
      have f0 := frozen_of_heap hrow 0
      have f1 := frozen_of_heap hrow 1
      have f2 := frozen_of_heap hrow 2
      have f3 := frozen_of_heap hrow 3
      have f4 := frozen_of_heap hrow 4
      have d0 := cell_of_heap hrow 0
      have d1 := cell_of_heap hrow 1
      have d2 := cell_of_heap hrow 2
      have d3 := cell_of_heap hrow 3
      have d4 := cell_of_heap hrow 4
      simp at d0 d1 d2 d3 d4
      clear hrow
      go_upto_region 7 with fail
      obtain ⟨w6, hw6⟩ : ∃ x, x = (w5.setCell ⟨r, 0, none⟩ (.int .i64 S)).setCell ⟨r, 1, none⟩ (.int .i64 n12) := ⟨_, rfl⟩
      have H6 : Hid (HD w w6 c r l 16 S n12 0 0 0) := Lib.hid (H5.out.set (by rw [hw6]; exact ((Chg.refl [r] w5).setCell _ _ (.inl (by simp))).setCell _ _ (.inl (by simp))) (by rw [hw6]; exact heap_setCell (heap_setCell H5.out.row 0 _) 1 _))
      rw [← hw6]
      clear hw6 H5 hand
      clear f0 f1 f2 f3 f4 d0 d1 d2 d3 d4
      go_wp2_with fail
      refine (Number_cur c _ 4 w6 H6.out.cur).mono ?_
      rintro e w7 ⟨rfl, hcx, hch⟩
      rw [V16.out]
      have H7 := Lib.hid (H6.out.num (by omega) hcx hch)
      clear hcx hch H6
      go_wp2_with fail
      refine (Number_cur c _ 4 w7 H7.out.cur).mono ?_
      rintro e w8 ⟨rfl, hcx, hch⟩
      rw [V20.out]
      have H8 := Lib.hid (H7.out.num (by omega) hcx hch)
      clear hcx hch H7
      go_wp2_with fail
      refine (Number_cur c _ 4 w8 H8.out.cur).mono ?_
      rintro e w9 ⟨rfl, hcx, hch⟩
      rw [V24.out]
      have H9 := Lib.hid (H8.out.num (by omega) hcx hch)
      clear hcx hch H8
      have hrow := H9.out.row
      have f0 := frozen_of_heap hrow 0
      have f1 := frozen_of_heap hrow 1
      have f2 := frozen_of_heap hrow 2
      have f3 := frozen_of_heap hrow 3
      have f4 := frozen_of_heap hrow 4
      have d0 := cell_of_heap hrow 0
      have d1 := cell_of_heap hrow 1
      have d2 := cell_of_heap hrow 2
      have d3 := cell_of_heap hrow 3
      have d4 := cell_of_heap hrow 4
      simp at d0 d1 d2 d3 d4
      clear hrow
      go_upto_region 9 with fail
      obtain ⟨wa, hwa⟩ : ∃ x, x = w9.setCell ⟨r, 2, none⟩ (.int .u32 n24) := ⟨_, rfl⟩
      have HA : Hid (HD w wa c r l 28 S n12 n24 0 0) := Lib.hid (H9.out.set (by rw [hwa]; exact (Chg.refl [r] w9).setCell _ _ (.inl (by simp))) (by rw [hwa]; exact heap_setCell H9.out.row 2 _))
      rw [← hwa]
      clear hwa H9
      clear f0 f1 f2 f3 f4 d0 d1 d2 d3 d4
      go_wp2_with fail
      refine (Number_cur c _ 4 wa HA.out.cur).mono ?_
      rintro e wb ⟨rfl, hcx, hch⟩
      have HB : Hid (HD w wb c r l 32 S n12 n24 0 0) := Lib.hid (HA.out.num (by omega) hcx hch)
      generalize numberV ⟨l, 28, false, false⟩ 4 = n28
      clear hcx hch HA
      by_cases h6 : n4 = 16777228
      · subst h6
        rw [if_neg (by decide)] at HE
        have hrow := HB.out.row
        have f0 := frozen_of_heap hrow 0
        have f1 := frozen_of_heap hrow 1
        have f2 := frozen_of_heap hrow 2
        have f3 := frozen_of_heap hrow 3
        have f4 := frozen_of_heap hrow 4
        have d0 := cell_of_heap hrow 0
        have d1 := cell_of_heap hrow 1
        have d2 := cell_of_heap hrow 2
        have d3 := cell_of_heap hrow 3
        have d4 := cell_of_heap hrow 4
        simp at d0 d1 d2 d3 d4
        clear hrow
        cases hkb : kindB S n12 with
        | false =>
          rw [hkb, if_pos rfl] at HE
          go_wp2_with fail
          refine (kind_no S n12 (.int .u32 n24) wb hkb).mono ?_
          rintro e wc ⟨rfl, hch⟩
          clear f0 f1 f2 f3 f4 d0 d1 d2 d3 d4
          have HC2 := Lib.hid (HB.out.pure hch)
          clear hch hkb
          obtain ⟨X, hX⟩ : ∃ X, X = if S = 0 ∨ S = 2 then (7 : Int) else 6 := ⟨_, rfl⟩
          have hif : (if (S : Int) = 0 ∨ (S : Int) = 2 then (7 : Int) else 6) = X := by
            rw [hX]
            by_cases hs : S = 0 ∨ S = 2
            · rw [if_pos hs, if_pos (by omega)]
            · rw [if_neg hs, if_neg (by omega)]
          rw [← hX] at HE
          rw [hif]
          have HX0 : Hid (X ≠ 0) := Lib.hid (by rw [hX]; split <;> decide)
          clear hX hif
          have hrow := HC2.out.row
          have f0 := frozen_of_heap hrow 0
          have f1 := frozen_of_heap hrow 1
          have f2 := frozen_of_heap hrow 2
          have f3 := frozen_of_heap hrow 3
          have f4 := frozen_of_heap hrow 4
          have d0 := cell_of_heap hrow 0
          have d1 := cell_of_heap hrow 1
          have d2 := cell_of_heap hrow 2
          have d3 := cell_of_heap hrow 3
          have d4 := cell_of_heap hrow 4
          simp at d0 d1 d2 d3 d4
          clear hrow
          go_wp2
          obtain ⟨wH, hwH⟩ : ∃ x, x = setH wc r S n12 n24 0 0 := ⟨_, rfl⟩
          change bodyPost _ _ _ _ _ (setH wc r S n12 n24 0 0)
          rw [← hwH]
          have hqH := setH_heap S n12 n24 0 0 HC2.out.row
          rw [← hwH] at hqH
          have HDH : Hid (HD w wH c r l 32 S n12 n24 0 0) := Lib.hid (HC2.out.set (by rw [hwH]; exact setH_chg _ _ _ _ _ _ _) hqH)
          have g0 := cell_of_heap hqH 0
          have g1 := cell_of_heap hqH 1
          have g2 := cell_of_heap hqH 2
          have g3 := cell_of_heap hqH 3
          have g4 := cell_of_heap hqH 4
          simp at g0 g1 g2 g3 g4
          clear hqH hwH
          clear f0 f1 f2 f3 f4 d0 d1 d2 d3 d4
          refine bodyPost_ret (v := .tuple #[.agg #[.int .i64 S, .int .i64 n12, .int .u32 n24, .int .i64 0, .int .i64 0], .iface 33 (.int .i64 X)]) (by simp [results, Tryz.results47, go_sem, g0, g1, g2, g3, g4]) rfl ?_
          rw [HE.out]
          exact ⟨S, n12, n24, 0, 0, _, rfl, .inr ⟨HX0.out, rfl⟩, HDH.out.chg⟩
        | true =>
          rw [hkb, if_neg (by decide)] at HE
          go_wp2_with fail
          refine (kind_ok S n12 (.int .u32 n24) wb hkb).mono ?_
          rintro e wc ⟨rfl, hch⟩
          clear f0 f1 f2 f3 f4 d0 d1 d2 d3 d4
          have HC2 := Lib.hid (HB.out.pure hch)
          clear hch hkb
          have hrow := HC2.out.row
          have f0 := frozen_of_heap hrow 0
          have f1 := frozen_of_heap hrow 1
          have f2 := frozen_of_heap hrow 2
          have f3 := frozen_of_heap hrow 3
          have f4 := frozen_of_heap hrow 4
          have d0 := cell_of_heap hrow 0
          have d1 := cell_of_heap hrow 1
          have d2 := cell_of_heap hrow 2
          have d3 := cell_of_heap hrow 3
          have d4 := cell_of_heap hrow 4
          simp at d0 d1 d2 d3 d4
          clear hrow
          go_upto_region 16 with fail
          obtain ⟨wd, hwd⟩ : ∃ x, x = (wc.setCell ⟨r, 3, none⟩ (.int .i64 n16)).setCell ⟨r, 4, none⟩ (.int .i64 n20) := ⟨_, rfl⟩
          have HDD : Hid (HD w wd c r l 32 S n12 n24 n16 n20) := Lib.hid (HC2.out.set (by rw [hwd]; exact ((Chg.refl [r] wc).setCell _ _ (.inl (by simp))).setCell _ _ (.inl (by simp))) (by rw [hwd]; exact heap_setCell (heap_setCell HC2.out.row 3 _) 4 _))
          rw [← hwd]
          clear hwd HC2
          clear f0 f1 f2 f3 f4 d0 d1 d2 d3 d4
          by_cases h11 : 256 < n16
          · have k11 : decide ((256 : Int) < (n16 : Int)) = true := by simp; omega
            rw [if_pos h11] at HE
            have hrow := HDD.out.row
            have f0 := frozen_of_heap hrow 0
            have f1 := frozen_of_heap hrow 1
            have f2 := frozen_of_heap hrow 2
            have f3 := frozen_of_heap hrow 3
            have f4 := frozen_of_heap hrow 4
            have d0 := cell_of_heap hrow 0
            have d1 := cell_of_heap hrow 1
            have d2 := cell_of_heap hrow 2
            have d3 := cell_of_heap hrow 3
            have d4 := cell_of_heap hrow 4
            simp at d0 d1 d2 d3 d4
            clear hrow
            clear h11
            go_wp2
            obtain ⟨wH, hwH⟩ : ∃ x, x = setH wd r S n12 n24 n16 n20 := ⟨_, rfl⟩
            change bodyPost _ _ _ _ _ (setH wd r S n12 n24 n16 n20)
            rw [← hwH]
            have hqH := setH_heap S n12 n24 n16 n20 HDD.out.row
            rw [← hwH] at hqH
            have HDH : Hid (HD w wH c r l 32 S n12 n24 n16 n20) := Lib.hid (HDD.out.set (by rw [hwH]; exact setH_chg _ _ _ _ _ _ _) hqH)
            have g0 := cell_of_heap hqH 0
            have g1 := cell_of_heap hqH 1
            have g2 := cell_of_heap hqH 2
            have g3 := cell_of_heap hqH 3
            have g4 := cell_of_heap hqH 4
            simp at g0 g1 g2 g3 g4
            clear hqH hwH
            clear f0 f1 f2 f3 f4 d0 d1 d2 d3 d4
            refine bodyPost_ret (v := .tuple #[.agg #[.int .i64 S, .int .i64 n12, .int .u32 n24, .int .i64 n16, .int .i64 n20], .iface 33 (.int .i64 11)]) (by simp [results, Tryz.results47, go_sem, g0, g1, g2, g3, g4]) rfl ?_
            rw [HE.out]
            exact ⟨S, n12, n24, n16, n20, _, rfl, .inr ⟨by decide, rfl⟩, HDH.out.chg⟩
          · have k11 : decide ((256 : Int) < (n16 : Int)) = false := by simp; omega
            rw [if_neg h11] at HE
            have hrow := HDD.out.row
            have f0 := frozen_of_heap hrow 0
            have f1 := frozen_of_heap hrow 1
            have f2 := frozen_of_heap hrow 2
            have f3 := frozen_of_heap hrow 3
            have f4 := frozen_of_heap hrow 4
            have d0 := cell_of_heap hrow 0
            have d1 := cell_of_heap hrow 1
            have d2 := cell_of_heap hrow 2
            have d3 := cell_of_heap hrow 3
            have d4 := cell_of_heap hrow 4
            simp at d0 d1 d2 d3 d4
            clear hrow
            clear h11
            have HLEFT : Hid (∀ w, CurB w c ⟨l, 32, false, false⟩ → Calls Tryz.prog 72 #[.pointer (some ⟨c, 0, none⟩)] w fun e w' => e = .returned (.int .i64 ((l.length : Int) - 32)) ∧ Dr w w') := Lib.hid (fun w hcur => Left_cur c ⟨l, 32, false, false⟩ w hcur)
            go_upto_region 18 with fail
            refine wp_region_noPanic ?_
            refine wp_region_held_drew (S := fun w' => Chg [] wd w') (by kernel_rfl) ((Chg.refl _ _).drew) (fun hHeld => ?_)
            refine take_read (i := 0) (v := ?_) (by simp only [List.getElem?_toArray, List.getElem?_cons_zero]; rfl) (by kernel_rfl) (by kernel_rfl) (by kernel_rfl) (fun _ _ _ h => h) hHeld ?_ ?_
            rotate_left
            · intro w hSw
              go_simp
              try with_reducible rfl
            try simp only [Act.put, List.setIfInBounds_toArray, List.set_cons_zero, List.set_cons_succ]
            refine take_read (i := 1) (v := ?_) (by simp only [List.getElem?_toArray, List.getElem?_cons_succ, List.getElem?_cons_zero]; rfl) (by kernel_rfl) (by kernel_rfl) (by kernel_rfl) (fun _ _ _ h => h) hHeld ?_ ?_
            rotate_left
            · intro w hSw
              have d4 := hSw.cell d4 (by simp)
              go_simp
              try with_reducible rfl
            try simp only [Act.put, List.setIfInBounds_toArray, List.set_cons_zero, List.set_cons_succ]
            refine take_read (i := 2) (v := ?_) (by simp only [List.getElem?_toArray, List.getElem?_cons_succ, List.getElem?_cons_zero]; rfl) (by kernel_rfl) (by kernel_rfl) (by kernel_rfl) (fun _ _ _ h => h) hHeld ?_ ?_
            rotate_left
            · intro w hSw
              go_simp
              try with_reducible rfl
            try simp only [Act.put, List.setIfInBounds_toArray, List.set_cons_zero, List.set_cons_succ]
            refine wpAnyH_ready (rs := [3]) (by kernel_rfl) (by simp) ?_
            refine AllReadyH.cons rfl (fun K hK => ?_) AllReadyH.nil
            go_simp
            refine (HLEFT.out wd.drew (HDD.out.pure ((Chg.refl _ _).drew)).cur).mono ?_
            rintro e we ⟨rfl, hd⟩
            refine hK.out _ _ (show Chg [] wd we from ((Chg.refl _ _).drew).dr hd) (fun hHeld2 => ?_)
            clear hK hHeld K
            have hHeld := hHeld2
            clear hHeld2
            try (unfold Act.put; simp only [List.setIfInBounds_toArray, List.set_cons_zero, List.set_cons_succ])
            refine take_read (i := 4) (v := ?_) (by simp only [List.getElem?_toArray, List.getElem?_cons_succ, List.getElem?_cons_zero]; rfl) (by kernel_rfl) (by kernel_rfl) (by kernel_rfl) (fun _ _ _ h => h) hHeld ?_ ?_
            rotate_left
            · intro w hSw
              go_simp
              try with_reducible rfl
            try simp only [Act.put, List.setIfInBounds_toArray, List.set_cons_zero, List.set_cons_succ]
            refine take_read (i := 5) (v := ?_) (by simp only [List.getElem?_toArray, List.getElem?_cons_succ, List.getElem?_cons_zero]; rfl) (by kernel_rfl) (by kernel_rfl) (by kernel_rfl) (fun _ _ _ h => h) hHeld ?_ ?_
            rotate_left
            · intro w hSw
              go_simp
              try with_reducible rfl
            try simp only [Act.put, List.setIfInBounds_toArray, List.set_cons_zero, List.set_cons_succ]
            refine wpAnyH_done (by kernel_rfl) ?_ _
            refine NoPanic.normal ?_
            have HF := Lib.hid ((HDD.out.pure ((Chg.refl _ _).drew)).dr hd)
            clear hd
            clear f0 f1 f2 f3 f4 d0 d1 d2 d3 d4
            by_cases hz : l.length - 32 < n20
            · rw [if_pos hz] at HE
              have kz : (l.length : Int) - 32 < (n20 : Int) := by omega
              clear hz
              have hrow := HF.out.row
              have f0 := frozen_of_heap hrow 0
              have f1 := frozen_of_heap hrow 1
              have f2 := frozen_of_heap hrow 2
              have f3 := frozen_of_heap hrow 3
              have f4 := frozen_of_heap hrow 4
              have d0 := cell_of_heap hrow 0
              have d1 := cell_of_heap hrow 1
              have d2 := cell_of_heap hrow 2
              have d3 := cell_of_heap hrow 3
              have d4 := cell_of_heap hrow 4
              simp at d0 d1 d2 d3 d4
              clear hrow
              go_wp2
              obtain ⟨wH, hwH⟩ : ∃ x, x = setH we r S n12 n24 n16 n20 := ⟨_, rfl⟩
              change bodyPost _ _ _ _ _ (setH we r S n12 n24 n16 n20)
              rw [← hwH]
              have hqH := setH_heap S n12 n24 n16 n20 HF.out.row
              rw [← hwH] at hqH
              have HDH : Hid (HD w wH c r l 32 S n12 n24 n16 n20) := Lib.hid (HF.out.set (by rw [hwH]; exact setH_chg _ _ _ _ _ _ _) hqH)
              have g0 := cell_of_heap hqH 0
              have g1 := cell_of_heap hqH 1
              have g2 := cell_of_heap hqH 2
              have g3 := cell_of_heap hqH 3
              have g4 := cell_of_heap hqH 4
              simp at g0 g1 g2 g3 g4
              clear hqH hwH
              clear f0 f1 f2 f3 f4 d0 d1 d2 d3 d4
              refine bodyPost_ret (v := .tuple #[.agg #[.int .i64 S, .int .i64 n12, .int .u32 n24, .int .i64 n16, .int .i64 n20], .iface 33 (.int .i64 3)]) (by simp [results, Tryz.results47, go_sem, g0, g1, g2, g3, g4]) rfl ?_
              rw [HE.out]
              exact ⟨S, n12, n24, n16, n20, _, rfl, .inr ⟨by decide, rfl⟩, HDH.out.chg⟩
            · rw [if_neg hz] at HE
              have kz : (n20 : Int) ≤ (l.length : Int) - 32 := by omega
              clear hz
              have hrow := HF.out.row
              have f0 := frozen_of_heap hrow 0
              have f1 := frozen_of_heap hrow 1
              have f2 := frozen_of_heap hrow 2
              have f3 := frozen_of_heap hrow 3
              have f4 := frozen_of_heap hrow 4
              have d0 := cell_of_heap hrow 0
              have d1 := cell_of_heap hrow 1
              have d2 := cell_of_heap hrow 2
              have d3 := cell_of_heap hrow 3
              have d4 := cell_of_heap hrow 4
              simp at d0 d1 d2 d3 d4
              clear hrow
              go_wp2
              obtain ⟨wH, hwH⟩ : ∃ x, x = setH we r S n12 n24 n16 n20 := ⟨_, rfl⟩
              change bodyPost _ _ _ _ _ (setH we r S n12 n24 n16 n20)
              rw [← hwH]
              have hqH := setH_heap S n12 n24 n16 n20 HF.out.row
              rw [← hwH] at hqH
              have HDH : Hid (HD w wH c r l 32 S n12 n24 n16 n20) := Lib.hid (HF.out.set (by rw [hwH]; exact setH_chg _ _ _ _ _ _ _) hqH)
              have g0 := cell_of_heap hqH 0
              have g1 := cell_of_heap hqH 1
              have g2 := cell_of_heap hqH 2
              have g3 := cell_of_heap hqH 3
              have g4 := cell_of_heap hqH 4
              simp at g0 g1 g2 g3 g4
              clear hqH hwH
              clear f0 f1 f2 f3 f4 d0 d1 d2 d3 d4
              refine bodyPost_ret (v := .tuple #[.agg #[.int .i64 S, .int .i64 n12, .int .u32 n24, .int .i64 n16, .int .i64 n20], .nilIface]) (by simp [results, Tryz.results47, go_sem, g0, g1, g2, g3, g4]) rfl ?_
              rw [HE.out]
              exact ⟨S, n12, n24, n16, n20, _, rfl, .inl ⟨rfl, rfl, HSD.out.symm, N12.out, N24.out, N16.out, N20.out, HDH.out.cur⟩, HDH.out.chg⟩
      · have k6 : ((n4 : Int) != 16777228) = true := by rw [bne_iff_ne]; omega
        rw [if_pos h6] at HE
        have hrow := HB.out.row
        have f0 := frozen_of_heap hrow 0
        have f1 := frozen_of_heap hrow 1
        have f2 := frozen_of_heap hrow 2
        have f3 := frozen_of_heap hrow 3
        have f4 := frozen_of_heap hrow 4
        have d0 := cell_of_heap hrow 0
        have d1 := cell_of_heap hrow 1
        have d2 := cell_of_heap hrow 2
        have d3 := cell_of_heap hrow 3
        have d4 := cell_of_heap hrow 4
        simp at d0 d1 d2 d3 d4
        clear hrow
        go_wp2
        obtain ⟨wH, hwH⟩ : ∃ x, x = setH wb r S n12 n24 0 0 := ⟨_, rfl⟩
        change bodyPost _ _ _ _ _ (setH wb r S n12 n24 0 0)
        rw [← hwH]
        have hqH := setH_heap S n12 n24 0 0 HB.out.row
        rw [← hwH] at hqH
        have HDH : Hid (HD w wH c r l 32 S n12 n24 0 0) := Lib.hid (HB.out.set (by rw [hwH]; exact setH_chg _ _ _ _ _ _ _) hqH)
        have g0 := cell_of_heap hqH 0
        have g1 := cell_of_heap hqH 1
        have g2 := cell_of_heap hqH 2
        have g3 := cell_of_heap hqH 3
        have g4 := cell_of_heap hqH 4
        simp at g0 g1 g2 g3 g4
        clear hqH hwH
        clear f0 f1 f2 f3 f4 d0 d1 d2 d3 d4
        refine bodyPost_ret (v := .tuple #[.agg #[.int .i64 S, .int .i64 n12, .int .u32 n24, .int .i64 0, .int .i64 0], .iface 33 (.int .i64 6)]) (by simp [results, Tryz.results47, go_sem, g0, g1, g2, g3, g4]) rfl ?_
        rw [HE.out]
        exact ⟨S, n12, n24, 0, 0, _, rfl, .inr ⟨by decide, rfl⟩, HDH.out.chg⟩
    · have k5 : ((n0 : Int) != 4277009103) = true := by rw [bne_iff_ne]; omega
      rw [if_pos h5] at HE
      have hrow := H2.out.row
      have f0 := frozen_of_heap hrow 0
      have f1 := frozen_of_heap hrow 1
      have f2 := frozen_of_heap hrow 2
      have f3 := frozen_of_heap hrow 3
      have f4 := frozen_of_heap hrow 4
      have d0 := cell_of_heap hrow 0
      have d1 := cell_of_heap hrow 1
      have d2 := cell_of_heap hrow 2
      have d3 := cell_of_heap hrow 3
      have d4 := cell_of_heap hrow 4
      simp at d0 d1 d2 d3 d4
      clear hrow
      go_wp2
      obtain ⟨wH, hwH⟩ : ∃ x, x = setH w2 r 0 0 0 0 0 := ⟨_, rfl⟩
      change bodyPost _ _ _ _ _ (setH w2 r 0 0 0 0 0)
      rw [← hwH]
      have hqH := setH_heap 0 0 0 0 0 H2.out.row
      rw [← hwH] at hqH
      have HDH : Hid (HD w wH c r l 4 0 0 0 0 0) := Lib.hid (H2.out.set (by rw [hwH]; exact setH_chg _ _ _ _ _ _ _) hqH)
      have g0 := cell_of_heap hqH 0
      have g1 := cell_of_heap hqH 1
      have g2 := cell_of_heap hqH 2
      have g3 := cell_of_heap hqH 3
      have g4 := cell_of_heap hqH 4
      simp at g0 g1 g2 g3 g4
      clear hqH hwH
      clear f0 f1 f2 f3 f4 d0 d1 d2 d3 d4
      refine bodyPost_ret (v := .tuple #[.agg #[.int .i64 0, .int .i64 0, .int .u32 0, .int .i64 0, .int .i64 0], .iface 33 (.int .i64 5)]) (by simp [results, Tryz.results47, go_sem, g0, g1, g2, g3, g4]) rfl ?_
      rw [HE.out]
      exact ⟨0, 0, 0, 0, 0, _, rfl, .inr ⟨by decide, rfl⟩, HDH.out.chg⟩
end Go.Proofs.YtgjlgamlmmjdpaaGreatDoor
