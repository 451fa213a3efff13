/- fat.find, Pick and the document's, walked. -/
import Derived.Test.YtchkombikjcokaaDoorPick
namespace Go.Proofs.YtchkombikjcokaaDoor
open Go.RowKit
set_option maxRecDepth 100000

/-- The slice value v of slices reads as ls. -/
def SlRd (w : World) (v : Value) (ls : List SL) : Prop :=
  ∃ a n cap, v = .slice a n cap ∧ n = ls.length ∧ n ≤ cap ∧ cap ≤ maxLen ∧
    (ls ≠ [] → ∃ b off, a = some ⟨b, off, none⟩ ∧ b < w.heap.size ∧ ∀ j, j < ls.length →
      w.cell? ⟨b, off + j * 5, none⟩ = some (.int .u32 (ls.getD j .zero).cpu) ∧
      w.cell? ⟨b, off + j * 5 + 1, none⟩ = some (.int .u32 (ls.getD j .zero).sub) ∧
      w.cell? ⟨b, off + j * 5 + 2, none⟩ = some (.int .u64 (ls.getD j .zero).off) ∧
      w.cell? ⟨b, off + j * 5 + 3, none⟩ = some (.int .u64 (ls.getD j .zero).size) ∧
      w.cell? ⟨b, off + j * 5 + 4, none⟩ = some (.int .i64 (ls.getD j .zero).align))
theorem SlRd.frame {w w' : World} {v : Value} {ls : List SL} (h : SlRd w v ls) (k : Chg [] w w') : SlRd w' v ls := by
  obtain ⟨a, n, cap, rfl, hn, hc, hm, hx⟩ := h
  refine ⟨a, n, cap, rfl, hn, hc, hm, fun hne => ?_⟩
  obtain ⟨b, off, rfl, hb, hcell⟩ := hx hne
  refine ⟨b, off, rfl, Nat.lt_of_lt_of_le hb k.size, fun j hj => ?_⟩
  obtain ⟨h1, h2, h3, h4, h5⟩ := hcell j hj
  exact ⟨k.cell h1 (by simp), k.cell h2 (by simp), k.cell h3 (by simp), k.cell h4 (by simp), k.cell h5 (by simp)⟩

/-- Is it the one that is looked for? -/
def armB (sub : Nat) (s : SL) : Bool := likeB s ⟨16777228, sub, 0, 0, 0⟩
def findS (sub : Nat) (ls : List SL) : Option SL := ls.find? (armB sub)

theorem find?_none_take {ls : List SL} {p : SL → Bool} {k : Nat} (h : ∀ s ∈ ls.take k, p s = false) (hlt : k < ls.length) (hp : p (ls.getD k .zero) = true) : ls.find? p = some (ls.getD k .zero) := by
  have e : ls = ls.take k ++ ls.drop k := (List.take_append_drop k ls).symm
  have hd : ls.drop k = ls.getD k .zero :: ls.drop (k + 1) := by
    rw [List.drop_eq_getElem_cons hlt]; simp [List.getD_eq_getElem?_getD, hlt]
  have h0 : (ls.take k).find? p = none := List.find?_eq_none.2 (fun s hs => by rw [h s hs]; simp)
  conv => lhs; rw [e]
  rw [List.find?_append, h0, hd, List.find?_cons_of_pos (by exact hp)]
  rfl
theorem find?_none_all {ls : List SL} {p : SL → Bool} (h : ∀ s ∈ ls.take ls.length, p s = false) : ls.find? p = none := by
  rw [List.take_length] at h
  exact List.find?_eq_none.2 (fun s hs => by rw [h s hs]; simp)
theorem take_snoc_all {ls : List SL} {p : SL → Bool} {k : Nat} (h : ∀ s ∈ ls.take k, p s = false) (hlt : k < ls.length) (hp : p (ls.getD k .zero) = false) : ∀ s ∈ ls.take (k + 1), p s = false := by
  rw [List.take_succ_eq_append_getElem hlt]
  intro s hs
  rw [List.mem_append, List.mem_singleton] at hs
  rcases hs with hs | rfl
  · exact h s hs
  · simpa [List.getD_eq_getElem?_getD, hlt] using hp

def set5 (w : World) (r : Nat) (s : SL) : World :=
  ((((w.setCell ⟨r, 0, none⟩ (.int .u32 s.cpu)).setCell ⟨r, 1, none⟩ (.int .u32 s.sub)).setCell ⟨r, 2, none⟩ (.int .u64 s.off)).setCell ⟨r, 3, none⟩ (.int .u64 s.size)).setCell ⟨r, 4, none⟩ (.int .i64 s.align)
theorem set5_heap {w : World} {r : Nat} {c0 c1 c2 c3 c4 : Value} {T : TypeId} {fz : Nat × Nat} (s : SL) (h : w.heap[r]? = some (.cells #[c0, c1, c2, c3, c4] T fz)) :
    (set5 w r s).heap[r]? = some (.cells #[.int .u32 s.cpu, .int .u32 s.sub, .int .u64 s.off, .int .u64 s.size, .int .i64 s.align] T fz) := by
  have h1 := heap_setCell h 0 (.int .u32 s.cpu)
  have h2 := heap_setCell h1 1 (.int .u32 s.sub)
  have h3 := heap_setCell h2 2 (.int .u64 s.off)
  have h4 := heap_setCell h3 3 (.int .u64 s.size)
  exact heap_setCell h4 4 (.int .i64 s.align)
theorem set5_chg (w : World) (r : Nat) (s : SL) : Chg [r] w (set5 w r s) :=
  (((((Chg.refl [r] w).setCell _ _ (.inl (by simp))).setCell _ _ (.inl (by simp))).setCell _ _ (.inl (by simp))).setCell _ _ (.inl (by simp))).setCell _ _ (.inl (by simp))

theorem find_any (sub : Nat) (hs : sub < 4294967296) (ls : List SL) (hok : ∀ s ∈ ls, s.ok) (v : Value) (w : World) (rd : SlRd w v ls) (hlen : ls.length ≤ 70368744177664) :
    Calls Tryd.prog 48 #[v, .int .u32 sub] w fun e w' => e = .returned (.tuple #[((findS sub ls).getD .zero).val, .bool (findS sub ls).isSome]) ∧ Chg [] w w' := by
  obtain ⟨a, n, cap, rfl, rfl, hc1, hc2, hx⟩ := rd
  have Hx := Lib.hid hx
  have Hok := Lib.hid hok
  clear hx hok
  clear hc1 hc2
  go_enter Tryd.func48, Tryd.ntmps48
  go_wp2_with fail
  obtain ⟨w0, hw0⟩ : ∃ w0, w0 = w.alloc (.cells #[.int .u32 0, .int .u32 0, .int .u64 0, .int .u64 0, .int .i64 0] 52) := ⟨_, rfl⟩
  obtain ⟨r, hr⟩ : ∃ r, r = w.heap.size := ⟨_, rfl⟩
  have HRES : Hid (w0.heap[r]? = some (.cells #[.int .u32 0, .int .u32 0, .int .u64 0, .int .u64 0, .int .i64 0] 52 (0, 0))) := Lib.hid (by rw [hw0, hr]; exact heap_alloc_eq _ _)
  have HW0 : Hid (Chg [] w w0) := Lib.hid (by rw [hw0]; exact (Chg.refl _ _).alloc _)
  have HR0 : Hid (r = w.heap.size) := Lib.hid (hr)
  rw [← hr, ← hw0]
  clear hw0 hr
  go_loopw [10] (fun s10 wr => ∃ k : Nat, k ≤ ls.length ∧ s10 = .int .i64 (k : Int) ∧ (∀ s ∈ ls.take k, armB sub s = false) ∧ Chg [] w0 wr) (fun s10 _ => ls.length - (intOf s10).toNat)
  case atStart => exact ⟨0, Nat.zero_le _, rfl, by simp, Chg.refl _ _⟩
  case round =>
    obtain ⟨k, hk, rfl, hall, hch⟩ := hrel
    have Hall := Lib.hid hall
    have Hch := Lib.hid hch
    clear hall hch
    by_cases hlt : k < ls.length
    · obtain ⟨b, off, rfl, hb, hcell⟩ := Hx.out (by rintro rfl; simp at hlt)
      obtain ⟨h1, h2, h3, h4, h5⟩ := hcell k hlt
      obtain ⟨s, hs'⟩ : ∃ s, s = ls.getD k .zero := ⟨_, rfl⟩
      have HMEM : Hid (s ∈ ls) := Lib.hid (by rw [hs']; simp [List.getD_eq_getElem?_getD, hlt])
      have HOK := Lib.hid (Hok.out s HMEM.out)
      rw [← hs'] at h1 h2 h3 h4 h5
      have HS := Lib.hid (hs')
      have kk := HW0.out.then Hch.out
      have k1 := kk.cell h1 (by simp)
      have k2 := kk.cell h2 (by simp)
      have k3 := kk.cell h3 (by simp)
      have k4 := kk.cell h4 (by simp)
      have k5 := kk.cell h5 (by simp)
      clear h1 h2 h3 h4 h5 hcell kk hs'
      go_wp2_with fail
      refine (alike_any s ⟨16777228, sub, 0, 0, 0⟩ _ HOK.out.2.1 hs).mono ?_
      rintro e w1 ⟨rfl, hch1⟩
      have HC1 := Lib.hid ((Hch.out.alloc _).then hch1)
      have hq := hch1.heap (heap_alloc_eq wr _) (by simp)
      have c0 := cell_of_heap hq 0
      have c1 := cell_of_heap hq 1
      have c2 := cell_of_heap hq 2
      have c3 := cell_of_heap hq 3
      have c4 := cell_of_heap hq 4
      simp at c0 c1 c2 c3 c4
      clear hq hch1 k1 k2 k3 k4 k5
      change Hid _ at HS
      rw [show likeB s ⟨16777228, sub, 0, 0, 0⟩ = armB sub s from rfl]
      cases hb' : armB sub s with
      | true =>
        have HF : Hid (findS sub ls = some s) := by
          refine Lib.hid ?_
          have := HS.out
          rw [this]
          exact find?_none_take Hall.out hlt (by rw [← this]; exact hb')
        clear hb'
        have hres := HC1.out.heap HRES.out (by simp)
        have f0 := frozen_of_heap hres 0
        have f1 := frozen_of_heap hres 1
        have f2 := frozen_of_heap hres 2
        have f3 := frozen_of_heap hres 3
        have f4 := frozen_of_heap hres 4
        have d0 := cell_of_heap hres 0
        have d1 := cell_of_heap hres 1
        have d2 := cell_of_heap hres 2
        have d3 := cell_of_heap hres 3
        have d4 := cell_of_heap hres 4
        simp at d0 d1 d2 d3 d4
        clear hres
        go_wp2
        obtain ⟨w5, hw5⟩ : ∃ w5, w5 = set5 w1 r s := ⟨_, rfl⟩
        change bodyPost _ _ _ _ _ (set5 w1 r s)
        rw [← hw5]
        have hq5 := set5_heap s (HC1.out.heap HRES.out (by simp))
        rw [← hw5] at hq5
        have HC5 : Hid (Chg [] w w5) := Lib.hid (by rw [hw5]; exact (HW0.out.then HC1.out).new (set5_chg _ _ _) (Nat.le_of_eq HR0.out.symm))
        have g0 := cell_of_heap hq5 0
        have g1 := cell_of_heap hq5 1
        have g2 := cell_of_heap hq5 2
        have g3 := cell_of_heap hq5 3
        have g4 := cell_of_heap hq5 4
        simp at g0 g1 g2 g3 g4
        clear hq5 hw5
        refine bodyPost_ret (v := .tuple #[s.val, .bool true]) (by simp [results, Tryd.results48, go_sem, g0, g1, g2, g3, g4, SL.val]) rfl ?_
        rw [HF.out]
        exact ⟨rfl, HC5.out⟩
      | false =>
        have HA : Hid (∀ s ∈ ls.take (k + 1), armB sub s = false) := Lib.hid (take_snoc_all Hall.out hlt (by rw [← HS.out]; exact hb'))
        clear hb'
        go_wp2
        go_roundw
        case rel => exact ⟨k + 1, by omega, by go_num, HA.out, HC1.out⟩
        case measure => simp [intOf]; omega
    · obtain rfl : k = ls.length := by omega
      have HF : Hid (findS sub ls = none) := Lib.hid (find?_none_all Hall.out)
      have hres := Hch.out.heap HRES.out (by simp)
      have f0 := frozen_of_heap hres 0
      have f1 := frozen_of_heap hres 1
      have f2 := frozen_of_heap hres 2
      have f3 := frozen_of_heap hres 3
      have f4 := frozen_of_heap hres 4
      have d0 := cell_of_heap hres 0
      have d1 := cell_of_heap hres 1
      have d2 := cell_of_heap hres 2
      have d3 := cell_of_heap hres 3
      have d4 := cell_of_heap hres 4
      simp at d0 d1 d2 d3 d4
      clear hres
      go_wp2
      obtain ⟨w5, hw5⟩ : ∃ w5, w5 = set5 wr r .zero := ⟨_, rfl⟩
      change bodyPost _ _ _ _ _ (set5 wr r .zero)
      rw [← hw5]
      have hq5 := set5_heap .zero (Hch.out.heap HRES.out (by simp))
      rw [← hw5] at hq5
      have HC5 : Hid (Chg [] w w5) := Lib.hid (by rw [hw5]; exact (HW0.out.then Hch.out).new (set5_chg _ _ _) (Nat.le_of_eq HR0.out.symm))
      have g0 := cell_of_heap hq5 0
      have g1 := cell_of_heap hq5 1
      have g2 := cell_of_heap hq5 2
      have g3 := cell_of_heap hq5 3
      have g4 := cell_of_heap hq5 4
      simp at g0 g1 g2 g3 g4
      clear hq5 hw5
      refine bodyPost_ret (v := .tuple #[SL.zero.val, .bool false]) (by simp [results, Tryd.results48, go_sem, g0, g1, g2, g3, g4, SL.val]) rfl ?_
      rw [HF.out]
      exact ⟨rfl, HC5.out⟩

/-- Where the first one stands, or -1. -/
def findI (sub : Nat) (ls : List SL) : Int := match ls.findIdx? (armB sub) with | some i => i | none => -1
theorem Find_any (sub : Nat) (hs : sub < 4294967296) (ls : List SL) (hok : ∀ s ∈ ls, s.ok) (v : Value) (w : World) (rd : SlRd w v ls) (hlen : ls.length ≤ 70368744177664) :
    Calls Tryd.prog 49 #[v, .int .u32 sub] w fun e w' => ∃ i : Int, e = .returned (.int .i64 i) ∧ (i = -1 ∧ findS sub ls = none ∨ ∃ k : Nat, i = k ∧ k < ls.length ∧ findS sub ls = some (ls.getD k .zero)) ∧ Chg [] w w' := by
  obtain ⟨a, n, cap, rfl, rfl, hc1, hc2, hx⟩ := rd
  have Hx := Lib.hid hx
  have Hok := Lib.hid hok
  clear hx hok
  clear hc1 hc2
  go_enter Tryd.func49, Tryd.ntmps49
  go_wp2_with fail
  go_loopw [5] (fun s5 wr => ∃ k : Nat, k ≤ ls.length ∧ s5 = .int .i64 (k : Int) ∧ (∀ s ∈ ls.take k, armB sub s = false) ∧ Chg [] w wr) (fun s5 _ => ls.length - (intOf s5).toNat)
  case atStart => exact ⟨0, Nat.zero_le _, rfl, by simp, Chg.refl _ _⟩
  case round =>
    obtain ⟨k, hk, rfl, hall, hch⟩ := hrel
    have Hall := Lib.hid hall
    have Hch := Lib.hid hch
    clear hall hch
    by_cases hlt : k < ls.length
    · obtain ⟨b, off, rfl, hb, hcell⟩ := Hx.out (by rintro rfl; simp at hlt)
      obtain ⟨h1, h2, h3, h4, h5⟩ := hcell k hlt
      obtain ⟨s, hs'⟩ : ∃ s, s = ls.getD k .zero := ⟨_, rfl⟩
      have HMEM : Hid (s ∈ ls) := Lib.hid (by rw [hs']; simp [List.getD_eq_getElem?_getD, hlt])
      have HOK := Lib.hid (Hok.out s HMEM.out)
      rw [← hs'] at h1 h2 h3 h4 h5
      have HS := Lib.hid (hs')
      have kk := Hch.out
      have k1 := kk.cell h1 (by simp)
      have k2 := kk.cell h2 (by simp)
      have k3 := kk.cell h3 (by simp)
      have k4 := kk.cell h4 (by simp)
      have k5 := kk.cell h5 (by simp)
      clear h1 h2 h3 h4 h5 hcell kk hs'
      go_wp2_with fail
      refine (Alike_any s ⟨16777228, sub, 0, 0, 0⟩ _ HOK.out.2.1 hs).mono ?_
      rintro e w1 ⟨rfl, hch1⟩
      have HC1 := Lib.hid (Hch.out.then hch1)
      clear hch1 k1 k2 k3 k4 k5
      change Hid _ at HS
      rw [show likeB s ⟨16777228, sub, 0, 0, 0⟩ = armB sub s from rfl]
      cases hb' : armB sub s with
      | true =>
        have HF : Hid (findS sub ls = some (ls.getD k .zero)) := by
          refine Lib.hid ?_
          have := HS.out
          exact find?_none_take Hall.out hlt (by rw [← this]; exact hb')
        clear hb'
        go_wp2
        go_ret
        exact ⟨_, rfl, .inr ⟨k, rfl, hlt, HF.out⟩, HC1.out⟩
      | false =>
        have HA : Hid (∀ s ∈ ls.take (k + 1), armB sub s = false) := Lib.hid (take_snoc_all Hall.out hlt (by rw [← HS.out]; exact hb'))
        clear hb'
        go_wp2
        go_roundw
        case rel => exact ⟨k + 1, by omega, by go_num, HA.out, HC1.out⟩
        case measure => simp [intOf]; omega
    · obtain rfl : k = ls.length := by omega
      have HF : Hid (findS sub ls = none) := Lib.hid (find?_none_all Hall.out)
      go_wp2
      go_ret
      exact ⟨_, rfl, .inl ⟨rfl, HF.out⟩, Hch.out⟩
end Go.Proofs.YtchkombikjcokaaDoor
