/- command.One and command.kind, walked. -/
import Derived.Test.YtchkombikjcokaaDoorPut4
import Derived.Handy
namespace Go.Proofs.YtchkombikjcokaaDoor
open Go.RowKit
set_option maxRecDepth 100000

def oneN (k : Nat) : Nat := (8 + k + 7) / 8 * 8
def oneL (cmd : Nat) (says : List UInt8) : List UInt8 := (le4 cmd ++ le4 (oneN says.length)) ++ says ++ List.replicate (oneN says.length - 8 - says.length) 0
theorem oneL_len (cmd : Nat) (says : List UInt8) : (oneL cmd says).length = oneN says.length := by
  unfold oneL oneN le4; simp; omega

theorem Buf.form {w : World} {base : Nat} {v : Value} {l : List UInt8} (h : Buf w base v l) : ∃ a cap, v = .slice a l.length cap := by
  obtain ⟨a, n, cap, rfl, hn, _⟩ := h.rd
  rw [bytesV_length] at hn
  subst hn
  exact ⟨a, cap, rfl⟩
theorem Buf.mono {w : World} {base base' : Nat} {v : Value} {l : List UInt8} (h : Buf w base v l) (hb : base' ≤ base) : Buf w base' v l := owned_base h hb

set_option maxHeartbeats 1000000 in
theorem One_ok (cmd : Nat) (hc : cmd < 4294967296) (says : List UInt8) (a : Option Addr) (cap : Nat) (w : World) (rd : Rd w (.slice a says.length cap) (bytesV says)) (hl : oneN says.length ≤ 1048576) :
    Calls Tryd.prog 14 #[.int .u32 cmd, .slice a says.length cap] w fun e w' => ∃ v, e = .returned (.tuple #[.agg #[.int .u32 cmd, v], .int .i64 0]) ∧ Buf w' w.heap.size v (oneL cmd says) ∧ Chg [] w w' := by
  obtain ⟨N, hN⟩ : ∃ N, N = oneN says.length := ⟨_, rfl⟩
  have hsz : (8 + (says.length : Int) + 8 - 1) / 8 * 8 = (N : Int) := by rw [hN]; unfold oneN; omega
  have h1 : says.length + 8 ≤ N := by rw [hN]; unfold oneN; omega
  have HL : Hid (oneL cmd says = ((([] ++ le4 cmd) ++ le4 N) ++ says) ++ List.replicate (N - 8 - says.length) 0) := Lib.hid (by rw [hN]; rfl)
  rw [← hN] at hl
  have hk : says.length ≤ 1048576 := by omega
  have HR := Lib.hid rd
  clear rd
  clear hN
  go_enter Tryd.func14, Tryd.ntmps14
  go_wp2_with fail
  obtain ⟨w1, hw1⟩ : ∃ w1, w1 = w.alloc (.cells #[.int .u32 0, .slice none 0 0] 26) := ⟨_, rfl⟩
  obtain ⟨r, hr⟩ : ∃ r, r = w.heap.size := ⟨_, rfl⟩
  have HRES : Hid (w1.heap[r]? = some (.cells #[.int .u32 0, .slice none 0 0] 26 (0, 0))) := Lib.hid (by rw [hw1, hr]; exact heap_alloc_eq _ _)
  have HC1 : Hid (Chg [] w w1) := Lib.hid (by rw [hw1]; exact (Chg.refl _ _).alloc _)
  have HBS : Hid (r < w1.heap.size) := Lib.hid (by rw [hw1, hr]; simp)
  have HR0 : Hid (r = w.heap.size) := Lib.hid (hr)
  rw [← hr, ← hw1]
  clear hw1 hr hsz
  refine (put_any _ [] cmd hc w1.heap.size w1 (Buf.nil _ _) (Nat.le_refl _) (by simp)).mono ?_
  rintro e w2 ⟨v1, rfl, hg1⟩
  have HG1 := Lib.hid (hg1)
  clear hg1
  go_wp2_with fail
  refine (put_any v1 ([] ++ le4 cmd) N (by omega) w1.heap.size w2 HG1.out.buf HG1.out.chg.size (by simp [le4])).mono ?_
  rintro e w3 ⟨v2, rfl, hg2⟩
  have HG2 := Lib.hid (HG1.out.trans hg2)
  have HB2 := Lib.hid (hg2.buf)
  have HC3 : Hid (Chg [] w1 w3) := Lib.hid (HG2.out.pure0 (Buf.nil _ _) (Chg.refl _ _) (Nat.le_refl _))
  clear hg2
  go_wp2_with (at_builtin; refine app_buf rfl _ _ rfl w1.heap.size v2 (([] ++ le4 cmd) ++ le4 N) rfl HB2.out _ rfl says (HR.out.frame (HC1.out.then HC3.out) (fun _ _ hm => by cases hm)) (by simp [le4]; omega) HC3.out.size ?_; intro va wa hoa hga haa; refine Hid.out ?_)
  refine Lib.hid ?_
  have HB4 : Hid (Buf wa w1.heap.size va ((([] ++ le4 cmd) ++ le4 N) ++ says)) := Lib.hid (hoa)
  have HC4 : Hid (Chg [] w1 wa) := Lib.hid (HC3.out.trans (Chg.of_grown hga) (fun i hm hi => by have := (World.ownsRow.lt HB2.out i (by simpa using hm)).1; omega))
  clear hoa hga haa
  obtain ⟨a4, cap4, rfl⟩ := HB4.out.form
  have hlen4 : ((([] ++ le4 cmd) ++ le4 N) ++ says).length = 8 + says.length := by simp [le4]; omega
  rw [hlen4]
  rw [hlen4] at HB4
  have HL4 := Lib.hid (hlen4)
  clear hlen4
  have hm : (N : Int) - (8 + (says.length : Int)) = ((N - 8 - says.length : Nat) : Int) := by omega
  go_wp2_with (at_builtin; refine app_zeros rfl _ _ rfl w1.heap.size (.slice a4 (8 + says.length) cap4) ((([] ++ le4 cmd) ++ le4 N) ++ says) rfl HB4.out (N - 8 - says.length) rfl (by have := HL4.out; omega) HC4.out.size ?_; intro vb wb hob hgb hab; refine Hid.out ?_)
  refine Lib.hid ?_
  rw [← HL.out] at hob
  have HC5 : Hid (Chg [] w1 wb) := Lib.hid (HC4.out.trans (Chg.of_grown hgb) (fun i hm hi => by have := (World.ownsRow.lt HB4.out i (by simpa using hm)).1; omega))
  have HB5 := Lib.hid (hob)
  clear hob hgb hab
  obtain ⟨a5, cap5, rfl⟩ := HB5.out.form
  have hres := HC5.out.heap HRES.out (by simp)
  have c0 := cell_of_heap hres 0
  have c1 := cell_of_heap hres 1
  have f0 := frozen_of_heap hres 0
  have f1 := frozen_of_heap hres 1
  simp at c0 c1
  clear hres
  have hS : ∀ b, (Value.slice a5 (oneL cmd says).length cap5).ownBlock = some b → b ∉ [r] := fun b hb hm => by
    rw [List.mem_singleton] at hm
    have := (World.ownsRow.lt HB5.out b hb).1
    have := HBS.out
    omega
  have HC6 : Hid (Chg [r] wb ((wb.setCell ⟨r, 0, none⟩ (.int .u32 cmd)).setCell ⟨r, 1, none⟩ (.slice a5 (oneL cmd says).length cap5))) := Lib.hid (((Chg.refl [r] wb).setCell _ _ (.inl (by simp))).setCell _ _ (.inl (by simp)))
  have HB6 := Lib.hid ((HB5.out.frame HC6.out hS).mono (Nat.le_trans (Nat.le_of_lt HBS.out) (Nat.le_refl _)))
  have HC7 := Lib.hid ((HC1.out.then HC5.out).new HC6.out (Nat.le_of_eq HR0.out.symm))
  have e0 : (wb.setCell ⟨r, 0, none⟩ (.int .u32 cmd)).cell? ⟨r, 0, none⟩ = some (.int .u32 cmd) := World.cell?_setCell_same _ _ _ c0
  have e1 : ((wb.setCell ⟨r, 0, none⟩ (.int .u32 cmd)).setCell ⟨r, 1, none⟩ (.slice a5 (oneL cmd says).length cap5)).cell? ⟨r, 1, none⟩ = some (.slice a5 (oneL cmd says).length cap5) := World.cell?_setCell_same _ _ _ ((World.cell?_setCell_other _ _ _ _ (by intro e; cases e)).trans c1)
  clear hS
  go_wp2
  refine bodyPost_ret (v := .tuple #[.agg #[.int .u32 cmd, .slice a5 (oneL cmd says).length cap5], .int .i64 0]) (by simp [results, Tryd.results14, go_sem, e0, e1]) rfl ?_
  rw [← HR0.out]
  exact ⟨_, rfl, HB6.out, HC7.out⟩
theorem One_many (cmd : Nat) (a : Option Addr) (n cap : Nat) (w : World) (hn : n ≤ 70368744177664) (hl : 1048576 < oneN n) :
    Calls Tryd.prog 14 #[.int .u32 cmd, .slice a n cap] w fun e w' => e = .returned (.tuple #[.agg #[.int .u32 0, .slice none 0 0], .int .i64 11]) ∧ Chg [] w w' := by
  obtain ⟨N, hN⟩ : ∃ N, N = oneN n := ⟨_, rfl⟩
  have hsz : (8 + (n : Int) + 8 - 1) / 8 * 8 = (N : Int) := by rw [hN]; unfold oneN; omega
  rw [← hN] at hl
  clear hN
  go_enter Tryd.func14, Tryd.ntmps14
  go_wp2
  refine bodyPost_ret (v := .tuple #[.agg #[.int .u32 0, .slice none 0 0], .int .i64 11]) (by simp [results, Tryd.results14, go_sem]) rfl ?_
  exact ⟨rfl, (Chg.refl _ _).alloc _⟩

/-- What command.kind says of a subtype and a kind: nil, or an errno. -/
def kindB (sub kind : Int) : Bool := (sub = 0 ∨ sub = 2) ∧ (kind = 2 ∨ kind = 6)
theorem kind_ok (sub kind : Int) (fl : Value) (w : World) (h : kindB sub kind = true) :
    Calls Tryd.prog 41 #[.agg #[.int .i64 sub, .int .i64 kind, fl]] w fun e w' => e = .returned .nilIface ∧ Chg [] w w' := by
  have h' : (sub = 0 ∨ sub = 2) ∧ (kind = 2 ∨ kind = 6) := by simpa [kindB] using h
  clear h
  obtain ⟨rfl | rfl, rfl | rfl⟩ := h'
  all_goals
    go_enter Tryd.func41, Tryd.ntmps41
    go_wp2
    go_ret
    exact ⟨rfl, (Chg.refl _ _).alloc _⟩
theorem kind_no (sub kind : Int) (fl : Value) (w : World) (h : kindB sub kind = false) :
    Calls Tryd.prog 41 #[.agg #[.int .i64 sub, .int .i64 kind, fl]] w fun e w' => e = .returned (.iface 27 (.int .i64 (if sub = 0 ∨ sub = 2 then 7 else 6))) ∧ Chg [] w w' := by
  by_cases hs : sub = 0 ∨ sub = 2
  · have hk : ¬ (kind = 2 ∨ kind = 6) := fun hk => by simp [kindB, hs, hk] at h
    rw [if_pos hs]
    have k1 : (kind != 2) = true := by rw [bne_iff_ne]; omega
    have k2 : (kind != 6) = true := by rw [bne_iff_ne]; omega
    clear h hk
    rcases hs with rfl | rfl
    all_goals
      go_enter Tryd.func41, Tryd.ntmps41
      go_wp2
      go_ret
      exact ⟨rfl, (Chg.refl _ _).alloc _⟩
  · rw [if_neg hs]
    have k1 : (sub != 0) = true := by rw [bne_iff_ne]; omega
    have k2 : (sub != 2) = true := by rw [bne_iff_ne]; omega
    clear h hs
    go_enter Tryd.func41, Tryd.ntmps41
    go_wp2
    go_ret
    exact ⟨rfl, (Chg.refl _ _).alloc _⟩
end Go.Proofs.YtchkombikjcokaaDoor
