/- CursorCodes, walked. -/
import Derived.Test.YtpodphfdoonidaaDoorJoin
import Derived.Test.YtpodphfdoonidaaDoorKnown1
import Derived.Test.YtpodphfdoonidaaDoorInt
import Derived.Lib.LaidTab
namespace Go.Proofs.YtpodphfdoonidaaDoor
open Go.RowKit
set_option maxRecDepth 100000

/-- The table that strconv.Itoa reads. -/
def Tab (w : World) : Prop := Lib.TabIs Tryd.prog w "internal/strconv.uint64pow10" .u64 Lib.pow10Tab
theorem Tryd.tabAt : Tryd.prog.globalNamed "internal/strconv.uint64pow10" = some 2 := by kernel_rfl
theorem Tab.frame {w w' : World} (h : Tab w) (k : Chg [] w w') : Tab w' := by
  unfold Tab Lib.TabIs World.var? at *
  rw [Tryd.tabAt] at *
  simp only [Option.bind_some] at *
  cases hh : w.heap[2]? with
  | none => rw [hh] at h; cases h
  | some o => rw [k.heap hh (by simp)]; rw [hh] at h; exact h
theorem Itoa_tab (n : Nat) (hn : n < 9223372036854775808) (w : World) (ht : Tab w) : Calls Tryd.prog 63 #[.int .i64 n] w fun e w' => e = .returned (.string (digB n)) ∧ Chg [] w w' := by
  refine (Tryd.strconv_Itoa (n : Int) (by omega) (by omega) w ht).mono fun e w' ⟨he, k, os, hw⟩ => ⟨?_, ?_⟩
  · rw [he, Lib.itoa_nonneg]; rfl
  · subst hw
    exact ⟨rfl, rfl, rfl, by simp [Go.Sort.grow, World.drewN], fun i hi _ => Go.Sort.heap_grow_old (w.drewN k) os hi⟩

set_option maxHeartbeats 2000000 in
theorem CursorCodes_in (n : Int) (N : Nat) (hN : N < 9223372036854775808) (s : ByteArray) (hs : s.size ≤ 100) (w : World) (hg : Env w) (ht : Tab w) :
    Calls Tryd.prog 12 #[.int .i64 n, .int .i64 N, .string s] w fun e w' => e = .returned (.bool true) ∧ Chg [] w w' := by
  have hdl : (digB N).size ≤ 21 := dec_len N hN
  have hwl := wordB_size n
  have q1 : IntKind.u64.wrap (N : Int) = N := by rw [IntKind.wrap_u64]; omega
  have HE := Lib.hid (hg)
  have HT := Lib.hid (ht)
  have HN := Lib.hid (hN)
  have HD := Lib.hid (hdl)
  clear hg ht hN
  go_enter Tryd.func12, Tryd.ntmps12
  go_wp2_with fail
  obtain ⟨b, hb⟩ : ∃ b, b = w.heap.size := ⟨_, rfl⟩
  obtain ⟨w2, hw2⟩ : ∃ w2, w2 = (w.alloc (.cells #[.int .i64 N, .int .i64 n] 57)).alloc (.cells #[.int .i64 1, .string s, .int .i64 n] 61) := ⟨_, rfl⟩
  have HB : Hid (w2.heap[b]? = some (.cells #[.int .i64 N, .int .i64 n] 57 (0, 0))) := Lib.hid (by rw [hw2, hb]; exact (heap_alloc_lt (by simp) _).trans (heap_alloc_eq w _))
  have HF : Hid (w2.heap[b + 1]? = some (.cells #[.int .i64 1, .string s, .int .i64 n] 61 (0, 0))) := by
    refine Lib.hid ?_
    rw [hw2, hb, show w.heap.size + 1 = (w.alloc (.cells #[.int .i64 N, .int .i64 n] 57)).heap.size from by simp]
    exact heap_alloc_eq _ _
  have HC : Hid (Chg [] w w2) := Lib.hid (by rw [hw2]; exact ((Chg.refl _ _).alloc _).alloc _)
  rw [← hb, ← hw2]
  clear hb hw2
  have step : ∀ {W W' : World}, Chg [] w2 W → Chg [] W W' → Chg [] w2 W' := fun h k => h.then k
  refine (Code_wrong b _ n w2 (HE.out.frame HC.out (by simp)) HB.out).mono ?_
  rintro e w3 ⟨rfl, hch⟩
  have H3 := Lib.hid (hch)
  clear hch
  go_wp2_with fail
  refine (Code_fault (b + 1) _ _ n w3 (HE.out.frame (HC.out.then H3.out) (by simp)) (H3.out.heap HF.out (by simp))).mono ?_
  rintro e w4 ⟨rfl, hch⟩
  have H4 := Lib.hid (H3.out.then hch)
  clear hch
  go_wp2_with fail
  refine (Code_errno n w4 (HE.out.frame (HC.out.then H4.out) (by simp))).mono ?_
  rintro e w5 ⟨rfl, hch⟩
  have H5 := Lib.hid (H4.out.then hch)
  clear hch
  go_wp2_with fail
  refine (is_wrong b _ n w5 (H5.out.heap HB.out (by simp))).mono ?_
  rintro e w6 ⟨rfl, rfl⟩
  go_wp2_with fail
  refine (WErr_any b N n (digB N) w5 (H5.out.heap HB.out (by simp)) (Nat.le_trans HD.out (by decide)) (fun W hW => Itoa_tab N HN.out W (HT.out.frame ((HC.out.then H5.out).then hW)))).mono ?_
  rintro e w6 ⟨rfl, hch⟩
  have H6 := Lib.hid (H5.out.then hch)
  clear hch
  go_wp2_with fail
  refine (Digits_any N HN.out w6).mono ?_
  rintro e w7 ⟨rfl, hch⟩
  have H7 := Lib.hid (H6.out.then hch)
  clear hch
  go_wp2_with fail
  refine (Word_any n w7).mono ?_
  rintro e w8 ⟨rfl, rfl⟩
  go_wp2_with fail
  refine (ErrNew_any s w8).mono ?_
  rintro e w9 ⟨rfl, rfl⟩
  have H9 := Lib.hid (H7.out.alloc (.cells #[.string s] 100))
  go_wp2_with fail
  refine (Code_text _ _ (HE.out.frame (HC.out.then H9.out) (by simp))).mono ?_
  rintro e w10 ⟨rfl, hch⟩
  have H10 := Lib.hid (H9.out.then hch)
  clear hch
  go_wp2_with fail
  refine (ErrNew_any s w10).mono ?_
  rintro e w11 ⟨rfl, rfl⟩
  go_wp2_with fail
  obtain ⟨w11, hw⟩ : ∃ w11, w11 = (w10.alloc (.cells #[.string s] 100)).alloc (.cells #[.iface 98 (.pointer (some ⟨w10.heap.size, 0, none⟩)), .iface 55 (.pointer (some ⟨b, 0, none⟩))] 67) := ⟨_, rfl⟩
  obtain ⟨g, hg⟩ : ∃ g, g = w10.heap.size + 1 := ⟨_, rfl⟩
  have hg0 : w11.cell? ⟨g, 0, none⟩ = some (.iface 98 (.pointer (some ⟨w10.heap.size, 0, none⟩))) ∧ w11.cell? ⟨g, 1, none⟩ = some (.iface 55 (.pointer (some ⟨b, 0, none⟩))) := by
    rw [hw, hg, show w10.heap.size + 1 = (w10.alloc (.cells #[.string s] 100)).heap.size from by simp]
    constructor <;> rw [cell_of_heap (heap_alloc_eq _ _)] <;> rfl
  have H11 : Hid (Chg [] w2 w11) := Lib.hid (by rw [hw]; exact (H10.out.alloc _).alloc _)
  rw [← hg, ← hw]
  have HG := Lib.hid (hg0)
  clear hg hw hg0
  refine (Join_two g _ _ _ _ w11 HG.out.1 HG.out.2).mono ?_
  rintro e w12 ⟨j, g2, c, rfl, hj, hj0, hj1, hch⟩
  have HJ := Lib.hid (hj)
  have HJ0 := Lib.hid (hj0)
  have HJ1 := Lib.hid (hj1)
  have H12 := Lib.hid (H11.out.then hch)
  clear hj hj0 hj1 hch HG
  go_wp2_with fail
  refine (Code_join j g2 c _ b _ n w12 (HE.out.frame (HC.out.then H12.out) (by simp)) HJ.out HJ0.out HJ1.out (H12.out.heap HB.out (by simp))).mono ?_
  rintro e w13 ⟨rfl, hch⟩
  have H13 := Lib.hid (H12.out.then hch)
  clear hch
  go_wp2_with fail
  refine (Code_nil w13).mono ?_
  rintro e w14 ⟨rfl, hch⟩
  have H14 := Lib.hid (H13.out.then hch)
  clear hch
  go_wp2_with fail
  refine (known_cur w14 (HE.out.frame (HC.out.then H14.out) (by simp))).mono ?_
  rintro e w15 ⟨rfl, hch⟩
  have H15 := Lib.hid (H14.out.then hch)
  clear hch
  go_wp2
  go_ret
  exact ⟨rfl, HC.out.then H15.out⟩
theorem CursorCodes_walk (w : World) (hg : Env w) (ht : Tab w) (n : Int) (_ : (Lit.int .i64 n).wf = true) (m : Int) (hm : (Lit.int .i64 m).wf = true) (s : ByteArray) (_ : s.size ≤ maxLen) :
    Calls Tryd.prog 12 #[.int .i64 n, .int .i64 m, .string s] w fun e w' => e = .returned (.bool true) ∧ Chg [] w w' := by
  obtain ⟨hm1, hm2⟩ := int_i64 m hm
  by_cases h1 : s.size ≤ 100
  · by_cases h2 : 0 ≤ m
    · obtain ⟨N, rfl⟩ : ∃ N : Nat, m = N := ⟨m.toNat, by omega⟩
      exact CursorCodes_in n N (by omega) s h1 w hg ht
    · have d2 : decide (m < 0) = true := by simp; omega
      have d1 : decide ((100 : Int) < s.size) = false := by simp; omega
      have Hg := Lib.hid hg
      clear hg
      clear ht h1 h2 hm1 hm2
      go_enter Tryd.func12, Tryd.ntmps12
      go_wp2_with fail
      refine (known_cur _ Hg.out).mono ?_
      rintro e w9 ⟨rfl, hch⟩
      have Hch := Lib.hid hch
      clear hch
      go_wp2
      go_ret
      exact ⟨rfl, Hch.out⟩
  · have d1 : decide ((100 : Int) < s.size) = true := by simp; omega
    have Hg := Lib.hid hg
    clear hg
    clear ht h1 hm1 hm2
    go_enter Tryd.func12, Tryd.ntmps12
    go_wp2_with fail
    refine (known_cur _ Hg.out).mono ?_
    rintro e w9 ⟨rfl, hch⟩
    have Hch := Lib.hid hch
    clear hch
    go_wp2
    go_ret
    exact ⟨rfl, Hch.out⟩
end Go.Proofs.YtpodphfdoonidaaDoor
