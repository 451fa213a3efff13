/- The cursor's Wrong and Err; New. -/
import Derived.Test.YtkclmknepbbhnaaDoorAsW
import Derived.Test.YtkclmknepbbhnaaDoorCurS
namespace Go.Proofs.YtkclmknepbbhnaaDoor
open Go.RowKit

theorem Wrong_bad (b : Nat) (al : Value) (at_ : Int) (bg : Value) (w : World) (h : w.heap[b]? = some (.cells #[al, .int .i64 at_, bg, .bool true] 97 (0, 0))) :
    Calls Tryd.prog 53 #[.pointer (some ⟨b, 0, none⟩)] w fun e w' =>
      e = .returned (.iface 116 (.pointer (some ⟨w.heap.size, 0, none⟩))) ∧ w.alloc (.cells #[.int .i64 at_, .int .i64 3] 118) = w' := by
  have h1 := cell_of_heap h 1
  have h3 := cell_of_heap h 3
  clear h
  simp at h1 h3
  go_enter Tryd.func53, Tryd.ntmps53
  go_wp2
  go_ret
  exact ⟨rfl, rfl⟩
theorem Wrong_nil (w : World) :
    Calls Tryd.prog 53 #[.pointer none] w fun e w' =>
      e = .returned (.iface 116 (.pointer (some ⟨w.heap.size, 0, none⟩))) ∧ w.alloc (.cells #[.int .i64 0, .int .i64 1] 118) = w' := by
  go_enter Tryd.func53, Tryd.ntmps53
  go_wp2
  go_ret
  exact ⟨rfl, rfl⟩
theorem Wrong_ok (b : Nat) (al at_ bg : Value) (w : World) (h : w.heap[b]? = some (.cells #[al, at_, bg, .bool false] 97 (0, 0))) :
    Calls Tryd.prog 53 #[.pointer (some ⟨b, 0, none⟩)] w fun e w' => e = .returned .nilIface ∧ w = w' := by
  have h3 := cell_of_heap h 3
  clear h
  simp at h3
  go_enter Tryd.func53, Tryd.ntmps53
  go_wp2
  go_ret
  exact ⟨rfl, rfl⟩

theorem Code_nil (w : World) : Calls Tryd.prog 52 #[.nilIface] w fun e w' => e = .returned (.int .i64 0) ∧ Chg [] w w' := by
  go_enter Tryd.func52, Tryd.ntmps52
  go_wp2
  go_ret
  exact ⟨rfl, (Chg.refl _ _).alloc _⟩
theorem Code_wrong (b : Nat) (at_ : Value) (n : Int) (w : World) (hg : Env w) (hb : w.heap[b]? = some (.cells #[at_, .int .i64 n] 118 (0, 0))) :
    Calls Tryd.prog 52 #[.iface 116 (.pointer (some ⟨b, 0, none⟩))] w fun e w' => e = .returned (.int .i64 n) ∧ Chg [] w w' := by
  have HG := Lib.hid (hg.frame ((Chg.refl [] w).alloc (.cells #[.int .i64 0] 40)) (by simp))
  have HB := Lib.hid (((Chg.refl [] w).alloc (.cells #[.int .i64 0] 40)).heap hb (by simp))
  have HT := Lib.hid (heap_alloc_eq w (.cells #[.int .i64 0] 40))
  clear hg hb
  go_enter Tryd.func52, Tryd.ntmps52
  go_wp2_with fail
  refine (as_wrong b w.heap.size at_ n (.int .i64 0) _ HG.out HT.out HB.out).mono ?_
  rintro e w1 ⟨rfl, ht, hc⟩
  have ht0 := cell_of_heap ht 0
  simp only [List.getElem?_toArray, List.getElem?_cons_zero] at ht0
  have HC := Lib.hid hc
  clear hc ht
  go_wp2
  go_ret
  exact ⟨rfl, ((Chg.refl [] w).alloc _).new HC.out (Nat.le_refl _)⟩

theorem Err_ok (b : Nat) (s : CS) (w : World) (h : CurB w b s) (hf : s.failed = false) :
    Calls Tryd.prog 31 #[.pointer (some ⟨b, 0, none⟩)] w fun e w' => e = .returned (.int .i64 0) ∧ Chg [] w w' := by
  obtain ⟨a, n, cap, hb, _⟩ := h
  rw [hf] at hb
  have HB := Lib.hid hb
  clear hb hf
  go_enter Tryd.func31, Tryd.ntmps31
  go_wp2_with fail
  refine (Wrong_ok b _ _ _ w HB.out).mono ?_
  rintro e w1 ⟨rfl, rfl⟩
  go_wp2_with fail
  refine (Code_nil w).mono ?_
  rintro e w1 ⟨rfl, hc⟩
  have HC := Lib.hid hc
  clear hc
  go_wp2
  go_ret
  exact ⟨rfl, HC.out⟩
theorem Err_bad (b : Nat) (s : CS) (w : World) (hg : Env w) (h : CurB w b s) (hf : s.failed = true) :
    Calls Tryd.prog 31 #[.pointer (some ⟨b, 0, none⟩)] w fun e w' => e = .returned (.int .i64 3) ∧ Chg [] w w' := by
  obtain ⟨a, n, cap, hb, _⟩ := h
  rw [hf] at hb
  have HB := Lib.hid hb
  have HG := Lib.hid hg
  clear hb hf hg
  go_enter Tryd.func31, Tryd.ntmps31
  go_wp2_with fail
  refine (Wrong_bad b _ _ _ w HB.out).mono ?_
  rintro e w1 ⟨rfl, rfl⟩
  go_wp2_with fail
  refine (Code_wrong _ _ 3 _ (HG.out.frame ((Chg.refl [] w).alloc _) (by simp)) (heap_alloc_eq w _)).mono ?_
  rintro e w1 ⟨rfl, hc⟩
  have HC := Lib.hid hc
  clear hc
  go_wp2
  go_ret
  exact ⟨rfl, ((Chg.refl [] w).alloc _).then HC.out⟩
/-- The errno of a cursor. -/
theorem Err_cur (b : Nat) (s : CS) (w : World) (hg : Env w) (h : CurB w b s) :
    Calls Tryd.prog 31 #[.pointer (some ⟨b, 0, none⟩)] w fun e w' => e = .returned (.int .i64 (if s.failed then 3 else 0)) ∧ Chg [] w w' := by
  cases hf : s.failed with
  | true => exact Err_bad b s w hg h hf
  | false => exact Err_ok b s w h hf
theorem Err_nil (w : World) (hg : Env w) :
    Calls Tryd.prog 31 #[.pointer none] w fun e w' => e = .returned (.int .i64 1) ∧ Chg [] w w' := by
  have HG := Lib.hid hg
  clear hg
  go_enter Tryd.func31, Tryd.ntmps31
  go_wp2_with fail
  refine (Wrong_nil w).mono ?_
  rintro e w1 ⟨rfl, rfl⟩
  go_wp2_with fail
  refine (Code_wrong _ _ 1 _ (HG.out.frame ((Chg.refl [] w).alloc _) (by simp)) (heap_alloc_eq w _)).mono ?_
  rintro e w1 ⟨rfl, hc⟩
  have HC := Lib.hid hc
  clear hc
  go_wp2
  go_ret
  exact ⟨rfl, ((Chg.refl [] w).alloc _).then HC.out⟩

theorem Tryd.infoU8 : (Tryd.prog.info? 5).map (fun i => (i.zero, i.size, i.bytes)) = some (some (.int .u8 0), 1, 1) := by kernel_rfl

theorem Clone_nil (n cap : Nat) (w : World) : Calls Tryd.prog 45 #[.slice none n cap] w fun e w' => e = .returned (.slice none 0 0) ∧ w = w' := by
  have hsn := @Lib.run_eql_slice_nil Tryd.prog
  go_enter Tryd.func45, Tryd.ntmps45
  go_wp2
  go_ret
  exact ⟨rfl, rfl⟩
end Go.Proofs.YtkclmknepbbhnaaDoor
