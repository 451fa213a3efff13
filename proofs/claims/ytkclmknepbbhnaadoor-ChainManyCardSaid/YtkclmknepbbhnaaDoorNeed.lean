/- chain.need, well, seek; chain.caught and Read's deferred closure, as deferred calls. -/
import Derived.Test.YtkclmknepbbhnaaDoorCurT
import Derived.Test.YtkclmknepbbhnaaDoorErr
import Derived.Test.YtkclmknepbbhnaaDoorChnB
import Derived.Recover
namespace Go.Proofs.YtkclmknepbbhnaaDoor
open Go.RowKit
set_option maxRecDepth 100000

theorem need_ok (n : Int) (w : World) : Calls Tryd.prog 24 #[.bool true, .int .i64 n] w fun e w' => e = .returned (.tuple #[]) ∧ w' = w := by
  go_enter Tryd.func24, Tryd.ntmps24
  go_wp2
  go_end0
  exact ⟨rfl, rfl⟩
/-- What ends a reading. -/
def stopE (n : Int) : Ending := .panicked [{ v := .iface 99 (.agg #[.int .i64 n]), recovered := false }]
theorem need_bad (n : Int) (w : World) : Calls Tryd.prog 24 #[.bool false, .int .i64 n] w fun e w' => e = stopE n ∧ w' = w := by
  go_enter Tryd.func24, Tryd.ntmps24
  go_wp2
  exact ⟨rfl, rfl, rfl⟩
theorem well_ok (b : Nat) (s : CS) (w : World) (h : CurB w b s) (hf : s.failed = false) : Calls Tryd.prog 28 #[.pointer (some ⟨b, 0, none⟩)] w fun e w' => e = .returned (.tuple #[]) ∧ Chg [] w w' := by
  have H := Lib.hid h
  clear h
  go_enter Tryd.func28, Tryd.ntmps28
  go_wp2_with fail
  refine (Err_ok b s w H.out hf).mono ?_
  rintro e w1 ⟨rfl, hc⟩
  have HC := Lib.hid hc
  clear hc
  go_wp2_with fail
  refine (need_ok 3 w1).mono ?_
  rintro e w2 ⟨rfl, rfl⟩
  go_wp2
  go_end0
  exact ⟨rfl, HC.out⟩
theorem well_bad (b : Nat) (s : CS) (w : World) (hg : Env w) (h : CurB w b s) (hf : s.failed = true) : Calls Tryd.prog 28 #[.pointer (some ⟨b, 0, none⟩)] w fun e w' => e = stopE 3 ∧ Chg [] w w' := by
  have H := Lib.hid h
  have HG := Lib.hid hg
  clear h hg
  go_enter Tryd.func28, Tryd.ntmps28
  go_wp2_with fail
  refine (Err_bad b s w HG.out H.out hf).mono ?_
  rintro e w1 ⟨rfl, hc⟩
  have HC := Lib.hid hc
  clear hc
  go_wp2_with fail
  refine (need_bad 3 w1).mono ?_
  rintro e w2 ⟨rfl, rfl⟩
  exact ⟨rfl, rfl, HC.out⟩
/-- To a place, given as a number. -/
def seekC (s : CS) (n : Nat) : CS := if n ≤ 2147483647 then seekS s n else seekS (failS s) (IntKind.i64.wrap (n : Int))
theorem seek_any (b : Nat) (s : CS) (n : Nat) (w : World) (h : CurB w b s) : Calls Tryd.prog 27 #[.pointer (some ⟨b, 0, none⟩), .int .u64 n] w fun e w' => e = .returned (.tuple #[]) ∧ CurB w' b (seekC s n) ∧ Chg [b] w w' := by
  have H := Lib.hid h
  clear h
  by_cases hn : n ≤ 2147483647
  · have d : decide ((2147483647 : Int) < (n : Int)) = false := by simp; omega
    have e1 : seekC s n = seekS s n := by unfold seekC; rw [if_pos hn]
    rw [e1]
    have e2 : wrap64 (n : Int) = n := by unfold wrap64; omega
    go_enter Tryd.func27, Tryd.ntmps27
    go_wp2_with fail
    refine (Seek_cur b s n w H.out).mono ?_
    rintro e w1 ⟨rfl, hc, hg⟩
    have HC := Lib.hid hc
    have HG := Lib.hid hg
    clear hc hg
    go_wp2
    go_end0
    exact ⟨rfl, HC.out, HG.out⟩
  · have d : decide ((2147483647 : Int) < (n : Int)) = true := by simp; omega
    have e1 : seekC s n = seekS (failS s) (IntKind.i64.wrap (n : Int)) := by unfold seekC; rw [if_neg hn]
    rw [e1]
    generalize hz : IntKind.i64.wrap (n : Int) = z
    have e2 : wrap64 (n : Int) = z := by rw [← hz]; unfold wrap64; rw [IntKind.wrap_i64]
    have HZ := Lib.hid hz
    clear hz
    go_enter Tryd.func27, Tryd.ntmps27
    go_wp2_with fail
    refine (Fail_cur b s w H.out).mono ?_
    rintro e w1 ⟨rfl, hc, hg⟩
    have HC := Lib.hid hc
    have HG := Lib.hid hg
    clear hc hg
    go_wp2_with fail
    refine (Seek_cur b (failS s) z w1 HC.out).mono ?_
    rintro e w2 ⟨rfl, hc, hg⟩
    have HC2 := Lib.hid hc
    have HG2 := Lib.hid hg
    clear hc hg
    go_wp2
    go_end0
    exact ⟨rfl, HC2.out, HG.out.same HG2.out⟩
theorem caught_idle (p : Addr) (w : World) : CallsD Tryd.prog 23 #[.pointer (some p)] .returning w fun e u' w' => e = .returned (.tuple #[]) ∧ u' = .returning ∧ w' = w := by
  refine callsD_of_wpS Tryd.func23 rfl fun c₀ cs hu => ?_
  apply wpS_seq
  apply wpS_region
  simp [wpOpsS, go_sem, recoverD, hu, Tryd.ntmps23, Exit.thenS]
  refine wpS_of_wp ?_
  go_wp2
  cases c₀
  simp_all [bodyPostS, results, Tryd.results23]
theorem Tryd.isStop (n : Int) (w : World) : (Instr.typeAssert (.iface 99 (.agg #[.int .i64 n])) 20 99 true).run Tryd.prog w = .ok (.tuple #[.agg #[.int .i64 n], .bool true]) w := by kernel_rfl
set_option maxHeartbeats 4000000 in
theorem caught_stop (p : Addr) (x : Value) (n : Int) (w : World) (hc : w.cell? p = some x) (hz : w.frozen? p = false) :
    CallsD Tryd.prog 23 #[.pointer (some p)] (.panicking [{ v := .iface 99 (.agg #[.int .i64 n]), recovered := false }]) w fun e u' w' =>
      e = .returned (.tuple #[]) ∧ u' = .panicking [{ v := .iface 99 (.agg #[.int .i64 n]), recovered := true }] ∧ w' = (w.alloc (.cells #[.int .i64 n] 99)).setCell p (.int .i64 n) := by
  refine callsD_of_wpS Tryd.func23 rfl fun c₀ cs hu => ?_
  apply wpS_seq
  apply wpS_region
  simp [wpOpsS, go_sem, recoverD, hu, Tryd.ntmps23, Exit.thenS]
  refine wpS_of_wp ?_
  have hta := Tryd.isStop n
  have hlt : p.block < w.heap.size := World.block_lt_of_cell? w _ hc
  have hc2 : ∀ o, (w.alloc o).cell? p = some x := fun o => by rw [World.cell?_alloc_lt _ _ _ hlt]; exact hc
  have hz2 : ∀ o, (w.alloc o).frozen? p = false := fun o => by rw [World.frozen?_alloc_old _ _ _ (Nat.ne_of_lt hlt)]; exact hz
  go_wp2
  simp [bodyPostS, results, Tryd.results23]
theorem clos_ok (p : Addr) (q : Value) (u : FrameMode) (w : World) (hc : w.cell? p = some (.int .i64 0)) :
    CallsD Tryd.prog 22 #[.pointer (some p), q] u w fun e u' w' => u' = u ∧ (e = .returned (.tuple #[]) ∧ w' = w) := by
  go_enter_d Tryd.func22, Tryd.ntmps22
  go_wp2
  go_end0
  exact ⟨rfl, rfl⟩
theorem clos_bad (p : Addr) (b : Nat) (x : Chn) (n : Int) (hn : n ≠ 0) (u : FrameMode) (w : World) (hc : w.cell? p = some (.int .i64 n)) (hb : chnL.Box w b x) :
    CallsD Tryd.prog 22 #[.pointer (some p), .pointer (some ⟨b, 0, none⟩)] u w fun e u' w' => u' = u ∧ (e = .returned (.tuple #[]) ∧ chnL.Box w' b .zero ∧ Chg [b] w w') := by
  have hb' := Lib.hid hb
  clear hb
  go_enter_d Tryd.func22, Tryd.ntmps22
  go_wp2_with ((with_reducible refine Lay.stL Tryd.tChn Chn.zero (hb'.out) ?_ ?_ ?_); exact rfl; exact rfl; intro W1 cW1 xW1; replace cW1 := Lib.hid cW1; replace xW1 := Lib.hid xW1; refine Hid.out ?_)
  refine Lib.hid ?_
  go_wp2
  go_end0
  exact ⟨rfl, xW1.out, cW1.out⟩
end Go.Proofs.YtkclmknepbbhnaaDoor
