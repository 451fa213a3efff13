/- decode.weak, Merge's closure; the map of places written; slices.Grow of nothing. -/
import Derived.Test.YtgmlcmmphhmogaaDm1
namespace Go.Proofs.Ytgmlcmmphhmogaa
open Go.RowKit Go.MapKept
set_option maxRecDepth 100000

theorem Try.fdMp (q : Bool) (w : World) : (Instr.field 36 (.agg #[.bool q]) 0).run Try.prog w = .ok (.bool q) w := by kernel_rfl
theorem Try.ksMp (z : Int) (w : World) : (Instr.keyThatStays (.agg #[.int .u64 z]) (.agg #[.int .u64 z])).run Try.prog w = .ok (.agg #[.int .u64 z]) w := by
  unfold Instr.keyThatStays
  have h : Instr.sameBits 10000 (.agg #[.int .u64 z]) (.agg #[.int .u64 z]) = true := by
    simp [Instr.sameBits]
  rw [if_pos h]
  rfl
theorem Try.upMp {w : World} {b : Nat} {z : Int} {on : Bool} (h : MP w b z on) : ∃ W, (Instr.mapUpdate 35 (.map (some b)) (.agg #[.int .u64 z]) (.agg #[.bool true])).run Try.prog w = .ok () W ∧ Chg [b] w W ∧ MP W b z true := by
  obtain ⟨clock, born, hb⟩ := h
  have hchg : ∀ o : Obj, Chg [b] w { w with heap := w.heap.setIfInBounds b o } := fun o => ⟨rfl, rfl, rfl, by simp, fun i _ hn => by
    simp only [List.mem_singleton] at hn
    exact (heap_set (o' := o) hb).2 i hn⟩
  cases on with
  | false =>
    simp only [Bool.false_eq_true, if_false] at hb
    refine ⟨{ w with heap := w.heap.setIfInBounds b (.map #[{ key := .agg #[.int .u64 z], val := .agg #[.bool true], born := clock }] (clock + 1)) }, ?_, hchg _, ⟨_, _, (heap_set hb).1⟩⟩
    simp [Instr.mapUpdate, run_underlying Try.uMp, MapKept.run_getObj_map hb, Try.ck, Try.fk0, run_setObj_map _ hb]
  | true =>
    simp only [if_true] at hb
    refine ⟨{ w with heap := w.heap.setIfInBounds b (.map #[{ key := .agg #[.int .u64 z], val := .agg #[.bool true], born := born }] clock) }, ?_, hchg _, ⟨_, _, (heap_set hb).1⟩⟩
    simp [Instr.mapUpdate, run_underlying Try.uMp, MapKept.run_getObj_map hb, Try.ck, Try.fk1, Try.ksMp, run_setObj_map _ hb]
section
variable {ops : Array Oper} {rest : List Oper} {a : Act} {Q : Exit → Act → World → Prop} {w : World}
theorem Try.upL {m k x : Operand} {ty : TypeId} {pos : String} {after : Array Edge} {b : Nat} (z : Int) {on : Bool} (hb : MP w b z on) (hm : a.eval m = .map (some b)) (hk : a.eval k = .agg #[.int .u64 z]) (hv : a.eval x = .agg #[.bool true])
    (h : ∀ W, Chg [b] w W → MP W b z true → wpList Try.prog ops Q rest a W) : wpList Try.prog ops Q (⟨none, .mapUpdate 35 m k x, ty, pos, after, none⟩ :: rest) a w := by
  refine wpList_plain rfl fun J hJ => ?_
  obtain ⟨W, hr, hc, hi⟩ := Try.upMp hb
  unfold Oper.wp execOp
  simp [hm, hk, hv, hr]
  exact hJ _ _ (h W hc hi)
end
section
variable {ops : Array Oper} {rest : List Oper} {a : Act} {Q : Exit → Act → World → Prop} {w : World}
theorem Try.appMk {T tx ty : TypeId} {s x : Operand} {d : Tmp} {pos : String} {after : Array Edge} {vs vx v : Value} {W : World} (hr : (Builtin.append_ #[T, tx] ty #[vs, vx]).run Try.prog w = .ok v W) (hs : a.eval s = vs) (hx : a.eval x = vx)
    (h : wpList Try.prog ops Q rest (a.put (some d) v) W) : wpList Try.prog ops Q (⟨some d, .call { callee := .builtin .append, args := #[s, x], argTypes := #[T, tx] }, ty, pos, after, none⟩ :: rest) a w := by
  refine wpList_plain rfl fun J hJ => ?_
  unfold Oper.wp
  simp [execOp, resolve, invoke, builtin, hs, hx, hr, Result.andThen]
  exact hJ _ _ h
end
/-- Is a fixup a bind that is one for all? -/
def weakB (f : Fx) : Bool := (f.kind == 2) && (f.ord == -3)
theorem weak_any (f : Fx) (w : World) : Calls Try.prog 8 #[fxl.val f] w fun e w' => e = .returned (.bool (weakB f)) ∧ Chg [] w w' := by
  have hB : weakB f = ((f.kind == 2) && (f.ord == -3)) := rfl
  rw [hB]
  clear hB
  cases h1 : (f.kind == 2) with
  | false =>
    go_enter Try.func8, Try.ntmps8
    go_wp2_with ((with_reducible refine Lay.bxL (L := fxl) 25 f ?_ ?_); exact rfl; intro W1 bx ebx cbx xbx; replace ebx := Lib.hid ebx; replace cbx := Lib.hid cbx; replace xbx := Lib.hid xbx; refine Hid.out ?_)
    refine Lib.hid ?_
    have x1 : W1.cell? ⟨bx, 1, none⟩ = some (.int .i64 f.kind) := by have := xbx.out.in 1 (by decide); rw [Nat.zero_add] at this; exact this
    go_wp2
    go_ret
    exact ⟨rfl, cbx.out⟩
  | true =>
    cases h2 : (f.ord == -3) with
    | false =>
      go_enter Try.func8, Try.ntmps8
      go_wp2_with ((with_reducible refine Lay.bxL (L := fxl) 25 f ?_ ?_); exact rfl; intro W1 bx ebx cbx xbx; replace ebx := Lib.hid ebx; replace cbx := Lib.hid cbx; replace xbx := Lib.hid xbx; refine Hid.out ?_)
      refine Lib.hid ?_
      have x1 : W1.cell? ⟨bx, 1, none⟩ = some (.int .i64 f.kind) := by have := xbx.out.in 1 (by decide); rw [Nat.zero_add] at this; exact this
      have x3 : W1.cell? ⟨bx, 3, none⟩ = some (.int .i64 f.ord) := by have := xbx.out.in 3 (by decide); rw [Nat.zero_add] at this; exact this
      go_wp2
      go_ret
      exact ⟨rfl, cbx.out⟩
    | true =>
      go_enter Try.func8, Try.ntmps8
      go_wp2_with ((with_reducible refine Lay.bxL (L := fxl) 25 f ?_ ?_); exact rfl; intro W1 bx ebx cbx xbx; replace ebx := Lib.hid ebx; replace cbx := Lib.hid cbx; replace xbx := Lib.hid xbx; refine Hid.out ?_)
      refine Lib.hid ?_
      have x1 : W1.cell? ⟨bx, 1, none⟩ = some (.int .i64 f.kind) := by have := xbx.out.in 1 (by decide); rw [Nat.zero_add] at this; exact this
      have x3 : W1.cell? ⟨bx, 3, none⟩ = some (.int .i64 f.ord) := by have := xbx.out.in 3 (by decide); rw [Nat.zero_add] at this; exact this
      go_wp2
      go_ret
      exact ⟨rfl, cbx.out⟩
/-- What the closure says: is a place bound for all, and a fixup not one of these? -/
theorem clos_any (f : Fx) (p b : Nat) (z : Int) (on : Bool) (hz : on = true → f.at_ = z) (w : World) (hp : w.cell? ⟨p, 0, none⟩ = some (.map (some b))) (hm : MP w b z on) :
    Calls Try.prog 11 #[fxl.val f, .pointer (some ⟨p, 0, none⟩)] w fun e w' => e = .returned (.bool (on && !weakB f)) ∧ Chg [] w w' := by
  have hlk : ∀ W, Chg [] w W → (Instr.lookup 35 (.map (some b)) (.agg #[.int .u64 f.at_]) false).run Try.prog W = .ok (.agg #[.bool on]) W := by
    intro W hW
    obtain ⟨clock, born, hb⟩ := hm
    have hb' := hW.heap hb (by simp)
    cases on with
    | false => exact Try.lk0 W b clock f.at_ hb'
    | true =>
      rw [hz rfl]
      exact Try.lk1 W b clock born z hb'
  have Hm := Lib.hid hm
  have Hz := Lib.hid hz
  clear hm hz
  have HWK := Lib.hid (fun W => weak_any f W)
  generalize weakB f = B at *
  go_enter Try.func11, Try.ntmps11
  go_wp2_with ((with_reducible refine Lay.bxL (L := fxl) 25 f ?_ ?_); exact rfl; intro W1 bx ebx cbx xbx; replace ebx := Lib.hid ebx; replace cbx := Lib.hid cbx; replace xbx := Lib.hid xbx; refine Hid.out ?_)
  refine Lib.hid ?_
  have x0 : W1.cell? ⟨bx, 0, none⟩ = some (.int .u64 f.at_) := xbx.out.in 0 (by decide)
  have y0 := cbx.out.cell hp (by simp)
  have hl := hlk W1 cbx.out
  have hfd := Try.fdMp
  clear hlk hp
  cases on with
  | false =>
    go_wp2
    go_ret
    exact ⟨rfl, cbx.out⟩
  | true =>
    go_wp2_with ((with_reducible refine Lay.ldG2 Try.tFx f (xbx.out.in) ?_ ?_ ?_); exact rfl; exact rfl; refine Hid.out ?_)
    refine Lib.hid ?_
    go_wp2_with fail
    refine (HWK.out _).mono ?_
    rintro e W2 ⟨rfl, hc⟩
    have C2 := Lib.hid (cbx.out.then hc)
    clear hc
    go_wp2
    go_ret
    exact ⟨by simp, C2.out⟩
set_option maxHeartbeats 1000000 in
theorem grow_nil (n : Nat) (hn : n ≤ 100000) (w : World) : Calls Try.prog 13 #[.slice none 0 0, .int .i64 n] w fun e w' => ∃ v, e = .returned v ∧ FB w' w.heap.size v [] ∧ Chg [] w w' := by
  by_cases h0 : n = 0
  · subst h0
    go_enter Try.func13, Try.ntmps13
    go_wp2
    go_ret
    exact ⟨_, rfl, Lay.Buf.nil _ _, Chg.refl _ _⟩
  · have d1 : decide ((n : Int) < 0) = false := by simp
    have d2 : decide ((0 : Int) < (n : Int)) = true := by simp; omega
    obtain ⟨c, W, hr, hc, hb, hle⟩ := run_app_make (L := fxl) (tx := 3) (ty := 28) Try.infoFxL (K := .i64) (by kernel_rfl) w n (by omega) (by omega) (by omega)
    obtain ⟨_, _, he, hc1, hc2⟩ := hb.rd.shape
    cases he
    have Hc := Lib.hid hc
    have Hb := Lib.hid hb
    clear hc hb
    go_enter Try.func13, Try.ntmps13
    go_wp2_with ((with_reducible refine Try.appMk hr ?_ ?_ ?_); exact rfl; exact rfl; refine Hid.out ?_)
    refine Lib.hid ?_
    go_wp2
    go_ret
    exact ⟨_, rfl, Hb.out, Hc.out⟩
end Go.Proofs.Ytgmlcmmphhmogaa
