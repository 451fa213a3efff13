/- Lemmas, laid together: part 19 of 43. Conditions: none but each lemma's own. -/
import Derived.Test.YtgjlgamlmmjdpaaGreatDoorJ18
import Derived.Test.YtgjlgamlmmjdpaaGreatDoorJ8
/- command.May, walked. -/
namespace Go.Proofs.YtgjlgamlmmjdpaaGreatDoor
open Go.RowKit
set_option maxRecDepth 100000

theorem takeL4 (l : List UInt8) (p : Nat) (h : p + 4 ≤ l.length) : numberV ⟨l, p, false, false⟩ 4 = leNum ((l.drop p).take 4) ∧ numberS ⟨l, p, false, false⟩ 4 = ⟨l, p + 4, false, false⟩ := by
  have hc : canTake ⟨l, p, false, false⟩ 4 = true := canTake_of rfl (by omega) (by show (4 : Int) ≤ (l.length : Int) - p; omega)
  constructor
  · unfold numberV takeL; rw [hc]; rfl
  · unfold numberS takeS; rw [hc]; rfl
theorem take4_no (l : List UInt8) (p : Nat) (h : l.length < p + 4) : numberV ⟨l, p, false, false⟩ 4 = 0 ∧ numberS ⟨l, p, false, false⟩ 4 = ⟨l, p, false, true⟩ := by
  have hc : canTake ⟨l, p, false, false⟩ 4 = false := by
    simp [canTake]; omega
  constructor
  · unfold numberV takeL; rw [hc]; rfl
  · unfold numberS takeS; rw [hc]; rfl
theorem take4_failed (l : List UInt8) (p : Nat) : numberV ⟨l, p, false, true⟩ 4 = 0 ∧ numberS ⟨l, p, false, true⟩ 4 = ⟨l, p, false, true⟩ := by
  have hc : canTake ⟨l, p, false, true⟩ 4 = false := rfl
  constructor
  · unfold numberV takeL; rw [hc]; rfl
  · unfold numberS takeS; rw [hc]; rfl
theorem leNum4_lt (l : List UInt8) (p : Nat) : leNum ((l.drop p).take 4) < 4294967296 := by
  have h := leNum_lt ((l.drop p).take 4)
  have h2 : ((l.drop p).take 4).length ≤ 4 := List.length_take_le _ _
  exact Nat.lt_of_lt_of_le h (Nat.pow_le_pow_right (by decide) h2)

def mayB (cmd : Nat) (l : List UInt8) : Bool := decide (8 ≤ l.length) && decide (leNum (l.take 4) = cmd) && decide (leNum ((l.drop 4).take 4) = l.length) && decide (l.length % 8 = 0)
theorem mayB_eq (cmd : Nat) (l : List UInt8) : mayB cmd l = true ↔ 8 ≤ l.length ∧ leNum (l.take 4) = cmd ∧ leNum ((l.drop 4).take 4) = l.length ∧ l.length % 8 = 0 := by
  simp [mayB, and_assoc]
theorem mayB_no {cmd : Nat} {l : List UInt8} (h : ¬ (8 ≤ l.length ∧ leNum (l.take 4) = cmd ∧ leNum ((l.drop 4).take 4) = l.length ∧ l.length % 8 = 0)) : mayB cmd l = false := by
  cases hb : mayB cmd l with
  | false => rfl
  | true => exact absurd ((mayB_eq cmd l).1 hb) h

end Go.Proofs.YtgjlgamlmmjdpaaGreatDoor
/- command.Make, walked. -/
namespace Go.Proofs.YtgjlgamlmmjdpaaGreatDoor
open Go.RowKit
set_option maxRecDepth 100000

/-- A command's number, its bytes. -/
abbrev Cmd := Nat × List UInt8
/-- The slice value v of commands reads as cs. -/
def CmdRd (w : World) (v : Value) (cs : List Cmd) : Prop :=
  ∃ a n cap, v = .slice a n cap ∧ n = cs.length ∧ n ≤ cap ∧ cap ≤ maxLen ∧
    (cs ≠ [] → ∃ b off, a = some ⟨b, off, none⟩ ∧ b < w.heap.size ∧ ∀ j, j < cs.length → w.cell? ⟨b, off + j * 2, none⟩ = some (.int .u32 (cs.getD j (0, [])).1) ∧
      ∃ a' cap', w.cell? ⟨b, off + j * 2 + 1, none⟩ = some (.slice a' (cs.getD j (0, [])).2.length cap') ∧ Rd w (.slice a' (cs.getD j (0, [])).2.length cap') (bytesV (cs.getD j (0, [])).2))
theorem CmdRd.frame {w w' : World} {v : Value} {cs : List Cmd} (h : CmdRd w v cs) (k : Chg [] w w') : CmdRd w' v cs := by
  obtain ⟨a, n, cap, rfl, hn, hc, hm, hx⟩ := h
  refine ⟨a, n, cap, rfl, hn, hc, hm, fun hne => ?_⟩
  obtain ⟨b, off, rfl, hb, hcell⟩ := hx hne
  refine ⟨b, off, rfl, Nat.lt_of_lt_of_le hb k.size, fun j hj => ?_⟩
  obtain ⟨h1, a', cap', h2, h3⟩ := hcell j hj
  exact ⟨k.cell h1 (by simp), a', cap', k.cell h2 (by simp), h3.frame k (fun _ _ hm => by cases hm)⟩
def catL (cs : List Cmd) : List UInt8 := cs.flatMap (·.2)
theorem catL_snoc (cs : List Cmd) (k : Nat) (h : k < cs.length) : catL (cs.take (k + 1)) = catL (cs.take k) ++ (cs.getD k (0, [])).2 := by
  unfold catL
  rw [List.take_succ_eq_append_getElem h, List.flatMap_append]
  simp [List.getD_eq_getElem?_getD, h]
theorem catL_take_le (cs : List Cmd) (k : Nat) : (catL (cs.take k)).length ≤ (catL cs).length := by
  unfold catL
  conv => rhs; rw [← List.take_append_drop k cs, List.flatMap_append, List.length_append]
  omega
theorem catL_get_le (cs : List Cmd) (k : Nat) (h : k < cs.length) : (catL (cs.take k)).length + (cs.getD k (0, [])).2.length ≤ (catL cs).length := by
  have h1 := catL_snoc cs k h
  have h2 := catL_take_le cs (k + 1)
  rw [h1, List.length_append] at h2
  exact h2

def words (sub kind flags : Nat) (cs : List Cmd) : List Nat := [4277009103, 16777228, sub, kind, cs.length, (catL cs).length, flags, 0]
def headL (ws : List Nat) : List UInt8 := ws.flatMap le4
def makeL (sub kind flags : Nat) (cs : List Cmd) : List UInt8 := headL (words sub kind flags cs) ++ catL cs
def makeE (sub kind : Int) (cs : List Cmd) : Int :=
  if kindB sub kind = false then 2 else if (cs.all fun c => mayB c.1 c.2) = false then 2 else if 256 < cs.length ∨ 1048576 < 32 + (catL cs).length then 11 else 0


end Go.Proofs.YtgjlgamlmmjdpaaGreatDoor
/- errors.As at the target *api.Errno, of an api.Errno: true, and it stands there; cursor.Code of one. -/
namespace Go.Proofs.YtgjlgamlmmjdpaaGreatDoor
open Go.RowKit Go.Extern.Stop Go.Stop Go.Extern

set_option maxRecDepth 100000 in
set_option maxHeartbeats 4000000 in
theorem as_errno (t : Nat) (n : Int) (old : Value) (w : World) (hg : Env w) (ht : w.heap[t]? = some (.cells #[old] 33 (0, 0))) :
    Calls Tryz.prog 50 #[.iface 33 (.int .i64 n), .iface 111 (.pointer (some ⟨t, 0, none⟩))] w fun ev w' => ev = .returned (.bool true) ∧ w'.heap[t]? = some (.cells #[.int .i64 n] 33 (0, 0)) ∧ Chg [t] w w' := by
  have hVO := @run_callFunc_extern Tryz.prog 79 _ (fun args => ReflectliteValue.unpack (args.getD 0 (.tuple #[]))) Tryz.func79 (by kernel_rfl) (by kernel_rfl) (by kernel_rfl) (by kernel_rfl)
  have hVT := @run_callFunc_extern Tryz.prog 80 _ (ReflectliteValue.methodAny (ReflectliteValue.valueError "reflectlite.Value.Type" 0) (fun t _ _ _ => ReflectliteType.toType t)) Tryz.func80 (by kernel_rfl) (by kernel_rfl) (by kernel_rfl) (by kernel_rfl)
  have hVN := @run_callFunc_extern Tryz.prog 81 _ (ReflectliteValue.method (ReflectliteValue.valueError "reflectlite.Value.IsNil" 0) ReflectliteValue.isNil) Tryz.func81 (by kernel_rfl) (by kernel_rfl) (by kernel_rfl) (by kernel_rfl)
  have hTK := @run_callFunc_extern Tryz.prog 120 _ (ReflectliteType.abiMethod fun t => do pure (.int .u8 (← Rtype.kind t))) Tryz.func120 (by kernel_rfl) (by kernel_rfl) (by kernel_rfl) (by kernel_rfl)
  have hTE := @run_callFunc_extern Tryz.prog 131 _ (ReflectliteType.method ReflectliteType.elem) Tryz.func131 (by kernel_rfl) (by kernel_rfl) (by kernel_rfl) (by kernel_rfl)
  have hTI := @run_callFunc_extern Tryz.prog 132 _ (ReflectliteType.relation "Implements" ReflectliteType.implements_) Tryz.func132 (by kernel_rfl) (by kernel_rfl) (by kernel_rfl) (by kernel_rfl)
  have hTO := @run_callFunc_extern Tryz.prog 77 _ ReflectliteType.typeOf Tryz.func77 (by kernel_rfl) (by kernel_rfl) (by kernel_rfl) (by kernel_rfl)
  have hTA := @run_callFunc_extern Tryz.prog 129 _ (ReflectliteType.relation "AssignableTo" ReflectliteType.assignableTo) Tryz.func129 (by kernel_rfl) (by kernel_rfl) (by kernel_rfl) (by kernel_rfl)
  have hVE := @run_callFunc_extern Tryz.prog 94 _ (ReflectliteValue.method (ReflectliteValue.valueError "reflectlite.Value.Elem" 0) ReflectliteValue.elem) Tryz.func94 (by kernel_rfl) (by kernel_rfl) (by kernel_rfl) (by kernel_rfl)
  have hVS := @run_callFunc_extern Tryz.prog 95 _ ReflectliteValue.set Tryz.func95 (by kernel_rfl) (by kernel_rfl) (by kernel_rfl) (by kernel_rfl)
  have c1 := Tryz.typeOfE
  have c3 := Tryz.methodAssignableTo
  have c4 := Tryz.assignableE
  have c6 := Tryz.valueOfE
  have c7 := Tryz.valueOfP
  have c8 := Tryz.typeP
  have c9 := Tryz.methodKind
  have c10 := Tryz.methodElem
  have c11 := Tryz.methodImplements
  have c12 := Tryz.kindP
  have c13 := Tryz.kindE
  have c14 := Tryz.elemP
  have c15 := Tryz.implementsE
  have hlt : 0 < w.heap.size := hg.pos
  have htl : t < w.heap.size := lt_of_heap ht
  have ht0 := cell_of_heap ht 0
  have hf0 := frozen_of_heap ht 0
  simp only [List.getElem?_toArray, List.getElem?_cons_zero] at ht0
  have n8 := Tryz.isNilP ⟨w.heap.size, 0, none⟩ ⟨t, 0, none⟩ ((w.alloc (.cells #[.pointer (some ⟨t, 0, none⟩)] 111)).alloc (.cells #[.pointer (some ⟨2, 111, none⟩), .pointer (some ⟨w.heap.size, 0, none⟩), .int .u64 150] 153)) (by simp)
  have hg2 : ((w.alloc (.cells #[.pointer (some ⟨t, 0, none⟩)] 111)).alloc (.cells #[.pointer (some ⟨2, 111, none⟩), .pointer (some ⟨w.heap.size, 0, none⟩), .int .u64 150] 153)).cell? ⟨0, 0, none⟩ = some (.iface 170 (.agg #[.pointer (some ⟨2, 72, none⟩)])) := by
    rw [World.cell?_alloc_lt _ _ ⟨0, 0, none⟩ (by simp), World.cell?_alloc_lt _ _ ⟨0, 0, none⟩ hlt]; exact hg
  have el := Tryz.elemVP ⟨w.heap.size, 0, none⟩ ⟨t, 0, none⟩ (((w.alloc (.cells #[.pointer (some ⟨t, 0, none⟩)] 111)).alloc (.cells #[.pointer (some ⟨2, 111, none⟩), .pointer (some ⟨w.heap.size, 0, none⟩), .int .u64 150] 153)).alloc (.cells #[.pointer (some ⟨2, 111, none⟩), .pointer (some ⟨w.heap.size, 0, none⟩), .int .u64 150] 153)) (by rw [World.cell?_alloc_lt _ _ ⟨w.heap.size, 0, none⟩ (by simp; omega)]; simp)
  have st := Tryz.setE ⟨t, 0, none⟩ ⟨w.heap.size + 1 + 1 + 1, 0, none⟩ n old ((((w.alloc (.cells #[.pointer (some ⟨t, 0, none⟩)] 111)).alloc (.cells #[.pointer (some ⟨2, 111, none⟩), .pointer (some ⟨w.heap.size, 0, none⟩), .int .u64 150] 153)).alloc (.cells #[.pointer (some ⟨2, 111, none⟩), .pointer (some ⟨w.heap.size, 0, none⟩), .int .u64 150] 153)).alloc (.cells #[.int .i64 n] 33))
    (by rw [World.cell?_alloc_at _ _ _ _ (by simp)]; rfl)
    (by rw [World.cell?_alloc_lt _ _ ⟨t, 0, none⟩ (by simp; omega), World.cell?_alloc_lt _ _ ⟨t, 0, none⟩ (by simp; omega), World.cell?_alloc_lt _ _ ⟨t, 0, none⟩ (by simp; omega), World.cell?_alloc_lt _ _ ⟨t, 0, none⟩ htl]; exact ht0)
    (by rw [World.frozen?_alloc_old _ _ ⟨t, 0, none⟩ (by simp; omega), World.frozen?_alloc_old _ _ ⟨t, 0, none⟩ (by simp; omega), World.frozen?_alloc_old _ _ ⟨t, 0, none⟩ (by simp; omega), World.frozen?_alloc_old _ _ ⟨t, 0, none⟩ (Nat.ne_of_lt htl)]; exact hf0)
  have HT := Lib.hid ht
  clear ht
  go_enter Tryz.func50, Tryz.ntmps50
  go_wp2
  refine wp_loop_rounds 1 ?_
  rw [rounds_succ]
  go_wp2
  go_ret
  refine ⟨rfl, ?_, ?_⟩
  · rw [heap_setCell (c := #[old]) (t := 33) (fz := (0, 0)) (by rw [heap_alloc_lt (by simp; omega), heap_alloc_lt (by simp; omega), heap_alloc_lt (by simp; omega), heap_alloc_lt htl]; exact HT.out)]
    rfl
  · exact (((((Chg.refl _ _).alloc _).alloc _).alloc _).alloc _).setCell _ _ (.inl (by simp))
theorem Code_errno (n : Int) (w : World) (hg : Env w) : Calls Tryz.prog 25 #[.iface 33 (.int .i64 n)] w fun e w' => e = .returned (.int .i64 n) ∧ Chg [] w w' := by
  have HG := Lib.hid (hg.frame ((Chg.refl [] w).alloc (.cells #[.int .i64 0] 33)) (by simp))
  have HT := Lib.hid (heap_alloc_eq w (.cells #[.int .i64 0] 33))
  clear hg
  go_enter Tryz.func25, Tryz.ntmps25
  go_wp2_with fail
  refine (as_errno w.heap.size n (.int .i64 0) _ HG.out HT.out).mono ?_
  rintro e w1 ⟨rfl, ht, hc⟩
  have ht0 := cell_of_heap ht 0
  simp only [List.getElem?_toArray, List.getElem?_cons_zero] at ht0
  have HC := Lib.hid hc
  clear hc ht
  go_wp2
  go_ret
  exact ⟨rfl, ((Chg.refl [] w).alloc _).new HC.out (Nat.le_refl _)⟩
end Go.Proofs.YtgjlgamlmmjdpaaGreatDoor
