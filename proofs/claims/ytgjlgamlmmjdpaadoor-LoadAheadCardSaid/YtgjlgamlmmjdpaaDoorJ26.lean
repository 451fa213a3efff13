/- Lemmas, laid together: part 26 of 38. Conditions: none but each lemma's own. -/
import Derived.Test.YtgjlgamlmmjdpaaDoorJ9
/- errors.As at the target *api.Errno, of an api.Errno: true, and it stands there; cursor.Code of one. -/
namespace Go.Proofs.YtgjlgamlmmjdpaaDoor
open Go.RowKit Go.Extern.Stop Go.Stop Go.Extern

set_option maxRecDepth 100000 in
set_option maxHeartbeats 4000000 in
theorem as_errno (t : Nat) (n : Int) (old : Value) (w : World) (hg : Env w) (ht : w.heap[t]? = some (.cells #[old] 38 (0, 0))) :
    Calls Tryd.prog 40 #[.iface 38 (.int .i64 n), .iface 111 (.pointer (some ⟨t, 0, none⟩))] w fun ev w' => ev = .returned (.bool true) ∧ w'.heap[t]? = some (.cells #[.int .i64 n] 38 (0, 0)) ∧ Chg [t] w w' := by
  have hVO := @run_callFunc_extern Tryd.prog 53 _ (fun args => ReflectliteValue.unpack (args.getD 0 (.tuple #[]))) Tryd.func53 (by kernel_rfl) (by kernel_rfl) (by kernel_rfl) (by kernel_rfl)
  have hVT := @run_callFunc_extern Tryd.prog 54 _ (ReflectliteValue.methodAny (ReflectliteValue.valueError "reflectlite.Value.Type" 0) (fun t _ _ _ => ReflectliteType.toType t)) Tryd.func54 (by kernel_rfl) (by kernel_rfl) (by kernel_rfl) (by kernel_rfl)
  have hVN := @run_callFunc_extern Tryd.prog 55 _ (ReflectliteValue.method (ReflectliteValue.valueError "reflectlite.Value.IsNil" 0) ReflectliteValue.isNil) Tryd.func55 (by kernel_rfl) (by kernel_rfl) (by kernel_rfl) (by kernel_rfl)
  have hTK := @run_callFunc_extern Tryd.prog 82 _ (ReflectliteType.abiMethod fun t => do pure (.int .u8 (← Rtype.kind t))) Tryd.func82 (by kernel_rfl) (by kernel_rfl) (by kernel_rfl) (by kernel_rfl)
  have hTE := @run_callFunc_extern Tryd.prog 95 _ (ReflectliteType.method ReflectliteType.elem) Tryd.func95 (by kernel_rfl) (by kernel_rfl) (by kernel_rfl) (by kernel_rfl)
  have hTI := @run_callFunc_extern Tryd.prog 96 _ (ReflectliteType.relation "Implements" ReflectliteType.implements_) Tryd.func96 (by kernel_rfl) (by kernel_rfl) (by kernel_rfl) (by kernel_rfl)
  have hTO := @run_callFunc_extern Tryd.prog 51 _ ReflectliteType.typeOf Tryd.func51 (by kernel_rfl) (by kernel_rfl) (by kernel_rfl) (by kernel_rfl)
  have hTA := @run_callFunc_extern Tryd.prog 93 _ (ReflectliteType.relation "AssignableTo" ReflectliteType.assignableTo) Tryd.func93 (by kernel_rfl) (by kernel_rfl) (by kernel_rfl) (by kernel_rfl)
  have hVE := @run_callFunc_extern Tryd.prog 59 _ (ReflectliteValue.method (ReflectliteValue.valueError "reflectlite.Value.Elem" 0) ReflectliteValue.elem) Tryd.func59 (by kernel_rfl) (by kernel_rfl) (by kernel_rfl) (by kernel_rfl)
  have hVS := @run_callFunc_extern Tryd.prog 60 _ ReflectliteValue.set Tryd.func60 (by kernel_rfl) (by kernel_rfl) (by kernel_rfl) (by kernel_rfl)
  have c1 := Tryd.typeOfE
  have c3 := Tryd.methodAssignableTo
  have c4 := Tryd.assignableE
  have c6 := Tryd.valueOfE
  have c7 := Tryd.valueOfP
  have c8 := Tryd.typeP
  have c9 := Tryd.methodKind
  have c10 := Tryd.methodElem
  have c11 := Tryd.methodImplements
  have c12 := Tryd.kindP
  have c13 := Tryd.kindE
  have c14 := Tryd.elemP
  have c15 := Tryd.implementsE
  have hlt : 0 < w.heap.size := hg.pos
  have htl : t < w.heap.size := lt_of_heap ht
  have ht0 := cell_of_heap ht 0
  have hf0 := frozen_of_heap ht 0
  simp only [List.getElem?_toArray, List.getElem?_cons_zero] at ht0
  have n8 := Tryd.isNilP ⟨w.heap.size, 0, none⟩ ⟨t, 0, none⟩ ((w.alloc (.cells #[.pointer (some ⟨t, 0, none⟩)] 111)).alloc (.cells #[.pointer (some ⟨2, 111, none⟩), .pointer (some ⟨w.heap.size, 0, none⟩), .int .u64 150] 130)) (by simp)
  have hg2 : ((w.alloc (.cells #[.pointer (some ⟨t, 0, none⟩)] 111)).alloc (.cells #[.pointer (some ⟨2, 111, none⟩), .pointer (some ⟨w.heap.size, 0, none⟩), .int .u64 150] 130)).cell? ⟨0, 0, none⟩ = some (.iface 139 (.agg #[.pointer (some ⟨2, 84, none⟩)])) := by
    rw [World.cell?_alloc_lt _ _ ⟨0, 0, none⟩ (by simp), World.cell?_alloc_lt _ _ ⟨0, 0, none⟩ hlt]; exact hg
  have el := Tryd.elemVP ⟨w.heap.size, 0, none⟩ ⟨t, 0, none⟩ (((w.alloc (.cells #[.pointer (some ⟨t, 0, none⟩)] 111)).alloc (.cells #[.pointer (some ⟨2, 111, none⟩), .pointer (some ⟨w.heap.size, 0, none⟩), .int .u64 150] 130)).alloc (.cells #[.pointer (some ⟨2, 111, none⟩), .pointer (some ⟨w.heap.size, 0, none⟩), .int .u64 150] 130)) (by rw [World.cell?_alloc_lt _ _ ⟨w.heap.size, 0, none⟩ (by simp; omega)]; simp)
  have st := Tryd.setE ⟨t, 0, none⟩ ⟨w.heap.size + 1 + 1 + 1, 0, none⟩ n old ((((w.alloc (.cells #[.pointer (some ⟨t, 0, none⟩)] 111)).alloc (.cells #[.pointer (some ⟨2, 111, none⟩), .pointer (some ⟨w.heap.size, 0, none⟩), .int .u64 150] 130)).alloc (.cells #[.pointer (some ⟨2, 111, none⟩), .pointer (some ⟨w.heap.size, 0, none⟩), .int .u64 150] 130)).alloc (.cells #[.int .i64 n] 38))
    (by rw [World.cell?_alloc_at _ _ _ _ (by simp)]; rfl)
    (by rw [World.cell?_alloc_lt _ _ ⟨t, 0, none⟩ (by simp; omega), World.cell?_alloc_lt _ _ ⟨t, 0, none⟩ (by simp; omega), World.cell?_alloc_lt _ _ ⟨t, 0, none⟩ (by simp; omega), World.cell?_alloc_lt _ _ ⟨t, 0, none⟩ htl]; exact ht0)
    (by rw [World.frozen?_alloc_old _ _ ⟨t, 0, none⟩ (by simp; omega), World.frozen?_alloc_old _ _ ⟨t, 0, none⟩ (by simp; omega), World.frozen?_alloc_old _ _ ⟨t, 0, none⟩ (by simp; omega), World.frozen?_alloc_old _ _ ⟨t, 0, none⟩ (Nat.ne_of_lt htl)]; exact hf0)
  have HT := Lib.hid ht
  clear ht
  go_enter Tryd.func40, Tryd.ntmps40
  go_wp2
  refine wp_loop_rounds 1 ?_
  rw [rounds_succ]
  go_wp2
  go_ret
  refine ⟨rfl, ?_, ?_⟩
  · rw [heap_setCell (c := #[old]) (t := 38) (fz := (0, 0)) (by rw [heap_alloc_lt (by simp; omega), heap_alloc_lt (by simp; omega), heap_alloc_lt (by simp; omega), heap_alloc_lt htl]; exact HT.out)]
    rfl
  · exact (((((Chg.refl _ _).alloc _).alloc _).alloc _).alloc _).setCell _ _ (.inl (by simp))
theorem Code_errno (n : Int) (w : World) (hg : Env w) : Calls Tryd.prog 24 #[.iface 38 (.int .i64 n)] w fun e w' => e = .returned (.int .i64 n) ∧ Chg [] w w' := by
  have HG := Lib.hid (hg.frame ((Chg.refl [] w).alloc (.cells #[.int .i64 0] 38)) (by simp))
  have HT := Lib.hid (heap_alloc_eq w (.cells #[.int .i64 0] 38))
  clear hg
  go_enter Tryd.func24, Tryd.ntmps24
  go_wp2_with fail
  refine (as_errno w.heap.size n (.int .i64 0) _ HG.out HT.out).mono ?_
  rintro e w1 ⟨rfl, ht, hc⟩
  have ht0 := cell_of_heap ht 0
  simp only [List.getElem?_toArray, List.getElem?_cons_zero] at ht0
  have HC := Lib.hid hc
  clear hc ht
  go_wp2
  go_ret
  exact ⟨rfl, ((Chg.refl [] w).alloc _).new HC.out (Nat.le_refl _)⟩
end Go.Proofs.YtgjlgamlmmjdpaaDoor
