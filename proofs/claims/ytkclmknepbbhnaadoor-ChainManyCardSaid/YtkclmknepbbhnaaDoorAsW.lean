/- errors.As at the target *api.Errno: of a *cursor.Wrong: true, and its errno stands there. -/
import Derived.Test.YtkclmknepbbhnaaDoorAs
namespace Go.Proofs.YtkclmknepbbhnaaDoor
open Go.RowKit Go.Extern.Stop Go.Stop Go.Extern

/-- The one variable that errors.As reads. -/
def Env (w : World) : Prop := w.cell? ⟨1, 0, none⟩ = some (.iface 134 (.agg #[.pointer (some ⟨2, 108, none⟩)]))
theorem Env.pos {w : World} (h : Env w) : 1 < w.heap.size := World.block_lt_of_cell? w _ h
theorem Env.frame {w w' : World} (h : Env w) {S : List Nat} (k : Chg S w w') (hn : 1 ∉ S) : Env w' := k.cell h hn

theorem Tryd.noAs (v : Value) (xT : TypeId) (w : World) : (Instr.typeAssert (.iface 116 v) xT 139 true).run Tryd.prog w = .ok (.tuple #[.nilIface, .bool false]) w :=
  run_typeAssert_lacksB Tryd.underlying139 (by kernel_rfl) (by kernel_rfl) v xT w
theorem Tryd.hasUnwrap (v : Value) (xT : TypeId) (w : World) : (Instr.typeAssert (.iface 116 v) xT 142 true).run Tryd.prog w = .ok (.tuple #[.iface 116 v, .bool true]) w :=
  run_typeAssert_hasB Tryd.underlying142 (by kernel_rfl) v xT w
theorem Tryd.methodUnwrap (a : Addr) (w : World) : (Go.method 278 116 (.pointer (some a)) "Unwrap").run Tryd.prog w = .ok (96, .pointer (some a)) w := by kernel_rfl

theorem Unwrap_any (b : Nat) (at_ : Value) (n : Int) (w : World) (h : w.heap[b]? = some (.cells #[at_, .int .i64 n] 118 (0, 0))) :
    Calls Tryd.prog 96 #[.pointer (some ⟨b, 0, none⟩)] w fun e w' => e = .returned (.iface 40 (.int .i64 n)) ∧ w = w' := by
  have h1 := cell_of_heap h 1
  clear h
  simp at h1
  go_enter Tryd.func96, Tryd.ntmps96
  go_wp2
  go_ret
  exact ⟨rfl, rfl⟩

set_option maxRecDepth 100000 in
set_option maxHeartbeats 4000000 in
theorem as_wrong (b : Nat) (t : Nat) (at_ : Value) (n : Int) (old : Value) (w : World) (hg : Env w) (ht : w.heap[t]? = some (.cells #[old] 40 (0, 0))) (hb : w.heap[b]? = some (.cells #[at_, .int .i64 n] 118 (0, 0))) :
    Calls Tryd.prog 59 #[.iface 116 (.pointer (some ⟨b, 0, none⟩)), .iface 74 (.pointer (some ⟨t, 0, none⟩))] w fun ev w' => ev = .returned (.bool true) ∧ w'.heap[t]? = some (.cells #[.int .i64 n] 40 (0, 0)) ∧ Chg [t] w w' := by
  have hVO := @run_callFunc_extern Tryd.prog 64 _ (fun args => ReflectliteValue.unpack (args.getD 0 (.tuple #[]))) Tryd.func64 (by kernel_rfl) (by kernel_rfl) (by kernel_rfl) (by kernel_rfl)
  have hVT := @run_callFunc_extern Tryd.prog 65 _ (ReflectliteValue.methodAny (ReflectliteValue.valueError "reflectlite.Value.Type" 0) (fun t _ _ _ => ReflectliteType.toType t)) Tryd.func65 (by kernel_rfl) (by kernel_rfl) (by kernel_rfl) (by kernel_rfl)
  have hVN := @run_callFunc_extern Tryd.prog 66 _ (ReflectliteValue.method (ReflectliteValue.valueError "reflectlite.Value.IsNil" 0) ReflectliteValue.isNil) Tryd.func66 (by kernel_rfl) (by kernel_rfl) (by kernel_rfl) (by kernel_rfl)
  have hTK := @run_callFunc_extern Tryd.prog 91 _ (ReflectliteType.abiMethod fun t => do pure (.int .u8 (← Rtype.kind t))) Tryd.func91 (by kernel_rfl) (by kernel_rfl) (by kernel_rfl) (by kernel_rfl)
  have hTE := @run_callFunc_extern Tryd.prog 103 _ (ReflectliteType.method ReflectliteType.elem) Tryd.func103 (by kernel_rfl) (by kernel_rfl) (by kernel_rfl) (by kernel_rfl)
  have hTI := @run_callFunc_extern Tryd.prog 104 _ (ReflectliteType.relation "Implements" ReflectliteType.implements_) Tryd.func104 (by kernel_rfl) (by kernel_rfl) (by kernel_rfl) (by kernel_rfl)
  have hTO := @run_callFunc_extern Tryd.prog 72 _ ReflectliteType.typeOf Tryd.func72 (by kernel_rfl) (by kernel_rfl) (by kernel_rfl) (by kernel_rfl)
  have hTA := @run_callFunc_extern Tryd.prog 101 _ (ReflectliteType.relation "AssignableTo" ReflectliteType.assignableTo) Tryd.func101 (by kernel_rfl) (by kernel_rfl) (by kernel_rfl) (by kernel_rfl)
  have hVE := @run_callFunc_extern Tryd.prog 73 _ (ReflectliteValue.method (ReflectliteValue.valueError "reflectlite.Value.Elem" 0) ReflectliteValue.elem) Tryd.func73 (by kernel_rfl) (by kernel_rfl) (by kernel_rfl) (by kernel_rfl)
  have hVS := @run_callFunc_extern Tryd.prog 74 _ ReflectliteValue.set Tryd.func74 (by kernel_rfl) (by kernel_rfl) (by kernel_rfl) (by kernel_rfl)
  have c1 := Tryd.typeOfE
  have c2 := Tryd.typeOfW
  have c3 := Tryd.methodAssignableTo
  have c4 := Tryd.assignableE
  have c5 := Tryd.assignableW
  have c6 := Tryd.valueOfE
  have c7 := Tryd.valueOfP
  have c8 := Tryd.typeP
  have c9 := Tryd.methodKind
  have c10 := Tryd.methodElem
  have c11 := Tryd.methodImplements
  have c12 := Tryd.kindP
  have c13 := Tryd.kindE
  have c14 := Tryd.elemP
  have c15 := Tryd.implementsE
  have c16 := Tryd.noAs
  have c17 := Tryd.hasUnwrap
  have c18 := Tryd.methodUnwrap
  have hlt : 1 < w.heap.size := hg.pos
  have htl : t < w.heap.size := lt_of_heap ht
  have hbl : b < w.heap.size := lt_of_heap hb
  have ht0 := cell_of_heap ht 0
  have hf0 := frozen_of_heap ht 0
  have hb1 := cell_of_heap hb 1
  simp only [List.getElem?_toArray, List.getElem?_cons_zero, List.getElem?_cons_succ] at ht0 hb1
  have n8 := Tryd.isNilP ⟨w.heap.size, 0, none⟩ ⟨t, 0, none⟩ ((w.alloc (.cells #[.pointer (some ⟨t, 0, none⟩)] 74)).alloc (.cells #[.pointer (some ⟨2, 74, none⟩), .pointer (some ⟨w.heap.size, 0, none⟩), .int .u64 150] 123)) (by simp)
  have hg2 : ((w.alloc (.cells #[.pointer (some ⟨t, 0, none⟩)] 74)).alloc (.cells #[.pointer (some ⟨2, 74, none⟩), .pointer (some ⟨w.heap.size, 0, none⟩), .int .u64 150] 123)).cell? ⟨1, 0, none⟩ = some (.iface 134 (.agg #[.pointer (some ⟨2, 108, none⟩)])) := by
    rw [World.cell?_alloc_lt _ _ ⟨1, 0, none⟩ (by simp <;> omega), World.cell?_alloc_lt _ _ ⟨1, 0, none⟩ hlt]; exact hg
  have el := Tryd.elemVP ⟨w.heap.size, 0, none⟩ ⟨t, 0, none⟩ (((w.alloc (.cells #[.pointer (some ⟨t, 0, none⟩)] 74)).alloc (.cells #[.pointer (some ⟨2, 74, none⟩), .pointer (some ⟨w.heap.size, 0, none⟩), .int .u64 150] 123)).alloc (.cells #[.pointer (some ⟨2, 74, none⟩), .pointer (some ⟨w.heap.size, 0, none⟩), .int .u64 150] 123)) (by rw [World.cell?_alloc_lt _ _ ⟨w.heap.size, 0, none⟩ (by simp; omega)]; simp)
  have st := Tryd.setE ⟨t, 0, none⟩ ⟨w.heap.size + 1 + 1 + 1, 0, none⟩ n old ((((w.alloc (.cells #[.pointer (some ⟨t, 0, none⟩)] 74)).alloc (.cells #[.pointer (some ⟨2, 74, none⟩), .pointer (some ⟨w.heap.size, 0, none⟩), .int .u64 150] 123)).alloc (.cells #[.pointer (some ⟨2, 74, none⟩), .pointer (some ⟨w.heap.size, 0, none⟩), .int .u64 150] 123)).alloc (.cells #[.int .i64 n] 40))
    (by rw [World.cell?_alloc_at _ _ _ _ (by simp)]; rfl)
    (by rw [World.cell?_alloc_lt _ _ ⟨t, 0, none⟩ (by simp; omega), World.cell?_alloc_lt _ _ ⟨t, 0, none⟩ (by simp; omega), World.cell?_alloc_lt _ _ ⟨t, 0, none⟩ (by simp; omega), World.cell?_alloc_lt _ _ ⟨t, 0, none⟩ htl]; exact ht0)
    (by rw [World.frozen?_alloc_old _ _ ⟨t, 0, none⟩ (by simp; omega), World.frozen?_alloc_old _ _ ⟨t, 0, none⟩ (by simp; omega), World.frozen?_alloc_old _ _ ⟨t, 0, none⟩ (by simp; omega), World.frozen?_alloc_old _ _ ⟨t, 0, none⟩ (Nat.ne_of_lt htl)]; exact hf0)
  have HT := Lib.hid ht
  have HB := Lib.hid hb
  clear ht hb
  go_enter Tryd.func59, Tryd.ntmps59
  go_wp2
  refine wp_loop_rounds 2 ?_
  rw [rounds_succ]
  go_wp2_with fail
  refine (Unwrap_any b at_ n _ (by rw [heap_alloc_lt (by simp; omega), heap_alloc_lt (by simp; omega), heap_alloc_lt hbl]; exact HB.out)).mono ?_
  rintro e w' ⟨rfl, rfl⟩
  go_wp2
  rw [rounds_succ]
  go_wp2
  go_ret
  refine ⟨rfl, ?_, ?_⟩
  · rw [heap_setCell (c := #[old]) (t := 40) (fz := (0, 0)) (by rw [heap_alloc_lt (by simp; omega), heap_alloc_lt (by simp; omega), heap_alloc_lt (by simp; omega), heap_alloc_lt htl]; exact HT.out)]
    rfl
  · exact (((((Chg.refl _ _).alloc _).alloc _).alloc _).alloc _).setCell _ _ (.inl (by simp))
end Go.Proofs.YtkclmknepbbhnaaDoor
