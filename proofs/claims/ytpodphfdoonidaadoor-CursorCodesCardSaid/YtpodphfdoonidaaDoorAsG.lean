/- errors.as at the target *api.Errno of each kind of error that the program makes; errors.As and cursor.Code of each. (Printed by mkasg.py.) -/
import Derived.Test.YtpodphfdoonidaaDoorErr
namespace Go.Proofs.YtpodphfdoonidaaDoor
open Go.RowKit Go.Extern.Stop Go.Stop Go.Extern
set_option maxRecDepth 100000
theorem Tryd.typeOfF (v : Value) (w : World) : (ReflectliteType.typeOf #[.iface 58 v]).run Tryd.prog w = .ok (.iface 119 (.agg #[.pointer (some ⟨5, 58, none⟩)])) w := by kernel_rfl
theorem Tryd.assignableF (w : World) : (ReflectliteType.relation "AssignableTo" ReflectliteType.assignableTo #[.agg #[.pointer (some ⟨5, 58, none⟩)], .iface 119 (.agg #[.pointer (some ⟨5, 34, none⟩)])]).run Tryd.prog w = .ok (.bool false) w := by kernel_rfl
theorem Tryd.noAsF (v : Value) (xT : TypeId) (w : World) : (Instr.typeAssert (.iface 58 v) xT 131 true).run Tryd.prog w = .ok (.tuple #[.nilIface, .bool false]) w :=
  run_typeAssert_lacksB Tryd.underlying131 (by kernel_rfl) (by kernel_rfl) v xT w
theorem Tryd.hasUnwrapF (v : Value) (xT : TypeId) (w : World) : (Instr.typeAssert (.iface 58 v) xT 124 true).run Tryd.prog w = .ok (.tuple #[.iface 58 v, .bool true]) w :=
  run_typeAssert_hasB Tryd.underlying124 (by kernel_rfl) v xT w
theorem Tryd.typeOfS (v : Value) (w : World) : (ReflectliteType.typeOf #[.iface 98 v]).run Tryd.prog w = .ok (.iface 119 (.agg #[.pointer (some ⟨5, 98, none⟩)])) w := by kernel_rfl
theorem Tryd.assignableS (w : World) : (ReflectliteType.relation "AssignableTo" ReflectliteType.assignableTo #[.agg #[.pointer (some ⟨5, 98, none⟩)], .iface 119 (.agg #[.pointer (some ⟨5, 34, none⟩)])]).run Tryd.prog w = .ok (.bool false) w := by kernel_rfl
theorem Tryd.noAsS (v : Value) (xT : TypeId) (w : World) : (Instr.typeAssert (.iface 98 v) xT 131 true).run Tryd.prog w = .ok (.tuple #[.nilIface, .bool false]) w :=
  run_typeAssert_lacksB Tryd.underlying131 (by kernel_rfl) (by kernel_rfl) v xT w
theorem Tryd.noUnwrapS (v : Value) (xT : TypeId) (w : World) : (Instr.typeAssert (.iface 98 v) xT 124 true).run Tryd.prog w = .ok (.tuple #[.nilIface, .bool false]) w :=
  run_typeAssert_lacksB Tryd.underlying124 (by kernel_rfl) (by kernel_rfl) v xT w
theorem Tryd.noUnwrapsS (v : Value) (xT : TypeId) (w : World) : (Instr.typeAssert (.iface 98 v) xT 125 true).run Tryd.prog w = .ok (.tuple #[.nilIface, .bool false]) w :=
  run_typeAssert_lacksB Tryd.underlying125 (by kernel_rfl) (by kernel_rfl) v xT w
theorem Tryd.typeOfJ (v : Value) (w : World) : (ReflectliteType.typeOf #[.iface 102 v]).run Tryd.prog w = .ok (.iface 119 (.agg #[.pointer (some ⟨5, 102, none⟩)])) w := by kernel_rfl
theorem Tryd.assignableJ (w : World) : (ReflectliteType.relation "AssignableTo" ReflectliteType.assignableTo #[.agg #[.pointer (some ⟨5, 102, none⟩)], .iface 119 (.agg #[.pointer (some ⟨5, 34, none⟩)])]).run Tryd.prog w = .ok (.bool false) w := by kernel_rfl
theorem Tryd.noAsJ (v : Value) (xT : TypeId) (w : World) : (Instr.typeAssert (.iface 102 v) xT 131 true).run Tryd.prog w = .ok (.tuple #[.nilIface, .bool false]) w :=
  run_typeAssert_lacksB Tryd.underlying131 (by kernel_rfl) (by kernel_rfl) v xT w
theorem Tryd.noUnwrapJ (v : Value) (xT : TypeId) (w : World) : (Instr.typeAssert (.iface 102 v) xT 124 true).run Tryd.prog w = .ok (.tuple #[.nilIface, .bool false]) w :=
  run_typeAssert_lacksB Tryd.underlying124 (by kernel_rfl) (by kernel_rfl) v xT w
theorem Tryd.hasUnwrapsJ (v : Value) (xT : TypeId) (w : World) : (Instr.typeAssert (.iface 102 v) xT 125 true).run Tryd.prog w = .ok (.tuple #[.iface 102 v, .bool true]) w :=
  run_typeAssert_hasB Tryd.underlying125 (by kernel_rfl) v xT w
theorem Tryd.methodUnwrapF (a : Addr) (w : World) : (Go.method 280 58 (.pointer (some a)) "Unwrap").run Tryd.prog w = .ok (119, .pointer (some a)) w := by kernel_rfl
theorem Tryd.methodUnwrapJ (a : Addr) (w : World) : (Go.method 280 102 (.pointer (some a)) "Unwrap").run Tryd.prog w = .ok (122, .pointer (some a)) w := by kernel_rfl
theorem UnwrapF_any (b : Nat) (x y : Value) (n : Int) (w : World) (h : w.heap[b]? = some (.cells #[x, y, .int .i64 n] 61 (0, 0))) :
    Calls Tryd.prog 119 #[.pointer (some ⟨b, 0, none⟩)] w fun e w' => e = .returned (.iface 34 (.int .i64 n)) ∧ w = w' := by
  have h1 := cell_of_heap h 2
  clear h
  simp at h1
  go_enter Tryd.func119, Tryd.ntmps119
  go_wp2
  go_ret
  exact ⟨rfl, rfl⟩
theorem UnwrapJ_any (b : Nat) (a : Option Addr) (n c : Nat) (w : World) (h : w.heap[b]? = some (.cells #[.slice a n c] 104 (0, 0))) :
    Calls Tryd.prog 122 #[.pointer (some ⟨b, 0, none⟩)] w fun e w' => e = .returned (.slice a n c) ∧ w = w' := by
  have h1 := cell_of_heap h 0
  clear h
  simp at h1
  go_enter Tryd.func122, Tryd.ntmps122
  go_wp2
  go_ret
  exact ⟨rfl, rfl⟩

/-- What errors.as, errors.As leave: was an errno found, which, and where it stands. -/
def AsR (t : Nat) (r : Option Int) (w : World) (e : Ending) (w' : World) : Prop :=
  e = .returned (.bool r.isSome) ∧ (∀ n, r = some n → w'.heap[t]? = some (.cells #[.int .i64 n] 34 (0, 0))) ∧ Chg [t] w w'
theorem asV_errno (n : Int) (t p : Nat) (old : Value) (w : World) (ht : w.heap[t]? = some (.cells #[old] 34 (0, 0))) (hp : w.cell? ⟨p, 0, none⟩ = some (.pointer (some ⟨t, 0, none⟩))) :
    Calls Tryd.prog 74 #[.iface 34 (.int .i64 n), .iface 93 (.pointer (some ⟨t, 0, none⟩)), .agg #[.pointer (some ⟨5, 93, none⟩), .pointer (some ⟨p, 0, none⟩), .int .u64 150], .iface 119 (.agg #[.pointer (some ⟨5, 34, none⟩)])] w (AsR t (some n) w) := by
  have hVO := @run_callFunc_extern Tryd.prog 71 _ (fun args => ReflectliteValue.unpack (args.getD 0 (.tuple #[]))) Tryd.func71 (by kernel_rfl) (by kernel_rfl) (by kernel_rfl) (by kernel_rfl)
  have hTO := @run_callFunc_extern Tryd.prog 61 _ ReflectliteType.typeOf Tryd.func61 (by kernel_rfl) (by kernel_rfl) (by kernel_rfl) (by kernel_rfl)
  have hTA := @run_callFunc_extern Tryd.prog 127 _ (ReflectliteType.relation "AssignableTo" ReflectliteType.assignableTo) Tryd.func127 (by kernel_rfl) (by kernel_rfl) (by kernel_rfl) (by kernel_rfl)
  have hVE := @run_callFunc_extern Tryd.prog 80 _ (ReflectliteValue.method (ReflectliteValue.valueError "reflectlite.Value.Elem" 0) ReflectliteValue.elem) Tryd.func80 (by kernel_rfl) (by kernel_rfl) (by kernel_rfl) (by kernel_rfl)
  have hVS := @run_callFunc_extern Tryd.prog 81 _ ReflectliteValue.set Tryd.func81 (by kernel_rfl) (by kernel_rfl) (by kernel_rfl) (by kernel_rfl)
  have c0 := Tryd.typeOfE
  have c1 := Tryd.methodAssignableTo
  have c2 := Tryd.assignableE
  have c3 := Tryd.valueOfE
  have ht0 := cell_of_heap ht 0
  have hf0 := frozen_of_heap ht 0
  simp only [List.getElem?_toArray, List.getElem?_cons_zero] at ht0
  have htl : t < w.heap.size := lt_of_heap ht
  have hpl : p < w.heap.size := World.block_lt_of_cell? w _ hp
  have el := Tryd.elemVP ⟨p, 0, none⟩ ⟨t, 0, none⟩ (w.alloc (.cells #[.pointer (some ⟨5, 93, none⟩), .pointer (some ⟨p, 0, none⟩), .int .u64 150] 111)) (by rw [World.cell?_alloc_lt _ _ ⟨p, 0, none⟩ hpl]; exact hp)
  have st := Tryd.setE ⟨t, 0, none⟩ ⟨w.heap.size + 1, 0, none⟩ n old ((w.alloc (.cells #[.pointer (some ⟨5, 93, none⟩), .pointer (some ⟨p, 0, none⟩), .int .u64 150] 111)).alloc (.cells #[.int .i64 n] 34))
    (by rw [World.cell?_alloc_at _ _ _ _ (by simp)]; rfl)
    (by rw [World.cell?_alloc_lt _ _ ⟨t, 0, none⟩ (by simp; omega), World.cell?_alloc_lt _ _ ⟨t, 0, none⟩ htl]; exact ht0)
    (by rw [World.frozen?_alloc_old _ _ ⟨t, 0, none⟩ (by simp; omega), World.frozen?_alloc_old _ _ ⟨t, 0, none⟩ (Nat.ne_of_lt htl)]; exact hf0)
  have HT := Lib.hid ht
  clear ht hp
  go_enter Tryd.func74, Tryd.ntmps74
  go_wp2
  refine wp_loop_rounds 1 ?_
  rw [rounds_succ]
  go_wp2
  go_ret
  refine ⟨rfl, fun m hm => ?_, (((Chg.refl _ _).setCell _ _ (.inl (by simp))).alloc _).alloc _⟩
  cases hm
  exact (heap_alloc_lt (by simp; omega) _).trans ((heap_alloc_lt (by simp; omega) _).trans (by rw [heap_setCell HT.out]; rfl))
theorem asV_W (b : Nat) (x : Value) (n : Int) (t p : Nat) (old : Value) (w : World) (ht : w.heap[t]? = some (.cells #[old] 34 (0, 0))) (hp : w.cell? ⟨p, 0, none⟩ = some (.pointer (some ⟨t, 0, none⟩))) (hb : w.heap[b]? = some (.cells #[x, .int .i64 n] 57 (0, 0))) :
    Calls Tryd.prog 74 #[.iface 55 (.pointer (some ⟨b, 0, none⟩)), .iface 93 (.pointer (some ⟨t, 0, none⟩)), .agg #[.pointer (some ⟨5, 93, none⟩), .pointer (some ⟨p, 0, none⟩), .int .u64 150], .iface 119 (.agg #[.pointer (some ⟨5, 34, none⟩)])] w (AsR t (some n) w) := by
  have hVO := @run_callFunc_extern Tryd.prog 71 _ (fun args => ReflectliteValue.unpack (args.getD 0 (.tuple #[]))) Tryd.func71 (by kernel_rfl) (by kernel_rfl) (by kernel_rfl) (by kernel_rfl)
  have hTO := @run_callFunc_extern Tryd.prog 61 _ ReflectliteType.typeOf Tryd.func61 (by kernel_rfl) (by kernel_rfl) (by kernel_rfl) (by kernel_rfl)
  have hTA := @run_callFunc_extern Tryd.prog 127 _ (ReflectliteType.relation "AssignableTo" ReflectliteType.assignableTo) Tryd.func127 (by kernel_rfl) (by kernel_rfl) (by kernel_rfl) (by kernel_rfl)
  have hVE := @run_callFunc_extern Tryd.prog 80 _ (ReflectliteValue.method (ReflectliteValue.valueError "reflectlite.Value.Elem" 0) ReflectliteValue.elem) Tryd.func80 (by kernel_rfl) (by kernel_rfl) (by kernel_rfl) (by kernel_rfl)
  have hVS := @run_callFunc_extern Tryd.prog 81 _ ReflectliteValue.set Tryd.func81 (by kernel_rfl) (by kernel_rfl) (by kernel_rfl) (by kernel_rfl)
  have c0 := Tryd.typeOfE
  have c1 := Tryd.methodAssignableTo
  have c2 := Tryd.assignableE
  have c3 := Tryd.valueOfE
  have c4 := Tryd.typeOfW
  have c5 := Tryd.assignableW
  have c6 := Tryd.noAs
  have c7 := Tryd.hasUnwrap
  have c8 := Tryd.methodUnwrap
  have ht0 := cell_of_heap ht 0
  have hf0 := frozen_of_heap ht 0
  simp only [List.getElem?_toArray, List.getElem?_cons_zero] at ht0
  have htl : t < w.heap.size := lt_of_heap ht
  have hpl : p < w.heap.size := World.block_lt_of_cell? w _ hp
  have el := Tryd.elemVP ⟨p, 0, none⟩ ⟨t, 0, none⟩ (w.alloc (.cells #[.pointer (some ⟨5, 93, none⟩), .pointer (some ⟨p, 0, none⟩), .int .u64 150] 111)) (by rw [World.cell?_alloc_lt _ _ ⟨p, 0, none⟩ hpl]; exact hp)
  have st := Tryd.setE ⟨t, 0, none⟩ ⟨w.heap.size + 1, 0, none⟩ n old ((w.alloc (.cells #[.pointer (some ⟨5, 93, none⟩), .pointer (some ⟨p, 0, none⟩), .int .u64 150] 111)).alloc (.cells #[.int .i64 n] 34))
    (by rw [World.cell?_alloc_at _ _ _ _ (by simp)]; rfl)
    (by rw [World.cell?_alloc_lt _ _ ⟨t, 0, none⟩ (by simp; omega), World.cell?_alloc_lt _ _ ⟨t, 0, none⟩ htl]; exact ht0)
    (by rw [World.frozen?_alloc_old _ _ ⟨t, 0, none⟩ (by simp; omega), World.frozen?_alloc_old _ _ ⟨t, 0, none⟩ (Nat.ne_of_lt htl)]; exact hf0)
  have HT := Lib.hid ht
  clear ht hp
  have hbl : b < w.heap.size := lt_of_heap hb
  have HB := Lib.hid hb
  clear hb
  go_enter Tryd.func74, Tryd.ntmps74
  go_wp2
  refine wp_loop_rounds 2 ?_
  rw [rounds_succ]
  go_wp2_with fail
  refine (Unwrap_any b x n _ (by rw [heap_alloc_lt hbl]; exact HB.out)).mono ?_
  rintro e w' ⟨rfl, rfl⟩
  go_wp2
  rw [rounds_succ]
  go_wp2
  go_ret
  refine ⟨rfl, fun m hm => ?_, (((Chg.refl _ _).setCell _ _ (.inl (by simp))).alloc _).alloc _⟩
  cases hm
  exact (heap_alloc_lt (by simp; omega) _).trans ((heap_alloc_lt (by simp; omega) _).trans (by rw [heap_setCell HT.out]; rfl))
theorem asV_F (b : Nat) (x y : Value) (n : Int) (t p : Nat) (old : Value) (w : World) (ht : w.heap[t]? = some (.cells #[old] 34 (0, 0))) (hp : w.cell? ⟨p, 0, none⟩ = some (.pointer (some ⟨t, 0, none⟩))) (hb : w.heap[b]? = some (.cells #[x, y, .int .i64 n] 61 (0, 0))) :
    Calls Tryd.prog 74 #[.iface 58 (.pointer (some ⟨b, 0, none⟩)), .iface 93 (.pointer (some ⟨t, 0, none⟩)), .agg #[.pointer (some ⟨5, 93, none⟩), .pointer (some ⟨p, 0, none⟩), .int .u64 150], .iface 119 (.agg #[.pointer (some ⟨5, 34, none⟩)])] w (AsR t (some n) w) := by
  have hVO := @run_callFunc_extern Tryd.prog 71 _ (fun args => ReflectliteValue.unpack (args.getD 0 (.tuple #[]))) Tryd.func71 (by kernel_rfl) (by kernel_rfl) (by kernel_rfl) (by kernel_rfl)
  have hTO := @run_callFunc_extern Tryd.prog 61 _ ReflectliteType.typeOf Tryd.func61 (by kernel_rfl) (by kernel_rfl) (by kernel_rfl) (by kernel_rfl)
  have hTA := @run_callFunc_extern Tryd.prog 127 _ (ReflectliteType.relation "AssignableTo" ReflectliteType.assignableTo) Tryd.func127 (by kernel_rfl) (by kernel_rfl) (by kernel_rfl) (by kernel_rfl)
  have hVE := @run_callFunc_extern Tryd.prog 80 _ (ReflectliteValue.method (ReflectliteValue.valueError "reflectlite.Value.Elem" 0) ReflectliteValue.elem) Tryd.func80 (by kernel_rfl) (by kernel_rfl) (by kernel_rfl) (by kernel_rfl)
  have hVS := @run_callFunc_extern Tryd.prog 81 _ ReflectliteValue.set Tryd.func81 (by kernel_rfl) (by kernel_rfl) (by kernel_rfl) (by kernel_rfl)
  have c0 := Tryd.typeOfE
  have c1 := Tryd.methodAssignableTo
  have c2 := Tryd.assignableE
  have c3 := Tryd.valueOfE
  have c4 := Tryd.typeOfF
  have c5 := Tryd.assignableF
  have c6 := Tryd.noAsF
  have c7 := Tryd.hasUnwrapF
  have c8 := Tryd.methodUnwrapF
  have ht0 := cell_of_heap ht 0
  have hf0 := frozen_of_heap ht 0
  simp only [List.getElem?_toArray, List.getElem?_cons_zero] at ht0
  have htl : t < w.heap.size := lt_of_heap ht
  have hpl : p < w.heap.size := World.block_lt_of_cell? w _ hp
  have el := Tryd.elemVP ⟨p, 0, none⟩ ⟨t, 0, none⟩ (w.alloc (.cells #[.pointer (some ⟨5, 93, none⟩), .pointer (some ⟨p, 0, none⟩), .int .u64 150] 111)) (by rw [World.cell?_alloc_lt _ _ ⟨p, 0, none⟩ hpl]; exact hp)
  have st := Tryd.setE ⟨t, 0, none⟩ ⟨w.heap.size + 1, 0, none⟩ n old ((w.alloc (.cells #[.pointer (some ⟨5, 93, none⟩), .pointer (some ⟨p, 0, none⟩), .int .u64 150] 111)).alloc (.cells #[.int .i64 n] 34))
    (by rw [World.cell?_alloc_at _ _ _ _ (by simp)]; rfl)
    (by rw [World.cell?_alloc_lt _ _ ⟨t, 0, none⟩ (by simp; omega), World.cell?_alloc_lt _ _ ⟨t, 0, none⟩ htl]; exact ht0)
    (by rw [World.frozen?_alloc_old _ _ ⟨t, 0, none⟩ (by simp; omega), World.frozen?_alloc_old _ _ ⟨t, 0, none⟩ (Nat.ne_of_lt htl)]; exact hf0)
  have HT := Lib.hid ht
  clear ht hp
  have hbl : b < w.heap.size := lt_of_heap hb
  have HB := Lib.hid hb
  clear hb
  go_enter Tryd.func74, Tryd.ntmps74
  go_wp2
  refine wp_loop_rounds 2 ?_
  rw [rounds_succ]
  go_wp2_with fail
  refine (UnwrapF_any b x y n _ (by rw [heap_alloc_lt hbl]; exact HB.out)).mono ?_
  rintro e w' ⟨rfl, rfl⟩
  go_wp2
  rw [rounds_succ]
  go_wp2
  go_ret
  refine ⟨rfl, fun m hm => ?_, (((Chg.refl _ _).setCell _ _ (.inl (by simp))).alloc _).alloc _⟩
  cases hm
  exact (heap_alloc_lt (by simp; omega) _).trans ((heap_alloc_lt (by simp; omega) _).trans (by rw [heap_setCell HT.out]; rfl))
theorem asV_S (v : Value) (t p : Nat) (w : World) :
    Calls Tryd.prog 74 #[.iface 98 v, .iface 93 (.pointer (some ⟨t, 0, none⟩)), .agg #[.pointer (some ⟨5, 93, none⟩), .pointer (some ⟨p, 0, none⟩), .int .u64 150], .iface 119 (.agg #[.pointer (some ⟨5, 34, none⟩)])] w fun e w' => e = .returned (.bool false) ∧ Chg [] w w' := by
  have hTO := @run_callFunc_extern Tryd.prog 61 _ ReflectliteType.typeOf Tryd.func61 (by kernel_rfl) (by kernel_rfl) (by kernel_rfl) (by kernel_rfl)
  have hTA := @run_callFunc_extern Tryd.prog 127 _ (ReflectliteType.relation "AssignableTo" ReflectliteType.assignableTo) Tryd.func127 (by kernel_rfl) (by kernel_rfl) (by kernel_rfl) (by kernel_rfl)
  have c0 := Tryd.methodAssignableTo
  have c1 := Tryd.typeOfS
  have c2 := Tryd.assignableS
  have c3 := Tryd.noAsS
  have c4 := Tryd.noUnwrapS
  have c5 := Tryd.noUnwrapsS
  go_enter Tryd.func74, Tryd.ntmps74
  go_wp2
  refine wp_loop_rounds 1 ?_
  rw [rounds_succ]
  go_wp2
  go_ret
  exact ⟨rfl, (Chg.refl _ _).alloc _⟩
theorem asV_J (j g c s b : Nat) (x : Value) (n : Int) (t p : Nat) (old : Value) (w : World) (ht : w.heap[t]? = some (.cells #[old] 34 (0, 0))) (hp : w.cell? ⟨p, 0, none⟩ = some (.pointer (some ⟨t, 0, none⟩))) (hj : w.heap[j]? = some (.cells #[.slice (some ⟨g, 0, none⟩) 2 c] 104 (0, 0))) (h0 : w.cell? ⟨g, 0, none⟩ = some (.iface 98 (.pointer (some ⟨s, 0, none⟩)))) (h1 : w.cell? ⟨g, 1, none⟩ = some (.iface 55 (.pointer (some ⟨b, 0, none⟩)))) (hb : w.heap[b]? = some (.cells #[x, .int .i64 n] 57 (0, 0))) :
    Calls Tryd.prog 74 #[.iface 102 (.pointer (some ⟨j, 0, none⟩)), .iface 93 (.pointer (some ⟨t, 0, none⟩)), .agg #[.pointer (some ⟨5, 93, none⟩), .pointer (some ⟨p, 0, none⟩), .int .u64 150], .iface 119 (.agg #[.pointer (some ⟨5, 34, none⟩)])] w (AsR t (some n) w) := by
  have hTO := @run_callFunc_extern Tryd.prog 61 _ ReflectliteType.typeOf Tryd.func61 (by kernel_rfl) (by kernel_rfl) (by kernel_rfl) (by kernel_rfl)
  have hTA := @run_callFunc_extern Tryd.prog 127 _ (ReflectliteType.relation "AssignableTo" ReflectliteType.assignableTo) Tryd.func127 (by kernel_rfl) (by kernel_rfl) (by kernel_rfl) (by kernel_rfl)
  have c0 := Tryd.methodAssignableTo
  have c1 := Tryd.typeOfJ
  have c2 := Tryd.assignableJ
  have c3 := Tryd.noAsJ
  have c4 := Tryd.noUnwrapJ
  have c5 := Tryd.hasUnwrapsJ
  have c6 := Tryd.methodUnwrapJ
  have k0 : Chg [] w (w.alloc (.cells #[.pointer (some ⟨5, 93, none⟩), .pointer (some ⟨p, 0, none⟩), .int .u64 150] 111)) := (Chg.refl _ _).alloc _
  have HJ := Lib.hid (k0.heap hj (by simp))
  have hg0 := k0.cell h0 (by simp)
  have hg1 := k0.cell h1 (by simp)
  have HB := Lib.hid (k0.heap hb (by simp))
  have HT := Lib.hid (k0.heap ht (by simp))
  have HP := Lib.hid (k0.cell hp (by simp))
  have HK := Lib.hid (k0)
  clear k0 hj h0 h1 hb ht hp
  go_enter Tryd.func74, Tryd.ntmps74
  go_wp2
  obtain ⟨W, hW⟩ : ∃ W, W = w.alloc (.cells #[.pointer (some ⟨5, 93, none⟩), .pointer (some ⟨p, 0, none⟩), .int .u64 150] 111) := ⟨_, rfl⟩
  rw [← hW] at HJ hg0 hg1 HB HT HP HK ⊢
  have hv : W.cell? ⟨w.heap.size, 0, none⟩ = some (.pointer (some ⟨5, 93, none⟩)) ∧ W.cell? ⟨w.heap.size, 1, none⟩ = some (.pointer (some ⟨p, 0, none⟩)) ∧ W.cell? ⟨w.heap.size, 2, none⟩ = some (.int .u64 150) := by rw [hW]; simp
  obtain ⟨hv0, hv1, hv2⟩ := hv
  clear hW
  refine wp_loop_rounds 1 ?_
  rw [rounds_succ]
  go_wp2_with fail
  refine (UnwrapJ_any j _ _ _ _ HJ.out).mono ?_
  rintro e w' ⟨rfl, rfl⟩
  go_wp2_with fail
  refine wp_loop_rounds 2 ?_
  rw [rounds_succ]
  go_wp2_with fail
  refine (asV_S _ t p _).mono ?_
  rintro e w1 ⟨rfl, hch⟩
  have hg1 := hch.cell hg1 (by simp)
  have hv0 := hch.cell hv0 (by simp)
  have hv1 := hch.cell hv1 (by simp)
  have hv2 := hch.cell hv2 (by simp)
  have HB1 := Lib.hid (hch.heap HB.out (by simp))
  have HT1 := Lib.hid (hch.heap HT.out (by simp))
  have HP1 := Lib.hid (hch.cell HP.out (by simp))
  have HK1 := Lib.hid (HK.out.then hch)
  clear hch
  go_wp2_with fail
  rw [rounds_succ]
  go_wp2_with fail
  refine (asV_W b x n t p old w1 HT1.out HP1.out HB1.out).mono ?_
  rintro e w2 ⟨rfl, hn, hch⟩
  have Hn := Lib.hid hn
  have Hch := Lib.hid hch
  clear hn hch
  go_wp2
  go_ret
  exact ⟨rfl, Hn.out, HK1.out.add.same Hch.out⟩
theorem As_of (T : TypeId) (v : Value) (t : Nat) (r : Option Int) (w : World) (hg : Env w)
    (hcall : ∀ (W : World) (p : Nat), Chg [] w W → W.cell? ⟨p, 0, none⟩ = some (.pointer (some ⟨t, 0, none⟩)) → Calls Tryd.prog 74 #[.iface T v, .iface 93 (.pointer (some ⟨t, 0, none⟩)), .agg #[.pointer (some ⟨5, 93, none⟩), .pointer (some ⟨p, 0, none⟩), .int .u64 150], .iface 119 (.agg #[.pointer (some ⟨5, 34, none⟩)])] W (AsR t r W)) :
    Calls Tryd.prog 60 #[.iface T v, .iface 93 (.pointer (some ⟨t, 0, none⟩))] w (AsR t r w) := by
  have hVO := @run_callFunc_extern Tryd.prog 71 _ (fun args => ReflectliteValue.unpack (args.getD 0 (.tuple #[]))) Tryd.func71 (by kernel_rfl) (by kernel_rfl) (by kernel_rfl) (by kernel_rfl)
  have hVT := @run_callFunc_extern Tryd.prog 72 _ (ReflectliteValue.methodAny (ReflectliteValue.valueError "reflectlite.Value.Type" 0) (fun t _ _ _ => ReflectliteType.toType t)) Tryd.func72 (by kernel_rfl) (by kernel_rfl) (by kernel_rfl) (by kernel_rfl)
  have hVN := @run_callFunc_extern Tryd.prog 73 _ (ReflectliteValue.method (ReflectliteValue.valueError "reflectlite.Value.IsNil" 0) ReflectliteValue.isNil) Tryd.func73 (by kernel_rfl) (by kernel_rfl) (by kernel_rfl) (by kernel_rfl)
  have hTK := @run_callFunc_extern Tryd.prog 113 _ (ReflectliteType.abiMethod fun t => do pure (.int .u8 (← Rtype.kind t))) Tryd.func113 (by kernel_rfl) (by kernel_rfl) (by kernel_rfl) (by kernel_rfl)
  have hTE := @run_callFunc_extern Tryd.prog 129 _ (ReflectliteType.method ReflectliteType.elem) Tryd.func129 (by kernel_rfl) (by kernel_rfl) (by kernel_rfl) (by kernel_rfl)
  have hTI := @run_callFunc_extern Tryd.prog 130 _ (ReflectliteType.relation "Implements" ReflectliteType.implements_) Tryd.func130 (by kernel_rfl) (by kernel_rfl) (by kernel_rfl) (by kernel_rfl)
  have c0 := Tryd.valueOfP
  have c1 := Tryd.typeP
  have c2 := Tryd.methodKind
  have c3 := Tryd.methodElem
  have c4 := Tryd.methodImplements
  have c5 := Tryd.kindP
  have c6 := Tryd.kindE
  have c7 := Tryd.elemP
  have c8 := Tryd.implementsE
  have hlt : 0 < w.heap.size := hg.pos
  have n8 := Tryd.isNilP ⟨w.heap.size, 0, none⟩ ⟨t, 0, none⟩ ((w.alloc (.cells #[.pointer (some ⟨t, 0, none⟩)] 93)).alloc (.cells #[.pointer (some ⟨5, 93, none⟩), .pointer (some ⟨w.heap.size, 0, none⟩), .int .u64 150] 111)) (by simp)
  have hg2 : ((w.alloc (.cells #[.pointer (some ⟨t, 0, none⟩)] 93)).alloc (.cells #[.pointer (some ⟨5, 93, none⟩), .pointer (some ⟨w.heap.size, 0, none⟩), .int .u64 150] 111)).cell? ⟨0, 0, none⟩ = some (.iface 119 (.agg #[.pointer (some ⟨5, 67, none⟩)])) := by
    rw [World.cell?_alloc_lt _ _ ⟨0, 0, none⟩ (by simp), World.cell?_alloc_lt _ _ ⟨0, 0, none⟩ hlt]; exact hg
  have HK := Lib.hid (hcall ((w.alloc (.cells #[.pointer (some ⟨t, 0, none⟩)] 93)).alloc (.cells #[.pointer (some ⟨5, 93, none⟩), .pointer (some ⟨w.heap.size, 0, none⟩), .int .u64 150] 111)) w.heap.size (((Chg.refl _ _).alloc _).alloc _) (by simp))
  clear hg hcall
  go_enter Tryd.func60, Tryd.ntmps60
  go_wp2_with fail
  refine (HK.out).mono ?_
  rintro e w1 ⟨rfl, hn, hch⟩
  have Hn := Lib.hid hn
  have Hch := Lib.hid hch
  clear hn hch
  go_wp2
  go_ret
  exact ⟨rfl, Hn.out, (((Chg.refl _ _).alloc _).alloc _).same Hch.out⟩
theorem Code_of (T : TypeId) (v : Value) (r : Option Int) (w : World) (hg : Env w)
    (hcall : ∀ (W : World) (t p : Nat) (old : Value), Chg [] w W → W.heap[t]? = some (.cells #[old] 34 (0, 0)) → W.cell? ⟨p, 0, none⟩ = some (.pointer (some ⟨t, 0, none⟩)) → Calls Tryd.prog 74 #[.iface T v, .iface 93 (.pointer (some ⟨t, 0, none⟩)), .agg #[.pointer (some ⟨5, 93, none⟩), .pointer (some ⟨p, 0, none⟩), .int .u64 150], .iface 119 (.agg #[.pointer (some ⟨5, 34, none⟩)])] W (AsR t r W)) :
    Calls Tryd.prog 39 #[.iface T v] w fun e w' => e = .returned (.int .i64 (r.getD 2)) ∧ Chg [] w w' := by
  have HE := Lib.hid (hg.frame ((Chg.refl [] w).alloc (.cells #[.int .i64 0] 34)) (by simp))
  have HC : Hid (∀ (W : World) (p : Nat), Chg [] (w.alloc (.cells #[.int .i64 0] 34)) W → W.cell? ⟨p, 0, none⟩ = some (.pointer (some ⟨w.heap.size, 0, none⟩)) → Calls Tryd.prog 74 #[.iface T v, .iface 93 (.pointer (some ⟨w.heap.size, 0, none⟩)), .agg #[.pointer (some ⟨5, 93, none⟩), .pointer (some ⟨p, 0, none⟩), .int .u64 150], .iface 119 (.agg #[.pointer (some ⟨5, 34, none⟩)])] W (AsR w.heap.size r W)) := Lib.hid (fun W p hW hp => hcall W w.heap.size p _ (((Chg.refl _ _).alloc _).then hW) (hW.heap (heap_alloc_eq w _) (by simp)) hp)
  clear hg hcall
  cases r with
  | none =>
    go_enter Tryd.func39, Tryd.ntmps39
    go_wp2_with fail
    refine (As_of T v w.heap.size none _ HE.out HC.out).mono ?_
    rintro e w1 ⟨rfl, hn, hch⟩
    have Hn := Lib.hid hn
    have Hch := Lib.hid hch
    clear hn hch
    go_wp2
    go_ret
    exact ⟨rfl, ((Chg.refl [] w).alloc _).new Hch.out (Nat.le_refl _)⟩
  | some n =>
    go_enter Tryd.func39, Tryd.ntmps39
    go_wp2_with fail
    refine (As_of T v w.heap.size (some n) _ HE.out HC.out).mono ?_
    rintro e w1 ⟨rfl, hn, hch⟩
    have ht0 := cell_of_heap (hn n rfl) 0
    simp only [List.getElem?_toArray, List.getElem?_cons_zero] at ht0
    have Hn := Lib.hid hn
    have Hch := Lib.hid hch
    clear hn hch
    go_wp2
    go_ret
    exact ⟨rfl, ((Chg.refl [] w).alloc _).new Hch.out (Nat.le_refl _)⟩
theorem Code_errno (n : Int) (w : World) (hg : Env w) : Calls Tryd.prog 39 #[.iface 34 (.int .i64 n)] w fun e w' => e = .returned (.int .i64 n) ∧ Chg [] w w' :=
  Code_of _ _ (some n) w hg (fun W t p old _ ht hp => asV_errno n t p old W ht hp)
theorem Code_fault (b : Nat) (x y : Value) (n : Int) (w : World) (hg : Env w) (hb : w.heap[b]? = some (.cells #[x, y, .int .i64 n] 61 (0, 0))) :
    Calls Tryd.prog 39 #[.iface 58 (.pointer (some ⟨b, 0, none⟩))] w fun e w' => e = .returned (.int .i64 n) ∧ Chg [] w w' :=
  Code_of _ _ (some n) w hg (fun W t p old hW ht hp => asV_F b x y n t p old W ht hp (hW.heap hb (by simp)))
theorem Code_text (v : Value) (w : World) (hg : Env w) : Calls Tryd.prog 39 #[.iface 98 v] w fun e w' => e = .returned (.int .i64 2) ∧ Chg [] w w' :=
  Code_of _ _ none w hg (fun W t p _ _ _ _ => (asV_S v t p W).mono fun _ _ ⟨he, hc⟩ => ⟨he, (fun _ hm => by cases hm), hc.add⟩)
theorem Code_join (j g c s b : Nat) (x : Value) (n : Int) (w : World) (hg : Env w) (hj : w.heap[j]? = some (.cells #[.slice (some ⟨g, 0, none⟩) 2 c] 104 (0, 0)))
    (h0 : w.cell? ⟨g, 0, none⟩ = some (.iface 98 (.pointer (some ⟨s, 0, none⟩)))) (h1 : w.cell? ⟨g, 1, none⟩ = some (.iface 55 (.pointer (some ⟨b, 0, none⟩)))) (hb : w.heap[b]? = some (.cells #[x, .int .i64 n] 57 (0, 0))) :
    Calls Tryd.prog 39 #[.iface 102 (.pointer (some ⟨j, 0, none⟩))] w fun e w' => e = .returned (.int .i64 n) ∧ Chg [] w w' :=
  Code_of _ _ (some n) w hg (fun W t p old hW ht hp => asV_J j g c s b x n t p old W ht hp (hW.heap hj (by simp)) (hW.cell h0 (by simp)) (hW.cell h1 (by simp)) (hW.heap hb (by simp)))
end Go.Proofs.YtpodphfdoonidaaDoor
