/- Lemmas, laid together: part 2 of 40. Conditions: none but each lemma's own. -/
import Derived.Test.YtkomocgodljecaaGreatDoorJ1
import Derived.Test.YtkomocgodljecaaGreatDoorRows
import Derived.Test.YtkomocgodljecaaGreatDoorCards
import Derived.Test.YtkomocgodljecaaGreatDoorTie
import Derived.ChangeSame
import Derived.ChangeVars
import Derived.JoinedOf
import Derived.RowKit
import Derived.RowKitTokens
import Derived.LaidLaws
import Derived.LaidHandle
import Derived.Stop.Joined
import Derived.ProofKit
import Derived.OpenShut
import Derived.ShutString
import Derived.ChangeOld
import Derived.SevenTiedAt
/- errors.As at the target *api.Errno: of a *cursor.Wrong: true, and its errno stands there. -/
namespace Go.Proofs.YtkomocgodljecaaGreatDoor
open Go.RowKit Go.Extern.Stop Go.Stop Go.Extern

/-- The one variable that errors.As reads. -/
def Env (w : World) : Prop := w.cell? ⟨1, 0, none⟩ = some (.iface 174 (.agg #[.pointer (some ⟨2, 122, none⟩)]))
theorem Env.pos {w : World} (h : Env w) : 1 < w.heap.size := World.block_lt_of_cell? w _ h
theorem Env.frame {w w' : World} (h : Env w) {S : List Nat} (k : Chg S w w') (hn : 1 ∉ S) : Env w' := k.cell h hn

theorem Tryz.noAs (v : Value) (xT : TypeId) (w : World) : (Instr.typeAssert (.iface 145 v) xT 179 true).run Tryz.prog w = .ok (.tuple #[.nilIface, .bool false]) w :=
  run_typeAssert_lacksB Tryz.underlying179 (by kernel_rfl) (by kernel_rfl) v xT w
theorem Tryz.hasUnwrap (v : Value) (xT : TypeId) (w : World) : (Instr.typeAssert (.iface 145 v) xT 182 true).run Tryz.prog w = .ok (.tuple #[.iface 145 v, .bool true]) w :=
  run_typeAssert_hasB Tryz.underlying182 (by kernel_rfl) v xT w
theorem Tryz.methodUnwrap (a : Addr) (w : World) : (Go.method 314 145 (.pointer (some a)) "Unwrap").run Tryz.prog w = .ok (159, .pointer (some a)) w := by kernel_rfl

theorem Unwrap_any (b : Nat) (at_ : Value) (n : Int) (w : World) (h : w.heap[b]? = some (.cells #[at_, .int .i64 n] 147 (0, 0))) :
    Calls Tryz.prog 159 #[.pointer (some ⟨b, 0, none⟩)] w fun e w' => e = .returned (.iface 35 (.int .i64 n)) ∧ w = w' := by
  have h1 := cell_of_heap h 1
  clear h
  simp at h1
  go_enter Tryz.func159, Tryz.ntmps159
  go_wp2
  go_ret
  exact ⟨rfl, rfl⟩

set_option maxRecDepth 100000 in
set_option maxHeartbeats 4000000 in
theorem as_wrong (b : Nat) (t : Nat) (at_ : Value) (n : Int) (old : Value) (w : World) (hg : Env w) (ht : w.heap[t]? = some (.cells #[old] 35 (0, 0))) (hb : w.heap[b]? = some (.cells #[at_, .int .i64 n] 147 (0, 0))) :
    Calls Tryz.prog 118 #[.iface 145 (.pointer (some ⟨b, 0, none⟩)), .iface 144 (.pointer (some ⟨t, 0, none⟩))] w fun ev w' => ev = .returned (.bool true) ∧ w'.heap[t]? = some (.cells #[.int .i64 n] 35 (0, 0)) ∧ Chg [t] w w' := by
  have hVO := @run_callFunc_extern Tryz.prog 130 _ (fun args => ReflectliteValue.unpack (args.getD 0 (.tuple #[]))) Tryz.func130 (by kernel_rfl) (by kernel_rfl) (by kernel_rfl) (by kernel_rfl)
  have hVT := @run_callFunc_extern Tryz.prog 131 _ (ReflectliteValue.methodAny (ReflectliteValue.valueError "reflectlite.Value.Type" 0) (fun t _ _ _ => ReflectliteType.toType t)) Tryz.func131 (by kernel_rfl) (by kernel_rfl) (by kernel_rfl) (by kernel_rfl)
  have hVN := @run_callFunc_extern Tryz.prog 132 _ (ReflectliteValue.method (ReflectliteValue.valueError "reflectlite.Value.IsNil" 0) ReflectliteValue.isNil) Tryz.func132 (by kernel_rfl) (by kernel_rfl) (by kernel_rfl) (by kernel_rfl)
  have hTK := @run_callFunc_extern Tryz.prog 154 _ (ReflectliteType.abiMethod fun t => do pure (.int .u8 (← Rtype.kind t))) Tryz.func154 (by kernel_rfl) (by kernel_rfl) (by kernel_rfl) (by kernel_rfl)
  have hTE := @run_callFunc_extern Tryz.prog 166 _ (ReflectliteType.method ReflectliteType.elem) Tryz.func166 (by kernel_rfl) (by kernel_rfl) (by kernel_rfl) (by kernel_rfl)
  have hTI := @run_callFunc_extern Tryz.prog 167 _ (ReflectliteType.relation "Implements" ReflectliteType.implements_) Tryz.func167 (by kernel_rfl) (by kernel_rfl) (by kernel_rfl) (by kernel_rfl)
  have hTO := @run_callFunc_extern Tryz.prog 137 _ ReflectliteType.typeOf Tryz.func137 (by kernel_rfl) (by kernel_rfl) (by kernel_rfl) (by kernel_rfl)
  have hTA := @run_callFunc_extern Tryz.prog 164 _ (ReflectliteType.relation "AssignableTo" ReflectliteType.assignableTo) Tryz.func164 (by kernel_rfl) (by kernel_rfl) (by kernel_rfl) (by kernel_rfl)
  have hVE := @run_callFunc_extern Tryz.prog 138 _ (ReflectliteValue.method (ReflectliteValue.valueError "reflectlite.Value.Elem" 0) ReflectliteValue.elem) Tryz.func138 (by kernel_rfl) (by kernel_rfl) (by kernel_rfl) (by kernel_rfl)
  have hVS := @run_callFunc_extern Tryz.prog 139 _ ReflectliteValue.set Tryz.func139 (by kernel_rfl) (by kernel_rfl) (by kernel_rfl) (by kernel_rfl)
  have c1 := Tryz.typeOfE
  have c2 := Tryz.typeOfW
  have c3 := Tryz.methodAssignableTo
  have c4 := Tryz.assignableE
  have c5 := Tryz.assignableW
  have c6 := Tryz.valueOfE
  have c7 := Tryz.valueOfP
  have c8 := Tryz.typeP
  have c9 := Tryz.methodKind
  have c10 := Tryz.methodElem
  have c11 := Tryz.methodImplements
  have c12 := Tryz.kindP
  have c13 := Tryz.kindE
  have c14 := Tryz.elemP
  have c15 := Tryz.implementsE
  have c16 := Tryz.noAs
  have c17 := Tryz.hasUnwrap
  have c18 := Tryz.methodUnwrap
  have hlt : 1 < w.heap.size := hg.pos
  have htl : t < w.heap.size := lt_of_heap ht
  have hbl : b < w.heap.size := lt_of_heap hb
  have ht0 := cell_of_heap ht 0
  have hf0 := frozen_of_heap ht 0
  have hb1 := cell_of_heap hb 1
  simp only [List.getElem?_toArray, List.getElem?_cons_zero, List.getElem?_cons_succ] at ht0 hb1
  have n8 := Tryz.isNilP ⟨w.heap.size, 0, none⟩ ⟨t, 0, none⟩ ((w.alloc (.cells #[.pointer (some ⟨t, 0, none⟩)] 144)).alloc (.cells #[.pointer (some ⟨2, 144, none⟩), .pointer (some ⟨w.heap.size, 0, none⟩), .int .u64 150] 159)) (by simp)
  have hg2 : ((w.alloc (.cells #[.pointer (some ⟨t, 0, none⟩)] 144)).alloc (.cells #[.pointer (some ⟨2, 144, none⟩), .pointer (some ⟨w.heap.size, 0, none⟩), .int .u64 150] 159)).cell? ⟨1, 0, none⟩ = some (.iface 174 (.agg #[.pointer (some ⟨2, 122, none⟩)])) := by
    rw [World.cell?_alloc_lt _ _ ⟨1, 0, none⟩ (by simp <;> omega), World.cell?_alloc_lt _ _ ⟨1, 0, none⟩ hlt]; exact hg
  have el := Tryz.elemVP ⟨w.heap.size, 0, none⟩ ⟨t, 0, none⟩ (((w.alloc (.cells #[.pointer (some ⟨t, 0, none⟩)] 144)).alloc (.cells #[.pointer (some ⟨2, 144, none⟩), .pointer (some ⟨w.heap.size, 0, none⟩), .int .u64 150] 159)).alloc (.cells #[.pointer (some ⟨2, 144, none⟩), .pointer (some ⟨w.heap.size, 0, none⟩), .int .u64 150] 159)) (by rw [World.cell?_alloc_lt _ _ ⟨w.heap.size, 0, none⟩ (by simp; omega)]; simp)
  have st := Tryz.setE ⟨t, 0, none⟩ ⟨w.heap.size + 1 + 1 + 1, 0, none⟩ n old ((((w.alloc (.cells #[.pointer (some ⟨t, 0, none⟩)] 144)).alloc (.cells #[.pointer (some ⟨2, 144, none⟩), .pointer (some ⟨w.heap.size, 0, none⟩), .int .u64 150] 159)).alloc (.cells #[.pointer (some ⟨2, 144, none⟩), .pointer (some ⟨w.heap.size, 0, none⟩), .int .u64 150] 159)).alloc (.cells #[.int .i64 n] 35))
    (by rw [World.cell?_alloc_at _ _ _ _ (by simp)]; rfl)
    (by rw [World.cell?_alloc_lt _ _ ⟨t, 0, none⟩ (by simp; omega), World.cell?_alloc_lt _ _ ⟨t, 0, none⟩ (by simp; omega), World.cell?_alloc_lt _ _ ⟨t, 0, none⟩ (by simp; omega), World.cell?_alloc_lt _ _ ⟨t, 0, none⟩ htl]; exact ht0)
    (by rw [World.frozen?_alloc_old _ _ ⟨t, 0, none⟩ (by simp; omega), World.frozen?_alloc_old _ _ ⟨t, 0, none⟩ (by simp; omega), World.frozen?_alloc_old _ _ ⟨t, 0, none⟩ (by simp; omega), World.frozen?_alloc_old _ _ ⟨t, 0, none⟩ (Nat.ne_of_lt htl)]; exact hf0)
  have HT := Lib.hid ht
  have HB := Lib.hid hb
  clear ht hb
  go_enter Tryz.func118, Tryz.ntmps118
  go_wp2
  refine wp_loop_rounds 2 ?_
  rw [rounds_succ]
  go_wp2_with fail
  refine (Unwrap_any b at_ n _ (by rw [heap_alloc_lt (by simp; omega), heap_alloc_lt (by simp; omega), heap_alloc_lt hbl]; exact HB.out)).mono ?_
  rintro e w' ⟨rfl, rfl⟩
  go_wp2
  rw [rounds_succ]
  go_wp2
  go_ret
  refine ⟨rfl, ?_, ?_⟩
  · rw [heap_setCell (c := #[old]) (t := 35) (fz := (0, 0)) (by rw [heap_alloc_lt (by simp; omega), heap_alloc_lt (by simp; omega), heap_alloc_lt (by simp; omega), heap_alloc_lt htl]; exact HT.out)]
    rfl
  · exact (((((Chg.refl _ _).alloc _).alloc _).alloc _).alloc _).setCell _ _ (.inl (by simp))
end Go.Proofs.YtkomocgodljecaaGreatDoor
/- From a law's walk to its row and its card: what all laws of the seat share. After the guide's Derived/Test/ToyasProofs.lean and ToyasCard.lean. -/
namespace Go.Proofs.YtkomocgodljecaaGreatDoor
open Go.ChangeShapes Go.WideShapes Go.RowKit

theorem Tryz.own : ownKnob Tryz.prog.godebug = none := by kernel_rfl
theorem Tryz.laidOut : laidOutB Tryz.prog = true := by kernel_rfl
theorem Tryz.et : Tryz.prog.globalNamed "errors.errorType" = some 1 := by kernel_rfl
theorem Tryz.rt : (Tryz.prog.cutTypes.find? (·.1 == "internal/reflectlite.rtype")).map (·.2) = some 174 := by kernel_rfl
theorem Tryz.tsize : Tryz.prog.types.size = 214 := by kernel_rfl
theorem Tryz.oneRow : ((List.range 214).filter fun t => Tryz.prog.rowNamed t [101, 114, 114, 111, 114]) = [122] := by kernel_rfl
/-- What the row's condition on errors.errorType gives a walk: the variable's one cell. -/
theorem env_of_laid {W : World} (h : laidMetH Tryz.prog [("errors.errorType", Rows.laid_errors_errorType)] W) : Env W := by
  have h' : laidMet Tryz.prog [] W ∧ handlesMet Tryz.prog [("errors.errorType", Rows.laid_errors_errorType)] W := h
  obtain ⟨name, u, ty, e1, e2, e3, e4, e5⟩ := h'.2 _ (List.mem_singleton.2 rfl)
  have en : name = [101, 114, 114, 111, 114] := (Option.some.inj e1).symm
  subst en
  obtain rfl := Option.some.inj (Tryz.rt.symm.trans e2)
  have hm : ty ∈ (List.range 214).filter fun t => Tryz.prog.rowNamed t [101, 114, 114, 111, 114] := List.mem_filter.2 ⟨List.mem_range.2 (by rw [← Tryz.tsize]; exact e3), e4⟩
  rw [Tryz.oneRow] at hm
  obtain rfl := List.mem_singleton.1 hm
  have hh : typeHandle Tryz.prog 122 = .pointer (some ⟨2, 122, none⟩) := by kernel_rfl
  rw [hh] at e5
  show W.cell? _ = _
  simpa using World.var?_cell Tryz.et e5 0

/-- A world that meets the condition: the settled one, the variable's cell laid. -/
noncomputable def laidWorld (os : Os) : World :=
  let w0 := World.holding Tryz.prog os ⟨#[], #[], []⟩
  { w0 with heap := w0.heap.modify 1 fun
      | .cells _ t frozen => .cells #[.iface 174 (.agg #[.pointer (some ⟨2, 122, none⟩)])] t frozen
      | o => o }
theorem laidWorld_met (os : Os) (args : Array Value) : laidMetH Tryz.prog [("errors.errorType", Rows.laid_errors_errorType)] ((laidWorld os).forCall (fun _ _ => 0) ⟨#[], args, []⟩).memory :=
  laidMetH_of_parts (laidMet_nil _ _) (by kernel_rfl)

/-- All arguments read as they did. -/
theorem trodAll_below {H : Type} {enc : TypeId × Value → H} {W W' : World} : ∀ {ts : List TypeId} {vs : List Value} {ds : List (DataW H)} {ps : List MemPlace},
    DataW.TrodAll enc Tryz.prog W 0 (fun _ => true) true ts vs ds ps → (∀ t ∈ ts, Tryz.prog.readableRec t = true ∧ t < Tryz.prog.types.size) → Below W.heap.size W W' →
    DataW.TrodAll enc Tryz.prog W' 0 (fun b => decide (b < W.heap.size)) true ts vs ds ps
  | [], vs, ds, ps, h, _, _ => by
    obtain ⟨rfl, rfl, rfl⟩ := trodAll_nil h
    exact trodAll_mk0
  | t :: ts, vs, ds, ps, h, ht, hb => by
    obtain ⟨v0, vs0, d0, ds0, p0, q0, rfl, rfl, rfl, h0, r0⟩ := trodAll_cons h
    have k0 := h0
    have lt0 : ∀ x ∈ p0, x.block < W.heap.size := by obtain ⟨m, hm⟩ := k0; exact DataW.trod_lt m _ _ _ hm
    exact trodAll_cons_mk (Below.trod Tryz.laidOut (ht t (List.mem_cons_self ..)).1 (ht t (List.mem_cons_self ..)).2 h0 hb lt0) (trodAll_below r0 (fun t' h' => ht t' (List.mem_cons_of_mem _ h')) hb)

end Go.Proofs.YtkomocgodljecaaGreatDoor
