/- Lemmas, laid together: part 2 of 38. Conditions: none but each lemma's own. -/
import Derived.Test.YtgjlgamlmmjdpaaDoorJ1
import Derived.Test.YtgjlgamlmmjdpaaDoorRows
import Derived.Test.YtgjlgamlmmjdpaaDoorCards
import Derived.Test.YtgjlgamlmmjdpaaDoorTie
import Derived.ChangeSame
import Derived.ChangeVars
import Derived.JoinedOf
import Derived.RowKit
import Derived.RowKitTokens
import Derived.LaidLaws
import Derived.LaidHandle
import Derived.Stop.Joined
import Derived.ProofKit
import Derived.OpenShut
import Derived.ShutString
import Derived.ChangeOld
import Derived.SevenTiedAt
/- errors.As at the target *api.Errno: of a *cursor.Wrong: true, and its errno stands there. -/
namespace Go.Proofs.YtgjlgamlmmjdpaaDoor
open Go.RowKit Go.Extern.Stop Go.Stop Go.Extern

/-- The one variable that errors.As reads. -/
def Env (w : World) : Prop := w.cell? ⟨0, 0, none⟩ = some (.iface 139 (.agg #[.pointer (some ⟨2, 84, none⟩)]))
theorem Env.pos {w : World} (h : Env w) : 0 < w.heap.size := World.block_lt_of_cell? w _ h
theorem Env.frame {w w' : World} (h : Env w) {S : List Nat} (k : Chg S w w') (hn : 0 ∉ S) : Env w' := k.cell h hn

theorem Tryd.noAs (v : Value) (xT : TypeId) (w : World) : (Instr.typeAssert (.iface 118 v) xT 150 true).run Tryd.prog w = .ok (.tuple #[.nilIface, .bool false]) w :=
  run_typeAssert_lacksB Tryd.underlying150 (by kernel_rfl) (by kernel_rfl) v xT w
theorem Tryd.hasUnwrap (v : Value) (xT : TypeId) (w : World) : (Instr.typeAssert (.iface 118 v) xT 144 true).run Tryd.prog w = .ok (.tuple #[.iface 118 v, .bool true]) w :=
  run_typeAssert_hasB Tryd.underlying144 (by kernel_rfl) v xT w
theorem Tryd.methodUnwrap (a : Addr) (w : World) : (Go.method 287 118 (.pointer (some a)) "Unwrap").run Tryd.prog w = .ok (88, .pointer (some a)) w := by kernel_rfl

theorem Unwrap_any (b : Nat) (at_ : Value) (n : Int) (w : World) (h : w.heap[b]? = some (.cells #[at_, .int .i64 n] 120 (0, 0))) :
    Calls Tryd.prog 88 #[.pointer (some ⟨b, 0, none⟩)] w fun e w' => e = .returned (.iface 38 (.int .i64 n)) ∧ w = w' := by
  have h1 := cell_of_heap h 1
  clear h
  simp at h1
  go_enter Tryd.func88, Tryd.ntmps88
  go_wp2
  go_ret
  exact ⟨rfl, rfl⟩

set_option maxRecDepth 100000 in
set_option maxHeartbeats 4000000 in
theorem as_wrong (b : Nat) (t : Nat) (at_ : Value) (n : Int) (old : Value) (w : World) (hg : Env w) (ht : w.heap[t]? = some (.cells #[old] 38 (0, 0))) (hb : w.heap[b]? = some (.cells #[at_, .int .i64 n] 120 (0, 0))) :
    Calls Tryd.prog 40 #[.iface 118 (.pointer (some ⟨b, 0, none⟩)), .iface 111 (.pointer (some ⟨t, 0, none⟩))] w fun ev w' => ev = .returned (.bool true) ∧ w'.heap[t]? = some (.cells #[.int .i64 n] 38 (0, 0)) ∧ Chg [t] w w' := by
  have hVO := @run_callFunc_extern Tryd.prog 53 _ (fun args => ReflectliteValue.unpack (args.getD 0 (.tuple #[]))) Tryd.func53 (by kernel_rfl) (by kernel_rfl) (by kernel_rfl) (by kernel_rfl)
  have hVT := @run_callFunc_extern Tryd.prog 54 _ (ReflectliteValue.methodAny (ReflectliteValue.valueError "reflectlite.Value.Type" 0) (fun t _ _ _ => ReflectliteType.toType t)) Tryd.func54 (by kernel_rfl) (by kernel_rfl) (by kernel_rfl) (by kernel_rfl)
  have hVN := @run_callFunc_extern Tryd.prog 55 _ (ReflectliteValue.method (ReflectliteValue.valueError "reflectlite.Value.IsNil" 0) ReflectliteValue.isNil) Tryd.func55 (by kernel_rfl) (by kernel_rfl) (by kernel_rfl) (by kernel_rfl)
  have hTK := @run_callFunc_extern Tryd.prog 82 _ (ReflectliteType.abiMethod fun t => do pure (.int .u8 (← Rtype.kind t))) Tryd.func82 (by kernel_rfl) (by kernel_rfl) (by kernel_rfl) (by kernel_rfl)
  have hTE := @run_callFunc_extern Tryd.prog 95 _ (ReflectliteType.method ReflectliteType.elem) Tryd.func95 (by kernel_rfl) (by kernel_rfl) (by kernel_rfl) (by kernel_rfl)
  have hTI := @run_callFunc_extern Tryd.prog 96 _ (ReflectliteType.relation "Implements" ReflectliteType.implements_) Tryd.func96 (by kernel_rfl) (by kernel_rfl) (by kernel_rfl) (by kernel_rfl)
  have hTO := @run_callFunc_extern Tryd.prog 51 _ ReflectliteType.typeOf Tryd.func51 (by kernel_rfl) (by kernel_rfl) (by kernel_rfl) (by kernel_rfl)
  have hTA := @run_callFunc_extern Tryd.prog 93 _ (ReflectliteType.relation "AssignableTo" ReflectliteType.assignableTo) Tryd.func93 (by kernel_rfl) (by kernel_rfl) (by kernel_rfl) (by kernel_rfl)
  have hVE := @run_callFunc_extern Tryd.prog 59 _ (ReflectliteValue.method (ReflectliteValue.valueError "reflectlite.Value.Elem" 0) ReflectliteValue.elem) Tryd.func59 (by kernel_rfl) (by kernel_rfl) (by kernel_rfl) (by kernel_rfl)
  have hVS := @run_callFunc_extern Tryd.prog 60 _ ReflectliteValue.set Tryd.func60 (by kernel_rfl) (by kernel_rfl) (by kernel_rfl) (by kernel_rfl)
  have c1 := Tryd.typeOfE
  have c2 := Tryd.typeOfW
  have c3 := Tryd.methodAssignableTo
  have c4 := Tryd.assignableE
  have c5 := Tryd.assignableW
  have c6 := Tryd.valueOfE
  have c7 := Tryd.valueOfP
  have c8 := Tryd.typeP
  have c9 := Tryd.methodKind
  have c10 := Tryd.methodElem
  have c11 := Tryd.methodImplements
  have c12 := Tryd.kindP
  have c13 := Tryd.kindE
  have c14 := Tryd.elemP
  have c15 := Tryd.implementsE
  have c16 := Tryd.noAs
  have c17 := Tryd.hasUnwrap
  have c18 := Tryd.methodUnwrap
  have hlt : 0 < w.heap.size := hg.pos
  have htl : t < w.heap.size := lt_of_heap ht
  have hbl : b < w.heap.size := lt_of_heap hb
  have ht0 := cell_of_heap ht 0
  have hf0 := frozen_of_heap ht 0
  have hb1 := cell_of_heap hb 1
  simp only [List.getElem?_toArray, List.getElem?_cons_zero, List.getElem?_cons_succ] at ht0 hb1
  have n8 := Tryd.isNilP ⟨w.heap.size, 0, none⟩ ⟨t, 0, none⟩ ((w.alloc (.cells #[.pointer (some ⟨t, 0, none⟩)] 111)).alloc (.cells #[.pointer (some ⟨2, 111, none⟩), .pointer (some ⟨w.heap.size, 0, none⟩), .int .u64 150] 130)) (by simp)
  have hg2 : ((w.alloc (.cells #[.pointer (some ⟨t, 0, none⟩)] 111)).alloc (.cells #[.pointer (some ⟨2, 111, none⟩), .pointer (some ⟨w.heap.size, 0, none⟩), .int .u64 150] 130)).cell? ⟨0, 0, none⟩ = some (.iface 139 (.agg #[.pointer (some ⟨2, 84, none⟩)])) := by
    rw [World.cell?_alloc_lt _ _ ⟨0, 0, none⟩ (by simp <;> omega), World.cell?_alloc_lt _ _ ⟨0, 0, none⟩ hlt]; exact hg
  have el := Tryd.elemVP ⟨w.heap.size, 0, none⟩ ⟨t, 0, none⟩ (((w.alloc (.cells #[.pointer (some ⟨t, 0, none⟩)] 111)).alloc (.cells #[.pointer (some ⟨2, 111, none⟩), .pointer (some ⟨w.heap.size, 0, none⟩), .int .u64 150] 130)).alloc (.cells #[.pointer (some ⟨2, 111, none⟩), .pointer (some ⟨w.heap.size, 0, none⟩), .int .u64 150] 130)) (by rw [World.cell?_alloc_lt _ _ ⟨w.heap.size, 0, none⟩ (by simp; omega)]; simp)
  have st := Tryd.setE ⟨t, 0, none⟩ ⟨w.heap.size + 1 + 1 + 1, 0, none⟩ n old ((((w.alloc (.cells #[.pointer (some ⟨t, 0, none⟩)] 111)).alloc (.cells #[.pointer (some ⟨2, 111, none⟩), .pointer (some ⟨w.heap.size, 0, none⟩), .int .u64 150] 130)).alloc (.cells #[.pointer (some ⟨2, 111, none⟩), .pointer (some ⟨w.heap.size, 0, none⟩), .int .u64 150] 130)).alloc (.cells #[.int .i64 n] 38))
    (by rw [World.cell?_alloc_at _ _ _ _ (by simp)]; rfl)
    (by rw [World.cell?_alloc_lt _ _ ⟨t, 0, none⟩ (by simp; omega), World.cell?_alloc_lt _ _ ⟨t, 0, none⟩ (by simp; omega), World.cell?_alloc_lt _ _ ⟨t, 0, none⟩ (by simp; omega), World.cell?_alloc_lt _ _ ⟨t, 0, none⟩ htl]; exact ht0)
    (by rw [World.frozen?_alloc_old _ _ ⟨t, 0, none⟩ (by simp; omega), World.frozen?_alloc_old _ _ ⟨t, 0, none⟩ (by simp; omega), World.frozen?_alloc_old _ _ ⟨t, 0, none⟩ (by simp; omega), World.frozen?_alloc_old _ _ ⟨t, 0, none⟩ (Nat.ne_of_lt htl)]; exact hf0)
  have HT := Lib.hid ht
  have HB := Lib.hid hb
  clear ht hb
  go_enter Tryd.func40, Tryd.ntmps40
  go_wp2
  refine wp_loop_rounds 2 ?_
  rw [rounds_succ]
  go_wp2_with fail
  refine (Unwrap_any b at_ n _ (by rw [heap_alloc_lt (by simp; omega), heap_alloc_lt (by simp; omega), heap_alloc_lt hbl]; exact HB.out)).mono ?_
  rintro e w' ⟨rfl, rfl⟩
  go_wp2
  rw [rounds_succ]
  go_wp2
  go_ret
  refine ⟨rfl, ?_, ?_⟩
  · rw [heap_setCell (c := #[old]) (t := 38) (fz := (0, 0)) (by rw [heap_alloc_lt (by simp; omega), heap_alloc_lt (by simp; omega), heap_alloc_lt (by simp; omega), heap_alloc_lt htl]; exact HT.out)]
    rfl
  · exact (((((Chg.refl _ _).alloc _).alloc _).alloc _).alloc _).setCell _ _ (.inl (by simp))
end Go.Proofs.YtgjlgamlmmjdpaaDoor
/- From a law's walk to its row and its card: what all laws of the seat share. After the guide's Derived/Test/ToyasProofs.lean and ToyasCard.lean. -/
namespace Go.Proofs.YtgjlgamlmmjdpaaDoor
open Go.ChangeShapes Go.WideShapes Go.RowKit

theorem Tryd.own : ownKnob Tryd.prog.godebug = none := by kernel_rfl
theorem Tryd.laidOut : laidOutB Tryd.prog = true := by kernel_rfl
theorem Tryd.et : Tryd.prog.globalNamed "errors.errorType" = some 0 := by kernel_rfl
theorem Tryd.rt : (Tryd.prog.cutTypes.find? (·.1 == "internal/reflectlite.rtype")).map (·.2) = some 139 := by kernel_rfl
theorem Tryd.tsize : Tryd.prog.types.size = 187 := by kernel_rfl
theorem Tryd.oneRow : ((List.range 187).filter fun t => Tryd.prog.rowNamed t [101, 114, 114, 111, 114]) = [84] := by kernel_rfl
theorem Tryd.underU8 : Tryd.prog.underlying 5 = some (.int .u8) := Tryd.underlying5

/-- What the row's condition on errors.errorType gives a walk: the variable's one cell. -/
theorem env_of_laid {W : World} (h : laidMetH Tryd.prog [("errors.errorType", Rows.laid_errors_errorType)] W) : Env W := by
  have h' : laidMet Tryd.prog [] W ∧ handlesMet Tryd.prog [("errors.errorType", Rows.laid_errors_errorType)] W := h
  obtain ⟨name, u, ty, e1, e2, e3, e4, e5⟩ := h'.2 _ (List.mem_singleton.2 rfl)
  have en : name = [101, 114, 114, 111, 114] := (Option.some.inj e1).symm
  subst en
  obtain rfl := Option.some.inj (Tryd.rt.symm.trans e2)
  have hm : ty ∈ (List.range 187).filter fun t => Tryd.prog.rowNamed t [101, 114, 114, 111, 114] := List.mem_filter.2 ⟨List.mem_range.2 (by rw [← Tryd.tsize]; exact e3), e4⟩
  rw [Tryd.oneRow] at hm
  obtain rfl := List.mem_singleton.1 hm
  have hh : typeHandle Tryd.prog 84 = .pointer (some ⟨2, 84, none⟩) := by kernel_rfl
  rw [hh] at e5
  show W.cell? _ = _
  simpa using World.var?_cell Tryd.et e5 0

/-- A world that meets the condition: the settled one, the variable's cell laid. -/
noncomputable def laidWorld (os : Os) : World :=
  let w0 := World.holding Tryd.prog os ⟨#[], #[], []⟩
  { w0 with heap := w0.heap.modify 0 fun
      | .cells _ t frozen => .cells #[.iface 139 (.agg #[.pointer (some ⟨2, 84, none⟩)])] t frozen
      | o => o }
theorem laidWorld_met (os : Os) (args : Array Value) : laidMetH Tryd.prog [("errors.errorType", Rows.laid_errors_errorType)] ((laidWorld os).forCall (fun _ _ => 0) ⟨#[], args, []⟩).memory :=
  laidMetH_of_parts (laidMet_nil _ _) (by kernel_rfl)

/-- All arguments read as they did. -/
theorem trodAll_below {H : Type} {enc : TypeId × Value → H} {W W' : World} : ∀ {ts : List TypeId} {vs : List Value} {ds : List (DataW H)} {ps : List MemPlace},
    DataW.TrodAll enc Tryd.prog W 0 (fun _ => true) true ts vs ds ps → (∀ t ∈ ts, Tryd.prog.readableRec t = true ∧ t < Tryd.prog.types.size) → Below W.heap.size W W' →
    DataW.TrodAll enc Tryd.prog W' 0 (fun b => decide (b < W.heap.size)) true ts vs ds ps
  | [], vs, ds, ps, h, _, _ => by
    obtain ⟨rfl, rfl, rfl⟩ := trodAll_nil h
    exact trodAll_mk0
  | t :: ts, vs, ds, ps, h, ht, hb => by
    obtain ⟨v0, vs0, d0, ds0, p0, q0, rfl, rfl, rfl, h0, r0⟩ := trodAll_cons h
    have k0 := h0
    have lt0 : ∀ x ∈ p0, x.block < W.heap.size := by obtain ⟨m, hm⟩ := k0; exact DataW.trod_lt m _ _ _ hm
    exact trodAll_cons_mk (Below.trod Tryd.laidOut (ht t (List.mem_cons_self ..)).1 (ht t (List.mem_cons_self ..)).2 h0 hb lt0) (trodAll_below r0 (fun t' h' => ht t' (List.mem_cons_of_mem _ h')) hb)

/-- What a slice of integers that came in reads as. -/
theorem open_row {H : Type} {enc : TypeId × Value → H} {K : IntKind} {T E : TypeId} {W : World} {a : Option Addr} {len cap : Nat} {d : DataW H} {ps : List MemPlace} (hu : Tryd.prog.underlying T = some (.slice E)) (he : Tryd.prog.underlying E = some (.int K)) (hc : Tryd.prog.cellsOf E = 1)
    (h : DataW.Trod enc Tryd.prog W 0 (fun _ => true) true T (.slice a len cap) d ps) :
    ∃ zs : List Int, zs.length = len ∧ Rd W (.slice a len cap) (zs.map (Value.int K)) ∧ ∀ n ∈ zs, (Lit.int K n).wf = true := by
  obtain ⟨fuel, hf⟩ := h
  rcases open_ints hu he hc hf with ⟨hcs, _⟩ | ⟨x, l, c, zs, hcs, _, hl, hm, hz, _, hcell, hwz⟩
  · simp [Value.cells] at hcs
    obtain ⟨rfl, rfl, rfl⟩ := hcs
    exact ⟨[], rfl, Rd.nil W, fun _ hm => by cases hm⟩
  · simp [Value.cells] at hcs
    obtain ⟨rfl, rfl, rfl⟩ := hcs
    have hz' : zs.length = cap := by simpa using hz
    refine ⟨zs.take len, by simp; omega, ?_, fun n hn => hwz n (List.mem_of_mem_take hn)⟩
    refine ⟨_, _, _, rfl, by simp; omega, hl, hm, fun hne => ?_⟩
    have hpos : 0 < len := by
      rcases Nat.eq_zero_or_pos len with h0 | h0
      · subst h0; simp at hne
      · exact h0
    obtain ⟨b, off, rfl, hc'⟩ := ints_at hcell (by omega)
    refine ⟨b, off, rfl, fun j hj => ?_⟩
    simp only [List.length_map, List.length_take] at hj
    rw [hc' j (by omega)]
    simp [show j < len by omega, show j < zs.length by omega]
/-- .. of bytes. -/
theorem open_bytes {H : Type} {enc : TypeId × Value → H} {T E : TypeId} {W : World} {a : Option Addr} {len cap : Nat} {d : DataW H} {ps : List MemPlace} (hu : Tryd.prog.underlying T = some (.slice E)) (he : Tryd.prog.underlying E = some (.int .u8)) (hc : Tryd.prog.cellsOf E = 1)
    (h : DataW.Trod enc Tryd.prog W 0 (fun _ => true) true T (.slice a len cap) d ps) :
    ∃ l : List UInt8, l.length = len ∧ Rd W (.slice a len cap) (bytesV l) := by
  obtain ⟨zs, hl, hr, hw⟩ := open_row hu he hc h
  refine ⟨zs.map fun n => UInt8.ofNat n.toNat, by simpa using hl, ?_⟩
  have e : bytesV (zs.map fun n => UInt8.ofNat n.toNat) = zs.map (Value.int .u8) := by
    unfold bytesV
    rw [List.map_map]
    refine List.map_congr_left fun n hn => ?_
    have hb := bounds_u8 (hw n hn)
    have : (UInt8.ofNat n.toNat).toNat = n.toNat := by simp; omega
    simp only [Function.comp, byteV, this, Int.toNat_of_nonneg hb.1]
  rw [e]
  exact hr
end Go.Proofs.YtgjlgamlmmjdpaaDoor
