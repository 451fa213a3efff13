/- Lemmas, laid together: part 18 of 35. Conditions: none but each lemma's own. -/
import Derived.Test.YtlblcbgmmfjdjaaGreatDoorJ17
import Derived.Test.YtlblcbgmmfjdjaaGreatDoorJ6
import Derived.MapKept
/- Fixups as records of XLay; a record stored at a place; append of a make to nothing; the map of places. -/
namespace Go.Proofs.YtlblcbgmmfjdjaaGreatDoor
open Go.RowKit Go.MapKept
set_option maxRecDepth 100000

def fxl : Lay Fx := ⟨7, Fx.cells, Fx.zero, fun _ => rfl, by decide, fun x u hu => by
  simp only [Fx.cells, List.mem_cons, List.not_mem_nil, or_false] at hu
  rcases hu with rfl | rfl | rfl | rfl | rfl | rfl | rfl <;> rfl⟩
theorem Tryz.tFx : Lay.Ty fxl Tryz.prog 46 := Lay.Ty.mk' (by kernel_rfl) (by kernel_rfl)
theorem Tryz.infoFxL : Lay.Info Tryz.prog 36 46 fxl.n 64 := Lay.Info.mk' (z := .agg #[.int .u64 0, .int .i64 0, .int .u64 0, .int .i64 0, .string ⟨#[]⟩, .int .i64 0, .bool false]) (by kernel_rfl) (by kernel_rfl) rfl
theorem fx_toL {w : World} {v : Value} {ls : List Fx} (h : FxRd w v ls) : fxl.Rd w v ls := h
theorem fx_ofL {w : World} {v : Value} {ls : List Fx} (h : fxl.Rd w v ls) : FxRd w v ls := h
abbrev FB (w : World) (base : Nat) (v : Value) (ls : List Fx) : Prop := fxl.Buf 46 w base v ls
theorem fb_of {w : World} {base : Nat} {v : Value} {ls : List Fx} (h : FxBuf w base v ls) : FB w base v ls := h
theorem fx_val (f : Fx) : fxl.val f = f.v := rfl
section
variable {α : Type} {L : Lay α} {P : Program} {T : TypeId} {ops : Array Oper} {rest : List Oper} {a : Act} {Q : Exit → Act → World → Prop} {w : World}
/-- A record is stored where one stands. -/
theorem stIn (hT : Lay.Ty L P T) {p s : Operand} {ty : TypeId} {pos : String} {after : Array Edge} {b off : Nat} {y : α} (x : α) (hb : L.In w b off y) (hf : ∀ j, w.frozen? ⟨b, j, none⟩ = false) (hp : a.eval p = .pointer (some ⟨b, off, none⟩)) (hs : a.eval s = .agg (L.f x).toArray)
    (h : ∀ W, W = Lay.setW w b off (L.f x) → wpList P ops Q rest a W) : wpList P ops Q (⟨none, .store T p s, ty, pos, after, none⟩ :: rest) a w := by
  refine wpList_plain rfl fun K hK => ?_
  unfold Oper.wp execOp
  have := h _ rfl
  have hr := Lay.run_storeCells (P := P) (g := b) (L.f x) w off 0 (L.one x) (fun c hc => by
    rw [Nat.add_zero]
    have := hb c (by rw [← L.len x]; exact hc)
    rw [this]
    exact ⟨_, List.getElem?_eq_getElem (by rw [L.len]; rw [L.len] at hc; exact hc)⟩) hf
  simp [Instr.storeAt, Instr.sureAddr, hp, hs, storeVar, Lay.run_size hT, Value.cells, L.len, hr]
  exact hK _ _ this
/-- append([]T(nil), make([]T, m)...): a row of so many zeros. -/
theorem run_app_make {E tx ty : TypeId} {bytes : Nat} {K : IntKind} (hI : Lay.Info P T E L.n bytes) (hx : P.underlying tx = some (.int K)) (w : World) (m : Nat) (hm : 0 < m) (hle : m * bytes ≤ 140737488355328) (hle2 : m ≤ 140737488355328) :
    ∃ c w', (Builtin.append_ #[T, tx] ty #[.slice none 0 0, .int .i64 m]).run P w = .ok (.slice (some ⟨w.heap.size, 0, none⟩) m c) w' ∧ Chg [] w w' ∧ L.Buf E w' w.heap.size (.slice (some ⟨w.heap.size, 0, none⟩) 0 c) [] ∧ m ≤ c := by
  obtain ⟨i, z, hi, hz, hs, hby, hzc⟩ := hI.i
  have hwr : IntKind.i64.wrap (m : Int) = m := by rw [IntKind.wrap_i64]; omega
  have h0 : ¬ ((m : Int) < 0) := by omega
  have h48 : ¬ (281474976710656 < (m : Int) * (bytes : Int)) := by
    have : ((m * bytes : Nat) : Int) = (m : Int) * (bytes : Int) := Int.natCast_mul ..
    omega
  have ha : ∀ w : World, (asInt (.int .i64 (m : Int))).run P w = .ok (m : Int) w := fun _ => rfl
  have hne : ¬ m = 0 := by omega
  have h63 : ¬ (9223372036854775807 < (m : Int)) := by omega
  have hnx : ¬ (281474976710656 < Builtin.nextslicecap m 0 * bytes) := by rw [nextslicecap_zero hm]; omega
  have hpos := L.pos
  have hmn : ¬ (m = 0 ∨ L.n = 0) := by omega
  have hge := grownCap_ge w m 0 E
  have hcm : grownCap w m 0 E ≤ maxLen := grownCap_le_maxLen w m 0 E (by unfold maxLen; omega)
  simp [Builtin.append_, run_underlying hI.u, run_underlying hx, sizeOf, typeInfo, zeroValue, hi, hz, hs, hby, ha, hwr, h48, hne, h63, hnx, Question.forced, run_firstCells_none, newRow]
  rw [if_neg h0, if_neg (by rw [Nat.mul_eq_zero]; exact hmn)]
  have hsz : ∀ k, (Builtin.zeroCells z.cells k).size = k * L.n := fun k => by unfold Builtin.zeroCells; rw [Array.size_map, Array.size_range, hzc]
  refine ⟨_, _, rfl, ((Chg.refl _ _).drew).alloc _, ⟨Lay.vals_len [], .inr ⟨w.heap.size, _, _, rfl, Nat.le_refl _, heap_alloc_new w.drew _, Nat.zero_le _, hcm, ?_, by simp [Lay.vals]⟩⟩, hge⟩
  rw [Array.size_append, hsz, hsz, ← Nat.add_mul]
  congr 1
  unfold grownCap at hge
  omega
/-- The map of places: empty, or with one place. -/
def MP (w : World) (b : Nat) (at0 : Int) (on : Bool) : Prop := ∃ clock born, w.heap[b]? = some (.map (if on then #[{ key := .agg #[.int .u64 at0], val := .agg #[.bool true], born := born }] else #[]) clock)
end
end Go.Proofs.YtlblcbgmmfjdjaaGreatDoor
