/- Lemmas, laid together: part 14 of 39. Conditions: none but each lemma's own. -/
import Derived.Test.YtppbcgffdpdklaaGreatDoorJ13
import Derived.MapKept
import Derived.Test.YtppbcgffdpdklaaGreatDoorJ5
/- Fixups as records of XLay; a record stored at a place; append of a make to nothing; the map of places. -/
namespace Go.Proofs.YtppbcgffdpdklaaGreatDoor
open Go.RowKit Go.MapKept
set_option maxRecDepth 100000

def fxl : Lay Fx := ⟨7, Fx.cells, Fx.zero, fun _ => rfl, by decide, fun x u hu => by
  simp only [Fx.cells, List.mem_cons, List.not_mem_nil, or_false] at hu
  rcases hu with rfl | rfl | rfl | rfl | rfl | rfl | rfl <;> rfl⟩
theorem Tryz.tFx : Lay.Ty fxl Tryz.prog 43 := Lay.Ty.mk' (by kernel_rfl) (by kernel_rfl)
theorem Tryz.infoFxL : Lay.Info Tryz.prog 36 43 fxl.n 64 := Lay.Info.mk' (z := .agg #[.int .u64 0, .int .i64 0, .int .u64 0, .int .i64 0, .string ⟨#[]⟩, .int .i64 0, .bool false]) (by kernel_rfl) (by kernel_rfl) rfl
theorem fx_toL {w : World} {v : Value} {ls : List Fx} (h : FxRd w v ls) : fxl.Rd w v ls := h
theorem fx_ofL {w : World} {v : Value} {ls : List Fx} (h : fxl.Rd w v ls) : FxRd w v ls := h
abbrev FB (w : World) (base : Nat) (v : Value) (ls : List Fx) : Prop := fxl.Buf 43 w base v ls
theorem fb_of {w : World} {base : Nat} {v : Value} {ls : List Fx} (h : FxBuf w base v ls) : FB w base v ls := h
theorem fx_val (f : Fx) : fxl.val f = f.v := rfl
section
variable {α : Type} {L : Lay α} {P : Program} {T : TypeId} {ops : Array Oper} {rest : List Oper} {a : Act} {Q : Exit → Act → World → Prop} {w : World}
/-- A record is stored where one stands. -/
theorem stIn (hT : Lay.Ty L P T) {p s : Operand} {ty : TypeId} {pos : String} {after : Array Edge} {b off : Nat} {y : α} (x : α) (hb : L.In w b off y) (hf : ∀ j, w.frozen? ⟨b, j, none⟩ = false) (hp : a.eval p = .pointer (some ⟨b, off, none⟩)) (hs : a.eval s = .agg (L.f x).toArray)
    (h : ∀ W, W = Lay.setW w b off (L.f x) → wpList P ops Q rest a W) : wpList P ops Q (⟨none, .store T p s, ty, pos, after, none⟩ :: rest) a w := by
  refine wpList_plain rfl fun K hK => ?_
  unfold Oper.wp execOp
  have := h _ rfl
  have hr := Lay.run_storeCells (P := P) (g := b) (L.f x) w off 0 (L.one x) (fun c hc => by
    rw [Nat.add_zero]
    have := hb c (by rw [← L.len x]; exact hc)
    rw [this]
    exact ⟨_, List.getElem?_eq_getElem (by rw [L.len]; rw [L.len] at hc; exact hc)⟩) hf
  simp [Instr.storeAt, Instr.sureAddr, hp, hs, storeVar, Lay.run_size hT, Value.cells, L.len, hr]
  exact hK _ _ this
/-- append([]T(nil), make([]T, m)...): a row of so many zeros. -/
theorem run_app_make {E tx ty : TypeId} {bytes : Nat} {K : IntKind} (hI : Lay.Info P T E L.n bytes) (hx : P.underlying tx = some (.int K)) (w : World) (m : Nat) (hm : 0 < m) (hle : m * bytes ≤ 140737488355328) (hle2 : m ≤ 140737488355328) :
    ∃ c w', (Builtin.append_ #[T, tx] ty #[.slice none 0 0, .int .i64 m]).run P w = .ok (.slice (some ⟨w.heap.size, 0, none⟩) m c) w' ∧ Chg [] w w' ∧ L.Buf E w' w.heap.size (.slice (some ⟨w.heap.size, 0, none⟩) 0 c) [] ∧ m ≤ c := by
  obtain ⟨i, z, hi, hz, hs, hby, hzc⟩ := hI.i
  have hwr : IntKind.i64.wrap (m : Int) = m := by rw [IntKind.wrap_i64]; omega
  have h0 : ¬ ((m : Int) < 0) := by omega
  have h48 : ¬ (281474976710656 < (m : Int) * (bytes : Int)) := by
    have : ((m * bytes : Nat) : Int) = (m : Int) * (bytes : Int) := Int.natCast_mul ..
    omega
  have ha : ∀ w : World, (asInt (.int .i64 (m : Int))).run P w = .ok (m : Int) w := fun _ => rfl
  have hne : ¬ m = 0 := by omega
  have h63 : ¬ (9223372036854775807 < (m : Int)) := by omega
  have hnx : ¬ (281474976710656 < Builtin.nextslicecap m 0 * bytes) := by rw [nextslicecap_zero hm]; omega
  have hpos := L.pos
  have hmn : ¬ (m = 0 ∨ L.n = 0) := by omega
  have hge := grownCap_ge w m 0 E
  have hcm : grownCap w m 0 E ≤ maxLen := grownCap_le_maxLen w m 0 E (by unfold maxLen; omega)
  simp [Builtin.append_, run_underlying hI.u, run_underlying hx, sizeOf, typeInfo, zeroValue, hi, hz, hs, hby, ha, hwr, h48, hne, h63, hnx, Question.forced, run_firstCells_none, newRow]
  rw [if_neg h0, if_neg (by rw [Nat.mul_eq_zero]; exact hmn)]
  have hsz : ∀ k, (Builtin.zeroCells z.cells k).size = k * L.n := fun k => by unfold Builtin.zeroCells; rw [Array.size_map, Array.size_range, hzc]
  refine ⟨_, _, rfl, ((Chg.refl _ _).drew).alloc _, ⟨Lay.vals_len [], .inr ⟨w.heap.size, _, _, rfl, Nat.le_refl _, heap_alloc_new w.drew _, Nat.zero_le _, hcm, ?_, by simp [Lay.vals]⟩⟩, hge⟩
  rw [Array.size_append, hsz, hsz, ← Nat.add_mul]
  congr 1
  unfold grownCap at hge
  omega
/-- The map of places: empty, or with one place. -/
def MP (w : World) (b : Nat) (at0 : Int) (on : Bool) : Prop := ∃ clock born, w.heap[b]? = some (.map (if on then #[{ key := .agg #[.int .u64 at0], val := .agg #[.bool true], born := born }] else #[]) clock)
end
end Go.Proofs.YtppbcgffdpdklaaGreatDoor
/- The reader of binds, a record. -/
namespace Go.Proofs.YtppbcgffdpdklaaGreatDoor
open Go.RowKit
set_option maxRecDepth 100000

structure Brd where
  c : Option Addr
  m : Img
  kind : Int
  imm : Int
  f : Fx
  is_ : Bool
  typ : Int
  out : SlV
  ended : Bool
def Brd.cells (r : Brd) : List Value := .pointer r.c :: (r.m.cells ++ (.int .i64 r.kind :: .int .u8 r.imm :: (r.f.cells ++ [.bool r.is_, .int .u8 r.typ, .slice r.out.a r.out.n r.out.cap, .bool r.ended])))
def Brd.zero : Brd := ⟨none, Img.zero, 0, 0, Fx.zero, false, 0, ⟨none, 0, 0⟩, false⟩
def brdL : Lay Brd := ⟨38, Brd.cells, Brd.zero, fun _ => rfl, by decide, fun x u hu => by
  simp only [Brd.cells, List.mem_cons, List.mem_append, List.not_mem_nil, or_false] at hu
  rcases hu with rfl | h | rfl | rfl | h | rfl | rfl | rfl | rfl
  · rfl
  · exact imgL.one x.m u h
  · rfl
  · rfl
  · exact fxl.one x.f u h
  · rfl
  · rfl
  · rfl
  · rfl⟩
theorem Brd.set_imm {w : World} {g : Nat} {r : Brd} (h : brdL.Box w g r) (x : Int) : brdL.Box (w.setCell ⟨g, 26, none⟩ (.int .u8 x)) g { r with imm := x } := Lay.Box.set h 26 _ _ rfl
theorem Brd.set_at {w : World} {g : Nat} {r : Brd} (h : brdL.Box w g r) (x : Int) : brdL.Box (w.setCell ⟨g, 27, none⟩ (.int .u64 x)) g { r with f := { r.f with at_ := x } } := Lay.Box.set h 27 _ _ rfl
theorem Brd.set_ord {w : World} {g : Nat} {r : Brd} (h : brdL.Box w g r) (x : Int) : brdL.Box (w.setCell ⟨g, 30, none⟩ (.int .i64 x)) g { r with f := { r.f with ord := x } } := Lay.Box.set h 30 _ _ rfl
theorem Brd.set_sym {w : World} {g : Nat} {r : Brd} (h : brdL.Box w g r) (x : ByteArray) : brdL.Box (w.setCell ⟨g, 31, none⟩ (.string x)) g { r with f := { r.f with sym := x } } := Lay.Box.set h 31 _ _ rfl
theorem Brd.set_add {w : World} {g : Nat} {r : Brd} (h : brdL.Box w g r) (x : Int) : brdL.Box (w.setCell ⟨g, 32, none⟩ (.int .i64 x)) g { r with f := { r.f with add := x } } := Lay.Box.set h 32 _ _ rfl
theorem Brd.set_weak {w : World} {g : Nat} {r : Brd} (h : brdL.Box w g r) (x : Bool) : brdL.Box (w.setCell ⟨g, 33, none⟩ (.bool x)) g { r with f := { r.f with weak := x } } := Lay.Box.set h 33 _ _ rfl
theorem Brd.set_is {w : World} {g : Nat} {r : Brd} (h : brdL.Box w g r) (x : Bool) : brdL.Box (w.setCell ⟨g, 34, none⟩ (.bool x)) g { r with is_ := x } := Lay.Box.set h 34 _ _ rfl
theorem Brd.set_typ {w : World} {g : Nat} {r : Brd} (h : brdL.Box w g r) (x : Int) : brdL.Box (w.setCell ⟨g, 35, none⟩ (.int .u8 x)) g { r with typ := x } := Lay.Box.set h 35 _ _ rfl
theorem Brd.set_out {w : World} {g : Nat} {r : Brd} (h : brdL.Box w g r) (x : SlV) : brdL.Box (w.setCell ⟨g, 36, none⟩ (.slice x.a x.n x.cap)) g { r with out := x } := Lay.Box.set h 36 _ _ rfl
theorem Brd.set_ended {w : World} {g : Nat} {r : Brd} (h : brdL.Box w g r) (x : Bool) : brdL.Box (w.setCell ⟨g, 37, none⟩ (.bool x)) g { r with ended := x } := Lay.Box.set h 37 _ _ rfl
theorem Brd.c_c {w : World} {b : Nat} {r : Brd} (h : brdL.Box w b r) : w.cell? ⟨b, 0, none⟩ = some (.pointer r.c) := by have := h.in 0 (by decide); rw [Nat.zero_add] at this; exact this
theorem Brd.c_kind {w : World} {b : Nat} {r : Brd} (h : brdL.Box w b r) : w.cell? ⟨b, 25, none⟩ = some (.int .i64 r.kind) := by have := h.in 25 (by decide); rw [Nat.zero_add] at this; exact this
theorem Brd.c_imm {w : World} {b : Nat} {r : Brd} (h : brdL.Box w b r) : w.cell? ⟨b, 26, none⟩ = some (.int .u8 r.imm) := by have := h.in 26 (by decide); rw [Nat.zero_add] at this; exact this
theorem Brd.c_at {w : World} {b : Nat} {r : Brd} (h : brdL.Box w b r) : w.cell? ⟨b, 27, none⟩ = some (.int .u64 r.f.at_) := by have := h.in 27 (by decide); rw [Nat.zero_add] at this; exact this
theorem Brd.c_ord {w : World} {b : Nat} {r : Brd} (h : brdL.Box w b r) : w.cell? ⟨b, 30, none⟩ = some (.int .i64 r.f.ord) := by have := h.in 30 (by decide); rw [Nat.zero_add] at this; exact this
theorem Brd.c_sym {w : World} {b : Nat} {r : Brd} (h : brdL.Box w b r) : w.cell? ⟨b, 31, none⟩ = some (.string r.f.sym) := by have := h.in 31 (by decide); rw [Nat.zero_add] at this; exact this
theorem Brd.c_weak {w : World} {b : Nat} {r : Brd} (h : brdL.Box w b r) : w.cell? ⟨b, 33, none⟩ = some (.bool r.f.weak) := by have := h.in 33 (by decide); rw [Nat.zero_add] at this; exact this
theorem Brd.c_is {w : World} {b : Nat} {r : Brd} (h : brdL.Box w b r) : w.cell? ⟨b, 34, none⟩ = some (.bool r.is_) := by have := h.in 34 (by decide); rw [Nat.zero_add] at this; exact this
theorem Brd.c_typ {w : World} {b : Nat} {r : Brd} (h : brdL.Box w b r) : w.cell? ⟨b, 35, none⟩ = some (.int .u8 r.typ) := by have := h.in 35 (by decide); rw [Nat.zero_add] at this; exact this
theorem Brd.c_out {w : World} {b : Nat} {r : Brd} (h : brdL.Box w b r) : w.cell? ⟨b, 36, none⟩ = some (.slice r.out.a r.out.n r.out.cap) := by have := h.in 36 (by decide); rw [Nat.zero_add] at this; exact this
theorem Brd.c_ended {w : World} {b : Nat} {r : Brd} (h : brdL.Box w b r) : w.cell? ⟨b, 37, none⟩ = some (.bool r.ended) := by have := h.in 37 (by decide); rw [Nat.zero_add] at this; exact this
theorem Brd.i_m {w : World} {b : Nat} {r : Brd} (h : brdL.Box w b r) : imgL.In w b 1 r.m := fun c hc => by
  have := h.in (1 + c) (by have : c < 24 := hc; show 1 + c < 38; omega)
  rw [Nat.zero_add] at this
  rw [this]
  have hl : r.m.cells.length = 24 := rfl
  show (.pointer r.c :: (r.m.cells ++ _) : List Value)[1 + c]? = r.m.cells[c]?
  rw [Nat.add_comm 1 c, List.getElem?_cons_succ, List.getElem?_append_left (by rw [hl]; exact hc)]
theorem Brd.i_f {w : World} {b : Nat} {r : Brd} (h : brdL.Box w b r) : fxl.In w b 27 r.f := fun c hc => by
  have hc7 : c < 7 := hc
  have := h.in (27 + c) (by show 27 + c < 38; omega)
  rw [Nat.zero_add] at this
  rw [this]
  match c, hc7 with
  | 0, _ => rfl
  | 1, _ => rfl
  | 2, _ => rfl
  | 3, _ => rfl
  | 4, _ => rfl
  | 5, _ => rfl
  | 6, _ => rfl
theorem Tryz.tBrd : Lay.Ty brdL Tryz.prog 54 := Lay.Ty.mk' (by kernel_rfl) (by kernel_rfl)
end Go.Proofs.YtppbcgffdpdklaaGreatDoor
