/- Operations on whole records, as laws for the walk: boxed, loaded, stored, made. No program in sight. -/
import Derived.Test.YtgmlcmmphhmogaaLay
import Derived.Laws.Cells
namespace Go.Proofs.Ytgmlcmmphhmogaa
open Go.RowKit
set_option maxRecDepth 100000
namespace Lay
variable {α : Type} {L : Lay α} {P : Program} {T : TypeId}

def isRec : TypeDesc → Bool
  | .struct _ => true
  | _ => false
/-- What the program says of a record's type: it lies in as many cells, and what its zero is. -/
structure Ty (L : Lay α) (P : Program) (T : TypeId) : Prop where
  agg : ∃ fs, P.underlying T = some (.struct fs)
  info : ∃ i, P.info? T = some i ∧ i.size = L.n ∧ i.zero = some (.agg (L.f L.d).toArray)
theorem Ty.mk' (hu : (P.underlying T).map isRec = some true) (hi : (P.info? T).map (fun i => (i.zero, i.size)) = some (some (.agg (L.f L.d).toArray), L.n)) : Ty L P T := by
  constructor
  · cases h : P.underlying T with
    | none => rw [h] at hu; cases hu
    | some d =>
      cases d with
      | struct fs => exact ⟨fs, rfl⟩
      | _ => rw [h] at hu; cases hu
  · cases h : P.info? T with
    | none => rw [h] at hi; cases hi
    | some i =>
      rw [h] at hi
      simp only [Option.map_some, Option.some.injEq, Prod.mk.injEq] at hi
      exact ⟨i, rfl, hi.2, hi.1⟩
theorem run_isAgg (hT : Ty L P T) (w : World) : (isAgg T).run P w = .ok true w := by
  obtain ⟨fs, hu⟩ := hT.agg
  simp [isAgg, run_underlying hu]
theorem run_size (hT : Ty L P T) (w : World) : (sizeOf T).run P w = .ok L.n w := by
  obtain ⟨i, hi, hs, _⟩ := hT.info
  simp [sizeOf, typeInfo, hi, hs]
theorem run_zero (hT : Ty L P T) (w : World) : (zeroValue T).run P w = .ok (.agg (L.f L.d).toArray) w := by
  obtain ⟨i, hi, hs, hz⟩ := hT.info
  simp [zeroValue, typeInfo, hi, hz]
theorem run_load_rec (hT : Ty L P T) {w : World} {b o : Nat} {x : α} (h : L.In w b o x) : (loadVar T ⟨b, o, none⟩).run P w = .ok (.agg (L.f x).toArray) w := by
  have h1 := run_loadCells_list (P := P) w ⟨b, o, none⟩ (L.f x) (fun j v hv => by
    rw [addr_add]
    have hj : j < L.n := by have := (List.getElem?_eq_some_iff.1 hv).1; rw [L.len] at this; exact this
    rw [h j hj, hv])
  rw [L.len] at h1
  unfold loadVar
  simp [run_isAgg hT, run_size hT, h1]
theorem run_storeCells {g : Nat} : ∀ (us : List Value) (w : World) (o i : Nat), (∀ u ∈ us, u.oneCell' = true) → (∀ c, c < us.length → ∃ u, w.cell? ⟨g, o + i + c, none⟩ = some u) → (∀ j, w.frozen? ⟨g, j, none⟩ = false) →
    (storeCells ⟨g, o, none⟩ us i).run P w = .ok () (setW w g (o + i) us)
  | [], w, o, i, _, _, _ => by simp [storeCells, setW]
  | u :: r, w, o, i, h1, hc, hf => by
    obtain ⟨u0, hu0⟩ := hc 0 (by simp)
    rw [Nat.add_zero] at hu0
    have h1u := h1 u (List.mem_cons_self ..)
    have hst : (store ((⟨g, o, none⟩ : Addr).add i) u).run P w = .ok () (w.setCell ⟨g, o + i, none⟩ u) := by
      rw [addr_add, run_store P w _ u _ h1u]
      simp [hu0, hf]
    have ih := run_storeCells r (w.setCell ⟨g, o + i, none⟩ u) o (i + 1) (fun v hv => h1 v (List.mem_cons_of_mem _ hv)) (fun c hcl => by
      obtain ⟨v, hv⟩ := hc (c + 1) (by simpa using hcl)
      rw [show o + (i + 1) + c = o + i + (c + 1) by omega]
      exact cell?_setCell_some hv) (fun j => by simpa using hf j)
    unfold storeCells setW
    simp only [Sem.run_bind, hst, Result.andThen_ok]
    rw [ih, show o + (i + 1) = o + i + 1 by omega]
section
variable {ops : Array Oper} {rest : List Oper} {o : Oper} {a : Act} {Q : Exit → Act → World → Prop} {w : World}
/-- A record is loaded. -/
theorem ld (hT : Ty L P T) (hgd : o.guard = none) (s : Operand) (ho : o.op = .load T s) {b off : Nat} (hs : a.eval s = .pointer (some ⟨b, off, none⟩)) {x : α} (hx : L.In w b off x)
    (h : wpList P ops Q rest (a.put o.dst (.agg (L.f x).toArray)) w) : wpList P ops Q (o :: rest) a w := by
  refine wpList_plain hgd fun K hK => ?_
  unfold Oper.wp execOp
  simp only [ho, Instr.loadAt, Instr.sureAddr, Sem.run_bind, Sem.run_pure, hs, Result.andThen_ok, run_load_rec hT hx]
  exact hK _ _ h
/-- A record is boxed. -/
theorem bx (hgd : o.guard = none) (s : Operand) (ho : o.op = .box T s) {x : α} (hs : a.eval s = .agg (L.f x).toArray)
    (h : ∀ W b, b = w.heap.size → Chg [] w W → L.Box W b x → wpList P ops Q rest (a.put o.dst (.pointer (some ⟨b, 0, none⟩))) W) : wpList P ops Q (o :: rest) a w := by
  refine wpList_plain hgd fun K hK => ?_
  unfold Oper.wp execOp
  have := h _ _ rfl ((Chg.refl [] w).alloc _) (Box.of_alloc (L := L) w x T)
  simp [ho, Instr.box, hs, newVar, newRow, Value.cells]
  exact hK _ _ this
/-- A record is made. -/
theorem al (hT : Ty L P T) (hgd : o.guard = none) (ho : o.op = .alloc T)
    (h : ∀ W b, b = w.heap.size → Chg [] w W → L.Box W b L.d → wpList P ops Q rest (a.put o.dst (.pointer (some ⟨b, 0, none⟩))) W) : wpList P ops Q (o :: rest) a w := by
  refine wpList_plain hgd fun K hK => ?_
  unfold Oper.wp execOp
  have := h _ _ rfl ((Chg.refl [] w).alloc _) (Box.of_alloc (L := L) w L.d T)
  simp [ho, Instr.alloc, run_zero hT, newVar, newRow, Value.cells]
  exact hK _ _ this
/-- A record is stored. -/
theorem st (hT : Ty L P T) (hgd : o.guard = none) (p s : Operand) (ho : o.op = .store T p s) {b : Nat} (hp : a.eval p = .pointer (some ⟨b, 0, none⟩)) {x y : α} (hs : a.eval s = .agg (L.f x).toArray) (hb : L.Box w b y)
    (h : ∀ W, Chg [b] w W → L.Box W b x → wpList P ops Q rest (a.put o.dst undef) W) : wpList P ops Q (o :: rest) a w := by
  refine wpList_plain hgd fun K hK => ?_
  unfold Oper.wp execOp
  have := h _ (setW_chg b (L.f x) w 0) (hb.put x)
  have hr := run_storeCells (P := P) (g := b) (L.f x) w 0 0 (L.one x) (fun c hc => by
    have := hb.in c (by rw [← L.len x]; exact hc)
    rw [Nat.zero_add] at this ⊢
    rw [this]
    exact ⟨_, List.getElem?_eq_getElem (by rw [L.len]; rw [L.len] at hc; exact hc)⟩) hb.frozen
  simp [ho, Instr.storeAt, Instr.sureAddr, hp, hs, storeVar, run_size hT, Value.cells, L.len, hr]
  exact hK _ _ this
/-- The same at an operation that is written out. -/
theorem ldL (hT : Ty L P T) {d : Tmp} {s : Operand} {ty : TypeId} {pos : String} {after : Array Edge} {b off : Nat} (x : α) (hx : L.In w b off x) (hs : a.eval s = .pointer (some ⟨b, off, none⟩))
    (h : wpList P ops Q rest (a.put (some d) (.agg (L.f x).toArray)) w) : wpList P ops Q (⟨some d, .load T s, ty, pos, after, none⟩ :: rest) a w := ld hT rfl s rfl hs hx h
theorem bxL (T : TypeId) {d : Tmp} {s : Operand} {ty : TypeId} {pos : String} {after : Array Edge} (x : α) (hs : a.eval s = .agg (L.f x).toArray)
    (h : ∀ W b, b = w.heap.size → Chg [] w W → L.Box W b x → wpList P ops Q rest (a.put (some d) (.pointer (some ⟨b, 0, none⟩))) W) : wpList P ops Q (⟨some d, .box T s, ty, pos, after, none⟩ :: rest) a w := bx rfl s rfl hs h
theorem alL (hT : Ty L P T) {d : Tmp} {ty : TypeId} {pos : String} {after : Array Edge}
    (h : ∀ W b, b = w.heap.size → Chg [] w W → L.Box W b L.d → wpList P ops Q rest (a.put (some d) (.pointer (some ⟨b, 0, none⟩))) W) : wpList P ops Q (⟨some d, .alloc T, ty, pos, after, none⟩ :: rest) a w := al hT rfl rfl h
theorem stL (hT : Ty L P T) {p s : Operand} {ty : TypeId} {pos : String} {after : Array Edge} {b : Nat} {y : α} (x : α) (hb : L.Box w b y) (hp : a.eval p = .pointer (some ⟨b, 0, none⟩)) (hs : a.eval s = .agg (L.f x).toArray)
    (h : ∀ W, Chg [b] w W → L.Box W b x → wpList P ops Q rest a W) : wpList P ops Q (⟨none, .store T p s, ty, pos, after, none⟩ :: rest) a w := st hT rfl p s rfl hp hs hb h
end
/-- What a call hands back whose first result is a record in a block of its own. -/
theorem ret1 (hT : Ty L P T) {fn : Func} {t : Tmp} (hr : fn.results = #[.cell t T]) {R : Ending → World → Prop} {a : Act} {w : World} {b : Nat} {x : α} (hx : L.Box w b x) (ht : a.tmps.getD t undef = .pointer (some ⟨b, 0, none⟩)) (hd : a.defers = []) (hR : R (.returned (L.val x)) w) : bodyPost P fn R .ret a w := by
  have h2 : (loadVar T ⟨b, 0, none⟩).run P w = .ok (L.val x) w := run_load_rec hT hx.in
  rw [Array.getD_eq_getD_getElem?] at ht
  exact bodyPost_ret (v := L.val x) (by simp [results, hr, ht, asAddr, h2]) hd hR
theorem ret2 (hT : Ty L P T) {fn : Func} {t u : Tmp} (hr : fn.results = #[.cell t T, .tmp u]) {R : Ending → World → Prop} {a : Act} {w : World} {b : Nat} {x : α} (hx : L.Box w b x) (ht : a.tmps.getD t undef = .pointer (some ⟨b, 0, none⟩)) (hd : a.defers = []) (hR : R (.returned (.tuple #[L.val x, a.tmps.getD u undef])) w) : bodyPost P fn R .ret a w := by
  have h2 : (loadVar T ⟨b, 0, none⟩).run P w = .ok (L.val x) w := run_load_rec hT hx.in
  rw [Array.getD_eq_getD_getElem?] at ht
  exact bodyPost_ret (v := .tuple #[L.val x, a.tmps.getD u undef]) (by simp [results, hr, ht, asAddr, h2]) hd hR
theorem ret3 (hT : Ty L P T) {fn : Func} {t u r : Tmp} (hr : fn.results = #[.cell t T, .tmp u, .tmp r]) {R : Ending → World → Prop} {a : Act} {w : World} {b : Nat} {x : α} (hx : L.Box w b x) (ht : a.tmps.getD t undef = .pointer (some ⟨b, 0, none⟩)) (hd : a.defers = []) (hR : R (.returned (.tuple #[L.val x, a.tmps.getD u undef, a.tmps.getD r undef])) w) : bodyPost P fn R .ret a w := by
  have h2 : (loadVar T ⟨b, 0, none⟩).run P w = .ok (L.val x) w := run_load_rec hT hx.in
  rw [Array.getD_eq_getD_getElem?] at ht
  exact bodyPost_ret (v := .tuple #[L.val x, a.tmps.getD u undef, a.tmps.getD r undef]) (by simp [results, hr, ht, asAddr, h2]) hd hR
/-- A function value against nil. -/
theorem run_eql_func {P : Program} {T : TypeId} {x y : Array TypeId} {z : Bool} (hu : P.underlying T = some (.func x y z)) (W : World) :
    (binOp .eql T .nilFunc .nilFunc).run P W = .ok (.bool true) W ∧ (∀ f fi ca, (binOp .eql T (.func f fi ca) .nilFunc).run P W = .ok (.bool false) W) ∧ (binOp .neq T .nilFunc .nilFunc).run P W = .ok (.bool false) W ∧ ∀ f fi ca, (binOp .neq T (.func f fi ca) .nilFunc).run P W = .ok (.bool true) W := by
  have h1 : ∀ d : Nat, (Op.equalIn (d + 1) T .nilFunc .nilFunc).run P W = .ok true W := fun d => by simp [Op.equalIn, run_underlying hu]
  have h2 : ∀ (d : Nat) f fi ca, (Op.equalIn (d + 1) T (.func f fi ca) .nilFunc).run P W = .ok false W := fun d f fi ca => by simp [Op.equalIn, run_underlying hu]
  refine ⟨?_, fun f fi ca => ?_, ?_, fun f fi ca => ?_⟩ <;> simp only [binOp] <;> simp [Op.equal, Op.maxDepth, h1 9999, h2 9999]
end Lay
end Go.Proofs.Ytgmlcmmphhmogaa
