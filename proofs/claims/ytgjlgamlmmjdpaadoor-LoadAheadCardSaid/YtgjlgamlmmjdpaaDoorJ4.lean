/- Lemmas, laid together: part 4 of 38. Conditions: none but each lemma's own. -/
import Derived.Test.YtgjlgamlmmjdpaaDoorJ3
import Derived.MapKept
import Derived.Laws.Cells
import Derived.Maps.Own
/- Maps that a call makes, as functions from keys (Map.Is); made, an entry laid, looked up: laws for the walk. No program in sight. -/
namespace Go.Proofs.YtgjlgamlmmjdpaaDoor
open Go.RowKit Go.MapKept
set_option maxRecDepth 100000
namespace Map

/-- A kind of keys. -/
structure Key (κ : Type) where
  of : κ → Value
  d : TypeDesc
  key : ∀ k, IsKey d (of k)
  inj : ∀ a b, of a = of b → a = b
  all : ∀ v, IsKey d v → ∃ k, v = of k
def intK (q : IntKind) : Key Int := ⟨.int q, .int q, fun _ => rfl, fun a b h => by cases h; rfl, fun v h => by
  cases v with
  | int q' a => exact ⟨a, by rw [show q' = q from h]⟩
  | _ => exact h.elim⟩
def strK : Key ByteArray := ⟨.string, .string, fun _ => trivial, fun a b h => by cases h; rfl, fun v h => by
  cases v with
  | string s => exact ⟨s, rfl⟩
  | _ => exact h.elim⟩
variable {κ : Type} {K : Key κ}
/-- A block is a map that has just these entries. -/
def Is (K : Key κ) (w : World) (b : Nat) (f : κ → Option Value) : Prop :=
  ∃ es clock, w.heap[b]? = some (.map es clock) ∧ (∀ x ∈ es.toList, IsKey K.d x.key) ∧ (∀ (i j : Nat) (x y : MapEntry), es[i]? = some x → es[j]? = some y → x.key = y.key → i = j) ∧ ∀ k v, f k = some v ↔ ∃ e ∈ es.toList, e.key = K.of k ∧ e.val = v
theorem Is.frameS {w w' : World} {b : Nat} {f : κ → Option Value} (h : Is K w b f) {S : List Nat} (k : Chg S w w') (hn : b ∉ S) : Is K w' b f := by
  obtain ⟨es, clock, h1, h2⟩ := h
  exact ⟨es, clock, k.heap h1 hn, h2⟩
theorem Is.frame {w w' : World} {b : Nat} {f : κ → Option Value} (h : Is K w b f) (k : Chg [] w w') : Is K w' b f := h.frameS k (by simp)
theorem Is.lt {w : World} {b : Nat} {f : κ → Option Value} (h : Is K w b f) : b < w.heap.size := by
  obtain ⟨es, clock, h1, _⟩ := h
  exact lt_of_heap h1
theorem Is.congr {w : World} {b : Nat} {f g : κ → Option Value} (h : Is K w b f) (e : ∀ k, f k = g k) : Is K w b g := by
  have : f = g := funext e
  rwa [← this]
theorem Is.made (K : Key κ) (w : World) : Is K (w.alloc (.map #[] 0)) w.heap.size (fun _ => none) := ⟨#[], 0, heap_alloc_eq w _, by simp, by simp, by simp⟩
/-- An entry, laid. -/
def put [DecidableEq κ] (f : κ → Option Value) (k : κ) (v : Value) : κ → Option Value := fun j => if j = k then some v else f j
theorem Is.find {P : Program} {kt : TypeId} (hd : P.underlying kt = some K.d) {w : World} {es : Array MapEntry} {f : κ → Option Value} (hk : ∀ x ∈ es.toList, IsKey K.d x.key) (hf : ∀ k v, f k = some v ↔ ∃ e ∈ es.toList, e.key = K.of k ∧ e.val = v) (k : κ) :
    (f k = none ∧ (Instr.findKey kt (K.of k) es.toList).run P w = .ok none w ∧ ∀ x ∈ es.toList, x.key ≠ K.of k) ∨ ∃ j e, f k = some e.val ∧ (Instr.findKey kt (K.of k) es.toList).run P w = .ok (some (j, e.val)) w ∧ es[j]? = some e ∧ e.key = K.of k := by
  rcases findNow_spec (K.key k) es.toList 0 hk with ⟨h1, h2⟩ | ⟨j, e, h1, h2, h3⟩
  · refine .inl ⟨?_, run_findKey hd h1, h2⟩
    cases hfk : f k with
    | none => rfl
    | some v =>
      obtain ⟨e, he, hek, _⟩ := (hf k v).1 hfk
      exact absurd hek (h2 e he)
  · rw [Nat.zero_add] at h1
    rw [Array.getElem?_toList] at h2
    exact .inr ⟨j, e, (hf k e.val).2 ⟨e, Array.mem_toList_iff.2 (Array.mem_of_getElem? h2), h3, rfl⟩, run_findKey hd h1, h2, h3⟩
theorem run_put [DecidableEq κ] {P : Program} {T kt et : TypeId} (hT : P.underlying T = some (.map kt et)) (hd : P.underlying kt = some K.d) {w : World} {b : Nat} {f : κ → Option Value} (h : Is K w b f) (k : κ) (v : Value) :
    ∃ W, (Instr.mapUpdate T (.map (some b)) (K.of k) v).run P w = .ok () W ∧ Chg [b] w W ∧ Is K W b (put f k v) := by
  obtain ⟨es, clock, hb, hk, hnd, hf⟩ := h
  have hchg : ∀ o : Obj, Chg [b] w { w with heap := w.heap.setIfInBounds b o } := fun o => ⟨rfl, rfl, rfl, by simp, fun i _ hn => by
    simp only [List.mem_singleton] at hn
    exact (heap_set (o' := o) hb).2 i hn⟩
  rcases Is.find (P := P) (w := w) hd hk hf k with ⟨h1, h2, h3⟩ | ⟨j, e, h1, h2, h3, h4⟩
  · refine ⟨{ w with heap := w.heap.setIfInBounds b (.map (es.push { key := K.of k, val := v, born := clock }) (clock + 1)) }, ?_, hchg _, ?_⟩
    · simp [Instr.mapUpdate, run_underlying hT, MapKept.run_getObj_map hb, run_checkKey hd (K.key k), h2, run_setObj_map _ hb]
    · refine ⟨_, _, (heap_set hb).1, ?_, ?_, ?_⟩
      · intro x hx
        simp only [Array.toList_push, List.mem_append, List.mem_singleton] at hx
        rcases hx with hx | rfl
        · exact hk x hx
        · exact K.key k
      · intro i j x y hx hy hxy
        rw [Array.getElem?_push] at hx hy
        split at hx
        · cases hx
          split at hy
          · omega
          · exact absurd hxy.symm (h3 y (Array.mem_toList_iff.2 (Array.mem_of_getElem? hy)))
        · split at hy
          · cases hy
            exact absurd hxy (h3 x (Array.mem_toList_iff.2 (Array.mem_of_getElem? hx)))
          · exact hnd i j x y hx hy hxy
      · intro k' v'
        unfold put
        simp only [Array.toList_push, List.mem_append, List.mem_singleton]
        by_cases e : k' = k
        · subst e
          rw [if_pos rfl]
          constructor
          · intro hh; cases hh; exact ⟨_, .inr rfl, rfl, rfl⟩
          · rintro ⟨e, (he | rfl), hek, hev⟩
            · exact absurd hek (h3 e he)
            · simp only at hev; rw [hev]
        · rw [if_neg e, hf]
          constructor
          · rintro ⟨x, hx, h5⟩; exact ⟨x, .inl hx, h5⟩
          · rintro ⟨x, (hx | rfl), h5, h6⟩
            · exact ⟨x, hx, h5, h6⟩
            · exact absurd (K.inj _ _ h5).symm e
  · refine ⟨{ w with heap := w.heap.setIfInBounds b (.map (es.modify j fun e => { e with key := K.of k, val := v }) clock) }, ?_, hchg _, ?_⟩
    · have hks : (Instr.keyThatStays (K.of k) (K.of k)).run P w = .ok (K.of k) w := run_keyThatStays (K.key k)
      simp [Instr.mapUpdate, run_underlying hT, MapKept.run_getObj_map hb, run_checkKey hd (K.key k), h2, h3, h4, hks, run_setObj_map _ hb]
    · have hget : ∀ i, (es.modify j fun e => { e with key := K.of k, val := v })[i]? = if j = i then (es[i]?).map (fun e => { e with key := K.of k, val := v }) else es[i]? := fun i => Array.getElem?_modify
      refine ⟨_, _, (heap_set hb).1, ?_, ?_, ?_⟩
      · intro x hx
        obtain ⟨i, hi⟩ := Array.getElem?_of_mem (Array.mem_toList_iff.1 hx)
        rw [hget] at hi
        split at hi
        · cases he : es[i]? with
          | none => rw [he] at hi; cases hi
          | some y => rw [he] at hi; cases hi; exact K.key k
        · exact hk x (Array.mem_toList_iff.2 (Array.mem_of_getElem? hi))
      · have hkey : ∀ (i : Nat) (x : MapEntry), (es.modify j fun e => { e with key := K.of k, val := v })[i]? = some x → ∃ y : MapEntry, es[i]? = some y ∧ y.key = x.key := by
          intro i x hx
          rw [hget] at hx
          split at hx
          · rename_i hij
            subst hij
            rw [h3] at hx
            cases hx
            exact ⟨e, h3, h4⟩
          · exact ⟨x, hx, rfl⟩
        intro i i' x y hx hy hxy
        obtain ⟨x', hx', ex⟩ := hkey i x hx
        obtain ⟨y', hy', ey⟩ := hkey i' y hy
        exact hnd i i' x' y' hx' hy' (by rw [ex, ey, hxy])
      · intro k' v'
        unfold put
        by_cases ek : k' = k
        · subst ek
          rw [if_pos rfl]
          constructor
          · intro hh
            cases hh
            refine ⟨{ e with key := K.of k', val := v }, Array.mem_toList_iff.2 (Array.mem_of_getElem? (i := j) ?_), rfl, rfl⟩
            rw [hget, if_pos rfl, h3]
            rfl
          · rintro ⟨x, hx, hxk, hxv⟩
            obtain ⟨i, hi⟩ := Array.getElem?_of_mem (Array.mem_toList_iff.1 hx)
            rw [hget] at hi
            split at hi
            · rename_i hij
              subst hij
              rw [h3] at hi
              cases hi
              simp only at hxv
              rw [hxv]
            · rename_i hij
              exact absurd (hnd j i e x h3 hi (by rw [h4, hxk])) hij
        · rw [if_neg ek, hf]
          constructor
          · rintro ⟨x, hx, hxk, hxv⟩
            obtain ⟨i, hi⟩ := Array.getElem?_of_mem (Array.mem_toList_iff.1 hx)
            refine ⟨x, Array.mem_toList_iff.2 (Array.mem_of_getElem? (i := i) ?_), hxk, hxv⟩
            rw [hget, if_neg]
            · exact hi
            · rintro rfl
              rw [h3] at hi
              cases hi
              exact ek (K.inj _ _ (by rw [← hxk, h4]))
          · rintro ⟨x, hx, hxk, hxv⟩
            obtain ⟨i, hi⟩ := Array.getElem?_of_mem (Array.mem_toList_iff.1 hx)
            rw [hget] at hi
            split at hi
            · rename_i hij
              subst hij
              rw [h3] at hi
              cases hi
              exact absurd (K.inj _ _ hxk).symm ek
            · exact ⟨x, Array.mem_toList_iff.2 (Array.mem_of_getElem? hi), hxk, hxv⟩
/-- What is looked up: the entry, or the zero of the elements. -/
theorem run_get {P : Program} {T kt et : TypeId} (hT : P.underlying T = some (.map kt et)) (hd : P.underlying kt = some K.d) {w : World} {z : Value} (hz : (zeroValue et).run P w = .ok z w) {b : Nat} {f : κ → Option Value} (h : Is K w b f) (k : κ) :
    (Instr.lookup T (.map (some b)) (K.of k) false).run P w = .ok ((f k).getD z) w ∧ (Instr.lookup T (.map (some b)) (K.of k) true).run P w = .ok (.tuple #[(f k).getD z, .bool (f k).isSome]) w := by
  obtain ⟨es, clock, hb, hk, hnd, hf⟩ := h
  rcases Is.find (P := P) (w := w) hd hk hf k with ⟨h1, h2, _⟩ | ⟨j, e, h1, h2, _, _⟩
  · rw [h1]
    simp [Instr.lookup, run_underlying hT, MapKept.run_getObj_map hb, run_checkKey hd (K.key k), h2, hz]
  · rw [h1]
    simp [Instr.lookup, run_underlying hT, MapKept.run_getObj_map hb, run_checkKey hd (K.key k), h2]
section
variable {P : Program} {T : TypeId} {ops : Array Oper} {rest : List Oper} {a : Act} {Q : Exit → Act → World → Prop} {w : World}
/-- A map is made. -/
theorem mkL (K : Key κ) (T : TypeId) {d : Tmp} {ty : TypeId} {pos : String} {after : Array Edge}
    (h : ∀ W b, b = w.heap.size → Chg [] w W → Is K W b (fun _ => none) → wpList P ops Q rest (a.put (some d) (.map (some b))) W) : wpList P ops Q (⟨some d, .makeMap T none, ty, pos, after, none⟩ :: rest) a w := by
  refine wpList_plain rfl fun J hJ => ?_
  unfold Oper.wp execOp
  have := h _ _ rfl ((Chg.refl [] w).alloc _) (Is.made K w)
  simp [Instr.makeMap]
  exact hJ _ _ this
/-- What the program says of a map's type. -/
structure Ty (K : Key κ) (P : Program) (T : TypeId) (z : Value) : Prop where
  m : ∃ kt et, P.underlying T = some (.map kt et) ∧ P.underlying kt = some K.d ∧ ∀ w, (zeroValue et).run P w = .ok z w
/-- An entry is laid (by a literal; by an assignment). -/
theorem insL [DecidableEq κ] {z : Value} (hT : Ty K P T z) {m k x : Operand} {ty : TypeId} {pos : String} {after : Array Edge} {b : Nat} {f : κ → Option Value} (hb : Is K w b f) (i : κ) (v : Value) (hm : a.eval m = .map (some b)) (hk : a.eval k = K.of i) (hv : a.eval x = v)
    (h : ∀ W, Chg [b] w W → Is K W b (put f i v) → wpList P ops Q rest a W) : wpList P ops Q (⟨none, .insert T m k x, ty, pos, after, none⟩ :: rest) a w := by
  refine wpList_plain rfl fun J hJ => ?_
  obtain ⟨kt, et, h1, h2, _⟩ := hT.m
  obtain ⟨W, hr, hc, hi⟩ := run_put h1 h2 hb i v
  unfold Oper.wp execOp
  simp [hm, hk, hv, hr]
  exact hJ _ _ (h W hc hi)
theorem setL [DecidableEq κ] {z : Value} (hT : Ty K P T z) {m k x : Operand} {ty : TypeId} {pos : String} {after : Array Edge} {b : Nat} {f : κ → Option Value} (hb : Is K w b f) (i : κ) (v : Value) (hm : a.eval m = .map (some b)) (hk : a.eval k = K.of i) (hv : a.eval x = v)
    (h : ∀ W, Chg [b] w W → Is K W b (put f i v) → wpList P ops Q rest a W) : wpList P ops Q (⟨none, .mapUpdate T m k x, ty, pos, after, none⟩ :: rest) a w := by
  refine wpList_plain rfl fun J hJ => ?_
  obtain ⟨kt, et, h1, h2, _⟩ := hT.m
  obtain ⟨W, hr, hc, hi⟩ := run_put h1 h2 hb i v
  unfold Oper.wp execOp
  simp [hm, hk, hv, hr]
  exact hJ _ _ (h W hc hi)
/-- An entry is looked up. -/
theorem getL {z : Value} (hT : Ty K P T z) {m k : Operand} {d : Tmp} {ty : TypeId} {pos : String} {after : Array Edge} {b : Nat} {f : κ → Option Value} (hb : Is K w b f) (i : κ) (hm : a.eval m = .map (some b)) (hk : a.eval k = K.of i)
    (h : wpList P ops Q rest (a.put (some d) ((f i).getD z)) w) : wpList P ops Q (⟨some d, .lookup T m k false, ty, pos, after, none⟩ :: rest) a w := by
  refine wpList_plain rfl fun J hJ => ?_
  obtain ⟨kt, et, h1, h2, h3⟩ := hT.m
  have hr := (run_get h1 h2 (h3 w) hb i).1
  unfold Oper.wp execOp
  simp [hm, hk, hr]
  exact hJ _ _ h
theorem get2L {z : Value} (hT : Ty K P T z) {m k : Operand} {d : Tmp} {ty : TypeId} {pos : String} {after : Array Edge} {b : Nat} {f : κ → Option Value} (hb : Is K w b f) (i : κ) (hm : a.eval m = .map (some b)) (hk : a.eval k = K.of i)
    (h : wpList P ops Q rest (a.put (some d) (.tuple #[(f i).getD z, .bool (f i).isSome])) w) : wpList P ops Q (⟨some d, .lookup T m k true, ty, pos, after, none⟩ :: rest) a w := by
  refine wpList_plain rfl fun J hJ => ?_
  obtain ⟨kt, et, h1, h2, h3⟩ := hT.m
  have hr := (run_get h1 h2 (h3 w) hb i).2
  unfold Oper.wp execOp
  simp [hm, hk, hr]
  exact hJ _ _ h
end
end Map
end Go.Proofs.YtgjlgamlmmjdpaaDoor
/- Operations on whole records, as laws for the walk: boxed, loaded, stored, made. No program in sight. -/
namespace Go.Proofs.YtgjlgamlmmjdpaaDoor
open Go.RowKit
set_option maxRecDepth 100000
namespace Lay
variable {α : Type} {L : Lay α} {P : Program} {T : TypeId}

def isRec : TypeDesc → Bool
  | .struct _ => true
  | .array _ _ => true
  | _ => false
/-- What the program says of a record's type: it lies in as many cells, and what its zero is. -/
structure Ty (L : Lay α) (P : Program) (T : TypeId) : Prop where
  agg : (∃ fs, P.underlying T = some (.struct fs)) ∨ ∃ n e, P.underlying T = some (.array n e)
  info : ∃ i, P.info? T = some i ∧ i.size = L.n ∧ i.zero = some (.agg (L.f L.d).toArray)
theorem Ty.mk' (hu : (P.underlying T).map isRec = some true) (hi : (P.info? T).map (fun i => (i.zero, i.size)) = some (some (.agg (L.f L.d).toArray), L.n)) : Ty L P T := by
  constructor
  · cases h : P.underlying T with
    | none => rw [h] at hu; cases hu
    | some d =>
      cases d with
      | struct fs => exact .inl ⟨fs, rfl⟩
      | array n e => exact .inr ⟨n, e, rfl⟩
      | _ => rw [h] at hu; cases hu
  · cases h : P.info? T with
    | none => rw [h] at hi; cases hi
    | some i =>
      rw [h] at hi
      simp only [Option.map_some, Option.some.injEq, Prod.mk.injEq] at hi
      exact ⟨i, rfl, hi.2, hi.1⟩
theorem run_isAgg (hT : Ty L P T) (w : World) : (isAgg T).run P w = .ok true w := by
  rcases hT.agg with ⟨fs, hu⟩ | ⟨n, e, hu⟩ <;> simp [isAgg, run_underlying hu]
theorem run_size (hT : Ty L P T) (w : World) : (sizeOf T).run P w = .ok L.n w := by
  obtain ⟨i, hi, hs, _⟩ := hT.info
  simp [sizeOf, typeInfo, hi, hs]
theorem run_zero (hT : Ty L P T) (w : World) : (zeroValue T).run P w = .ok (.agg (L.f L.d).toArray) w := by
  obtain ⟨i, hi, hs, hz⟩ := hT.info
  simp [zeroValue, typeInfo, hi, hz]
theorem run_load_rec (hT : Ty L P T) {w : World} {b o : Nat} {x : α} (h : L.In w b o x) : (loadVar T ⟨b, o, none⟩).run P w = .ok (.agg (L.f x).toArray) w := by
  have h1 := run_loadCells_list (P := P) w ⟨b, o, none⟩ (L.f x) (fun j v hv => by
    rw [addr_add]
    have hj : j < L.n := by have := (List.getElem?_eq_some_iff.1 hv).1; rw [L.len] at this; exact this
    rw [h j hj, hv])
  rw [L.len] at h1
  unfold loadVar
  simp [run_isAgg hT, run_size hT, h1]
theorem run_storeCells {g : Nat} : ∀ (us : List Value) (w : World) (o i : Nat), (∀ u ∈ us, u.oneCell' = true) → (∀ c, c < us.length → ∃ u, w.cell? ⟨g, o + i + c, none⟩ = some u) → (∀ j, w.frozen? ⟨g, j, none⟩ = false) →
    (storeCells ⟨g, o, none⟩ us i).run P w = .ok () (setW w g (o + i) us)
  | [], w, o, i, _, _, _ => by simp [storeCells, setW]
  | u :: r, w, o, i, h1, hc, hf => by
    obtain ⟨u0, hu0⟩ := hc 0 (by simp)
    rw [Nat.add_zero] at hu0
    have h1u := h1 u (List.mem_cons_self ..)
    have hst : (store ((⟨g, o, none⟩ : Addr).add i) u).run P w = .ok () (w.setCell ⟨g, o + i, none⟩ u) := by
      rw [addr_add, run_store P w _ u _ h1u]
      simp [hu0, hf]
    have ih := run_storeCells r (w.setCell ⟨g, o + i, none⟩ u) o (i + 1) (fun v hv => h1 v (List.mem_cons_of_mem _ hv)) (fun c hcl => by
      obtain ⟨v, hv⟩ := hc (c + 1) (by simpa using hcl)
      rw [show o + (i + 1) + c = o + i + (c + 1) by omega]
      exact cell?_setCell_some hv) (fun j => by simpa using hf j)
    unfold storeCells setW
    simp only [Sem.run_bind, hst, Result.andThen_ok]
    rw [ih, show o + (i + 1) = o + i + 1 by omega]
section
variable {ops : Array Oper} {rest : List Oper} {o : Oper} {a : Act} {Q : Exit → Act → World → Prop} {w : World}
/-- A record is loaded. -/
theorem ld (hT : Ty L P T) (hgd : o.guard = none) (s : Operand) (ho : o.op = .load T s) {b off : Nat} (hs : a.eval s = .pointer (some ⟨b, off, none⟩)) {x : α} (hx : L.In w b off x)
    (h : wpList P ops Q rest (a.put o.dst (.agg (L.f x).toArray)) w) : wpList P ops Q (o :: rest) a w := by
  refine wpList_plain hgd fun K hK => ?_
  unfold Oper.wp execOp
  simp only [ho, Instr.loadAt, Instr.sureAddr, Sem.run_bind, Sem.run_pure, hs, Result.andThen_ok, run_load_rec hT hx]
  exact hK _ _ h
/-- A record is boxed. -/
theorem bx (hgd : o.guard = none) (s : Operand) (ho : o.op = .box T s) {x : α} (hs : a.eval s = .agg (L.f x).toArray)
    (h : ∀ W b, b = w.heap.size → Chg [] w W → L.Box W b x → wpList P ops Q rest (a.put o.dst (.pointer (some ⟨b, 0, none⟩))) W) : wpList P ops Q (o :: rest) a w := by
  refine wpList_plain hgd fun K hK => ?_
  unfold Oper.wp execOp
  have := h _ _ rfl ((Chg.refl [] w).alloc _) (Box.of_alloc (L := L) w x T)
  simp [ho, Instr.box, hs, newVar, newRow, Value.cells]
  exact hK _ _ this
/-- A record is made. -/
theorem al (hT : Ty L P T) (hgd : o.guard = none) (ho : o.op = .alloc T)
    (h : ∀ W b, b = w.heap.size → Chg [] w W → L.Box W b L.d → wpList P ops Q rest (a.put o.dst (.pointer (some ⟨b, 0, none⟩))) W) : wpList P ops Q (o :: rest) a w := by
  refine wpList_plain hgd fun K hK => ?_
  unfold Oper.wp execOp
  have := h _ _ rfl ((Chg.refl [] w).alloc _) (Box.of_alloc (L := L) w L.d T)
  simp [ho, Instr.alloc, run_zero hT, newVar, newRow, Value.cells]
  exact hK _ _ this
/-- A record is stored. -/
theorem st (hT : Ty L P T) (hgd : o.guard = none) (p s : Operand) (ho : o.op = .store T p s) {b : Nat} (hp : a.eval p = .pointer (some ⟨b, 0, none⟩)) {x y : α} (hs : a.eval s = .agg (L.f x).toArray) (hb : L.Box w b y)
    (h : ∀ W, Chg [b] w W → L.Box W b x → wpList P ops Q rest (a.put o.dst undef) W) : wpList P ops Q (o :: rest) a w := by
  refine wpList_plain hgd fun K hK => ?_
  unfold Oper.wp execOp
  have := h _ (setW_chg b (L.f x) w 0) (hb.put x)
  have hr := run_storeCells (P := P) (g := b) (L.f x) w 0 0 (L.one x) (fun c hc => by
    have := hb.in c (by rw [← L.len x]; exact hc)
    rw [Nat.zero_add] at this ⊢
    rw [this]
    exact ⟨_, List.getElem?_eq_getElem (by rw [L.len]; rw [L.len] at hc; exact hc)⟩) hb.frozen
  simp [ho, Instr.storeAt, Instr.sureAddr, hp, hs, storeVar, run_size hT, Value.cells, L.len, hr]
  exact hK _ _ this
/-- The same at an operation that is written out. -/
theorem ldL (hT : Ty L P T) {d : Tmp} {s : Operand} {ty : TypeId} {pos : String} {after : Array Edge} {b off : Nat} (x : α) (hx : L.In w b off x) (hs : a.eval s = .pointer (some ⟨b, off, none⟩))
    (h : wpList P ops Q rest (a.put (some d) (.agg (L.f x).toArray)) w) : wpList P ops Q (⟨some d, .load T s, ty, pos, after, none⟩ :: rest) a w := ld hT rfl s rfl hs hx h
theorem bxL (T : TypeId) {d : Tmp} {s : Operand} {ty : TypeId} {pos : String} {after : Array Edge} (x : α) (hs : a.eval s = .agg (L.f x).toArray)
    (h : ∀ W b, b = w.heap.size → Chg [] w W → L.Box W b x → wpList P ops Q rest (a.put (some d) (.pointer (some ⟨b, 0, none⟩))) W) : wpList P ops Q (⟨some d, .box T s, ty, pos, after, none⟩ :: rest) a w := bx rfl s rfl hs h
theorem alL (hT : Ty L P T) {d : Tmp} {ty : TypeId} {pos : String} {after : Array Edge}
    (h : ∀ W b, b = w.heap.size → Chg [] w W → L.Box W b L.d → wpList P ops Q rest (a.put (some d) (.pointer (some ⟨b, 0, none⟩))) W) : wpList P ops Q (⟨some d, .alloc T, ty, pos, after, none⟩ :: rest) a w := al hT rfl rfl h
theorem stL (hT : Ty L P T) {p s : Operand} {ty : TypeId} {pos : String} {after : Array Edge} {b : Nat} {y : α} (x : α) (hb : L.Box w b y) (hp : a.eval p = .pointer (some ⟨b, 0, none⟩)) (hs : a.eval s = .agg (L.f x).toArray)
    (h : ∀ W, Chg [b] w W → L.Box W b x → wpList P ops Q rest a W) : wpList P ops Q (⟨none, .store T p s, ty, pos, after, none⟩ :: rest) a w := st hT rfl p s rfl hp hs hb h
end
/-- What a call hands back whose first result is a record in a block of its own. -/
theorem ret1 (hT : Ty L P T) {fn : Func} {t : Tmp} (hr : fn.results = #[.cell t T]) {R : Ending → World → Prop} {a : Act} {w : World} {b : Nat} {x : α} (hx : L.Box w b x) (ht : a.tmps.getD t undef = .pointer (some ⟨b, 0, none⟩)) (hd : a.defers = []) (hR : R (.returned (L.val x)) w) : bodyPost P fn R .ret a w := by
  have h2 : (loadVar T ⟨b, 0, none⟩).run P w = .ok (L.val x) w := run_load_rec hT hx.in
  rw [Array.getD_eq_getD_getElem?] at ht
  exact bodyPost_ret (v := L.val x) (by simp [results, hr, ht, asAddr, h2]) hd hR
theorem ret2 (hT : Ty L P T) {fn : Func} {t u : Tmp} (hr : fn.results = #[.cell t T, .tmp u]) {R : Ending → World → Prop} {a : Act} {w : World} {b : Nat} {x : α} (hx : L.Box w b x) (ht : a.tmps.getD t undef = .pointer (some ⟨b, 0, none⟩)) (hd : a.defers = []) (hR : R (.returned (.tuple #[L.val x, a.tmps.getD u undef])) w) : bodyPost P fn R .ret a w := by
  have h2 : (loadVar T ⟨b, 0, none⟩).run P w = .ok (L.val x) w := run_load_rec hT hx.in
  rw [Array.getD_eq_getD_getElem?] at ht
  exact bodyPost_ret (v := .tuple #[L.val x, a.tmps.getD u undef]) (by simp [results, hr, ht, asAddr, h2]) hd hR
theorem ret3 (hT : Ty L P T) {fn : Func} {t u r : Tmp} (hr : fn.results = #[.cell t T, .tmp u, .tmp r]) {R : Ending → World → Prop} {a : Act} {w : World} {b : Nat} {x : α} (hx : L.Box w b x) (ht : a.tmps.getD t undef = .pointer (some ⟨b, 0, none⟩)) (hd : a.defers = []) (hR : R (.returned (.tuple #[L.val x, a.tmps.getD u undef, a.tmps.getD r undef])) w) : bodyPost P fn R .ret a w := by
  have h2 : (loadVar T ⟨b, 0, none⟩).run P w = .ok (L.val x) w := run_load_rec hT hx.in
  rw [Array.getD_eq_getD_getElem?] at ht
  exact bodyPost_ret (v := .tuple #[L.val x, a.tmps.getD u undef, a.tmps.getD r undef]) (by simp [results, hr, ht, asAddr, h2]) hd hR
/-- A function value against nil. -/
theorem run_eql_func {P : Program} {T : TypeId} {x y : Array TypeId} {z : Bool} (hu : P.underlying T = some (.func x y z)) (W : World) :
    (binOp .eql T .nilFunc .nilFunc).run P W = .ok (.bool true) W ∧ (∀ f fi ca, (binOp .eql T (.func f fi ca) .nilFunc).run P W = .ok (.bool false) W) ∧ (binOp .neq T .nilFunc .nilFunc).run P W = .ok (.bool false) W ∧ ∀ f fi ca, (binOp .neq T (.func f fi ca) .nilFunc).run P W = .ok (.bool true) W := by
  have h1 : ∀ d : Nat, (Op.equalIn (d + 1) T .nilFunc .nilFunc).run P W = .ok true W := fun d => by simp [Op.equalIn, run_underlying hu]
  have h2 : ∀ (d : Nat) f fi ca, (Op.equalIn (d + 1) T (.func f fi ca) .nilFunc).run P W = .ok false W := fun d f fi ca => by simp [Op.equalIn, run_underlying hu]
  refine ⟨?_, fun f fi ca => ?_, ?_, fun f fi ca => ?_⟩ <;> simp only [binOp] <;> simp [Op.equal, Op.maxDepth, h1 9999, h2 9999]
end Lay
end Go.Proofs.YtgjlgamlmmjdpaaDoor
