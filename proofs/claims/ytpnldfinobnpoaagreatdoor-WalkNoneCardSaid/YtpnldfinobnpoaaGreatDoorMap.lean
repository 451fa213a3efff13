/- Maps that a call makes, as functions from keys (Map.Is); made, an entry laid, looked up: laws for the walk. No program in sight. -/
import Derived.Test.YtpnldfinobnpoaaGreatDoorLay
import Derived.MapKept
import Derived.Laws.Cells
import Derived.Maps.Own
namespace Go.Proofs.YtpnldfinobnpoaaGreatDoor
open Go.RowKit Go.MapKept
set_option maxRecDepth 100000
namespace Map

/-- A kind of keys. -/
structure Key (κ : Type) where
  of : κ → Value
  d : TypeDesc
  key : ∀ k, IsKey d (of k)
  inj : ∀ a b, of a = of b → a = b
  all : ∀ v, IsKey d v → ∃ k, v = of k
def intK (q : IntKind) : Key Int := ⟨.int q, .int q, fun _ => rfl, fun a b h => by cases h; rfl, fun v h => by
  cases v with
  | int q' a => exact ⟨a, by rw [show q' = q from h]⟩
  | _ => exact h.elim⟩
def strK : Key ByteArray := ⟨.string, .string, fun _ => trivial, fun a b h => by cases h; rfl, fun v h => by
  cases v with
  | string s => exact ⟨s, rfl⟩
  | _ => exact h.elim⟩
variable {κ : Type} {K : Key κ}
/-- A block is a map that has just these entries. -/
def Is (K : Key κ) (w : World) (b : Nat) (f : κ → Option Value) : Prop :=
  ∃ es clock, w.heap[b]? = some (.map es clock) ∧ (∀ x ∈ es.toList, IsKey K.d x.key) ∧ (∀ (i j : Nat) (x y : MapEntry), es[i]? = some x → es[j]? = some y → x.key = y.key → i = j) ∧ ∀ k v, f k = some v ↔ ∃ e ∈ es.toList, e.key = K.of k ∧ e.val = v
theorem Is.frameS {w w' : World} {b : Nat} {f : κ → Option Value} (h : Is K w b f) {S : List Nat} (k : Chg S w w') (hn : b ∉ S) : Is K w' b f := by
  obtain ⟨es, clock, h1, h2⟩ := h
  exact ⟨es, clock, k.heap h1 hn, h2⟩
theorem Is.frame {w w' : World} {b : Nat} {f : κ → Option Value} (h : Is K w b f) (k : Chg [] w w') : Is K w' b f := h.frameS k (by simp)
theorem Is.lt {w : World} {b : Nat} {f : κ → Option Value} (h : Is K w b f) : b < w.heap.size := by
  obtain ⟨es, clock, h1, _⟩ := h
  exact lt_of_heap h1
theorem Is.congr {w : World} {b : Nat} {f g : κ → Option Value} (h : Is K w b f) (e : ∀ k, f k = g k) : Is K w b g := by
  have : f = g := funext e
  rwa [← this]
theorem Is.made (K : Key κ) (w : World) : Is K (w.alloc (.map #[] 0)) w.heap.size (fun _ => none) := ⟨#[], 0, heap_alloc_eq w _, by simp, by simp, by simp⟩
/-- An entry, laid. -/
def put [DecidableEq κ] (f : κ → Option Value) (k : κ) (v : Value) : κ → Option Value := fun j => if j = k then some v else f j
theorem Is.find {P : Program} {kt : TypeId} (hd : P.underlying kt = some K.d) {w : World} {es : Array MapEntry} {f : κ → Option Value} (hk : ∀ x ∈ es.toList, IsKey K.d x.key) (hf : ∀ k v, f k = some v ↔ ∃ e ∈ es.toList, e.key = K.of k ∧ e.val = v) (k : κ) :
    (f k = none ∧ (Instr.findKey kt (K.of k) es.toList).run P w = .ok none w ∧ ∀ x ∈ es.toList, x.key ≠ K.of k) ∨ ∃ j e, f k = some e.val ∧ (Instr.findKey kt (K.of k) es.toList).run P w = .ok (some (j, e.val)) w ∧ es[j]? = some e ∧ e.key = K.of k := by
  rcases findNow_spec (K.key k) es.toList 0 hk with ⟨h1, h2⟩ | ⟨j, e, h1, h2, h3⟩
  · refine .inl ⟨?_, run_findKey hd h1, h2⟩
    cases hfk : f k with
    | none => rfl
    | some v =>
      obtain ⟨e, he, hek, _⟩ := (hf k v).1 hfk
      exact absurd hek (h2 e he)
  · rw [Nat.zero_add] at h1
    rw [Array.getElem?_toList] at h2
    exact .inr ⟨j, e, (hf k e.val).2 ⟨e, Array.mem_toList_iff.2 (Array.mem_of_getElem? h2), h3, rfl⟩, run_findKey hd h1, h2, h3⟩
theorem run_put [DecidableEq κ] {P : Program} {T kt et : TypeId} (hT : P.underlying T = some (.map kt et)) (hd : P.underlying kt = some K.d) {w : World} {b : Nat} {f : κ → Option Value} (h : Is K w b f) (k : κ) (v : Value) :
    ∃ W, (Instr.mapUpdate T (.map (some b)) (K.of k) v).run P w = .ok () W ∧ Chg [b] w W ∧ Is K W b (put f k v) := by
  obtain ⟨es, clock, hb, hk, hnd, hf⟩ := h
  have hchg : ∀ o : Obj, Chg [b] w { w with heap := w.heap.setIfInBounds b o } := fun o => ⟨rfl, rfl, rfl, by simp, fun i _ hn => by
    simp only [List.mem_singleton] at hn
    exact (heap_set (o' := o) hb).2 i hn⟩
  rcases Is.find (P := P) (w := w) hd hk hf k with ⟨h1, h2, h3⟩ | ⟨j, e, h1, h2, h3, h4⟩
  · refine ⟨{ w with heap := w.heap.setIfInBounds b (.map (es.push { key := K.of k, val := v, born := clock }) (clock + 1)) }, ?_, hchg _, ?_⟩
    · simp [Instr.mapUpdate, run_underlying hT, MapKept.run_getObj_map hb, run_checkKey hd (K.key k), h2, run_setObj_map _ hb]
    · refine ⟨_, _, (heap_set hb).1, ?_, ?_, ?_⟩
      · intro x hx
        simp only [Array.toList_push, List.mem_append, List.mem_singleton] at hx
        rcases hx with hx | rfl
        · exact hk x hx
        · exact K.key k
      · intro i j x y hx hy hxy
        rw [Array.getElem?_push] at hx hy
        split at hx
        · cases hx
          split at hy
          · omega
          · exact absurd hxy.symm (h3 y (Array.mem_toList_iff.2 (Array.mem_of_getElem? hy)))
        · split at hy
          · cases hy
            exact absurd hxy (h3 x (Array.mem_toList_iff.2 (Array.mem_of_getElem? hx)))
          · exact hnd i j x y hx hy hxy
      · intro k' v'
        unfold put
        simp only [Array.toList_push, List.mem_append, List.mem_singleton]
        by_cases e : k' = k
        · subst e
          rw [if_pos rfl]
          constructor
          · intro hh; cases hh; exact ⟨_, .inr rfl, rfl, rfl⟩
          · rintro ⟨e, (he | rfl), hek, hev⟩
            · exact absurd hek (h3 e he)
            · simp only at hev; rw [hev]
        · rw [if_neg e, hf]
          constructor
          · rintro ⟨x, hx, h5⟩; exact ⟨x, .inl hx, h5⟩
          · rintro ⟨x, (hx | rfl), h5, h6⟩
            · exact ⟨x, hx, h5, h6⟩
            · exact absurd (K.inj _ _ h5).symm e
  · refine ⟨{ w with heap := w.heap.setIfInBounds b (.map (es.modify j fun e => { e with key := K.of k, val := v }) clock) }, ?_, hchg _, ?_⟩
    · have hks : (Instr.keyThatStays (K.of k) (K.of k)).run P w = .ok (K.of k) w := run_keyThatStays (K.key k)
      simp [Instr.mapUpdate, run_underlying hT, MapKept.run_getObj_map hb, run_checkKey hd (K.key k), h2, h3, h4, hks, run_setObj_map _ hb]
    · have hget : ∀ i, (es.modify j fun e => { e with key := K.of k, val := v })[i]? = if j = i then (es[i]?).map (fun e => { e with key := K.of k, val := v }) else es[i]? := fun i => Array.getElem?_modify
      refine ⟨_, _, (heap_set hb).1, ?_, ?_, ?_⟩
      · intro x hx
        obtain ⟨i, hi⟩ := Array.getElem?_of_mem (Array.mem_toList_iff.1 hx)
        rw [hget] at hi
        split at hi
        · cases he : es[i]? with
          | none => rw [he] at hi; cases hi
          | some y => rw [he] at hi; cases hi; exact K.key k
        · exact hk x (Array.mem_toList_iff.2 (Array.mem_of_getElem? hi))
      · have hkey : ∀ (i : Nat) (x : MapEntry), (es.modify j fun e => { e with key := K.of k, val := v })[i]? = some x → ∃ y : MapEntry, es[i]? = some y ∧ y.key = x.key := by
          intro i x hx
          rw [hget] at hx
          split at hx
          · rename_i hij
            subst hij
            rw [h3] at hx
            cases hx
            exact ⟨e, h3, h4⟩
          · exact ⟨x, hx, rfl⟩
        intro i i' x y hx hy hxy
        obtain ⟨x', hx', ex⟩ := hkey i x hx
        obtain ⟨y', hy', ey⟩ := hkey i' y hy
        exact hnd i i' x' y' hx' hy' (by rw [ex, ey, hxy])
      · intro k' v'
        unfold put
        by_cases ek : k' = k
        · subst ek
          rw [if_pos rfl]
          constructor
          · intro hh
            cases hh
            refine ⟨{ e with key := K.of k', val := v }, Array.mem_toList_iff.2 (Array.mem_of_getElem? (i := j) ?_), rfl, rfl⟩
            rw [hget, if_pos rfl, h3]
            rfl
          · rintro ⟨x, hx, hxk, hxv⟩
            obtain ⟨i, hi⟩ := Array.getElem?_of_mem (Array.mem_toList_iff.1 hx)
            rw [hget] at hi
            split at hi
            · rename_i hij
              subst hij
              rw [h3] at hi
              cases hi
              simp only at hxv
              rw [hxv]
            · rename_i hij
              exact absurd (hnd j i e x h3 hi (by rw [h4, hxk])) hij
        · rw [if_neg ek, hf]
          constructor
          · rintro ⟨x, hx, hxk, hxv⟩
            obtain ⟨i, hi⟩ := Array.getElem?_of_mem (Array.mem_toList_iff.1 hx)
            refine ⟨x, Array.mem_toList_iff.2 (Array.mem_of_getElem? (i := i) ?_), hxk, hxv⟩
            rw [hget, if_neg]
            · exact hi
            · rintro rfl
              rw [h3] at hi
              cases hi
              exact ek (K.inj _ _ (by rw [← hxk, h4]))
          · rintro ⟨x, hx, hxk, hxv⟩
            obtain ⟨i, hi⟩ := Array.getElem?_of_mem (Array.mem_toList_iff.1 hx)
            rw [hget] at hi
            split at hi
            · rename_i hij
              subst hij
              rw [h3] at hi
              cases hi
              exact absurd (K.inj _ _ hxk).symm ek
            · exact ⟨x, Array.mem_toList_iff.2 (Array.mem_of_getElem? hi), hxk, hxv⟩
/-- What is looked up: the entry, or the zero of the elements. -/
theorem run_get {P : Program} {T kt et : TypeId} (hT : P.underlying T = some (.map kt et)) (hd : P.underlying kt = some K.d) {w : World} {z : Value} (hz : (zeroValue et).run P w = .ok z w) {b : Nat} {f : κ → Option Value} (h : Is K w b f) (k : κ) :
    (Instr.lookup T (.map (some b)) (K.of k) false).run P w = .ok ((f k).getD z) w ∧ (Instr.lookup T (.map (some b)) (K.of k) true).run P w = .ok (.tuple #[(f k).getD z, .bool (f k).isSome]) w := by
  obtain ⟨es, clock, hb, hk, hnd, hf⟩ := h
  rcases Is.find (P := P) (w := w) hd hk hf k with ⟨h1, h2, _⟩ | ⟨j, e, h1, h2, _, _⟩
  · rw [h1]
    simp [Instr.lookup, run_underlying hT, MapKept.run_getObj_map hb, run_checkKey hd (K.key k), h2, hz]
  · rw [h1]
    simp [Instr.lookup, run_underlying hT, MapKept.run_getObj_map hb, run_checkKey hd (K.key k), h2]
section
variable {P : Program} {T : TypeId} {ops : Array Oper} {rest : List Oper} {a : Act} {Q : Exit → Act → World → Prop} {w : World}
/-- A map is made. -/
theorem mkL (K : Key κ) (T : TypeId) {d : Tmp} {ty : TypeId} {pos : String} {after : Array Edge}
    (h : ∀ W b, b = w.heap.size → Chg [] w W → Is K W b (fun _ => none) → wpList P ops Q rest (a.put (some d) (.map (some b))) W) : wpList P ops Q (⟨some d, .makeMap T none, ty, pos, after, none⟩ :: rest) a w := by
  refine wpList_plain rfl fun J hJ => ?_
  unfold Oper.wp execOp
  have := h _ _ rfl ((Chg.refl [] w).alloc _) (Is.made K w)
  simp [Instr.makeMap]
  exact hJ _ _ this
/-- What the program says of a map's type. -/
structure Ty (K : Key κ) (P : Program) (T : TypeId) (z : Value) : Prop where
  m : ∃ kt et, P.underlying T = some (.map kt et) ∧ P.underlying kt = some K.d ∧ ∀ w, (zeroValue et).run P w = .ok z w
/-- An entry is laid (by a literal; by an assignment). -/
theorem insL [DecidableEq κ] {z : Value} (hT : Ty K P T z) {m k x : Operand} {ty : TypeId} {pos : String} {after : Array Edge} {b : Nat} {f : κ → Option Value} (hb : Is K w b f) (i : κ) (v : Value) (hm : a.eval m = .map (some b)) (hk : a.eval k = K.of i) (hv : a.eval x = v)
    (h : ∀ W, Chg [b] w W → Is K W b (put f i v) → wpList P ops Q rest a W) : wpList P ops Q (⟨none, .insert T m k x, ty, pos, after, none⟩ :: rest) a w := by
  refine wpList_plain rfl fun J hJ => ?_
  obtain ⟨kt, et, h1, h2, _⟩ := hT.m
  obtain ⟨W, hr, hc, hi⟩ := run_put h1 h2 hb i v
  unfold Oper.wp execOp
  simp [hm, hk, hv, hr]
  exact hJ _ _ (h W hc hi)
theorem setL [DecidableEq κ] {z : Value} (hT : Ty K P T z) {m k x : Operand} {ty : TypeId} {pos : String} {after : Array Edge} {b : Nat} {f : κ → Option Value} (hb : Is K w b f) (i : κ) (v : Value) (hm : a.eval m = .map (some b)) (hk : a.eval k = K.of i) (hv : a.eval x = v)
    (h : ∀ W, Chg [b] w W → Is K W b (put f i v) → wpList P ops Q rest a W) : wpList P ops Q (⟨none, .mapUpdate T m k x, ty, pos, after, none⟩ :: rest) a w := by
  refine wpList_plain rfl fun J hJ => ?_
  obtain ⟨kt, et, h1, h2, _⟩ := hT.m
  obtain ⟨W, hr, hc, hi⟩ := run_put h1 h2 hb i v
  unfold Oper.wp execOp
  simp [hm, hk, hv, hr]
  exact hJ _ _ (h W hc hi)
/-- An entry is looked up. -/
theorem getL {z : Value} (hT : Ty K P T z) {m k : Operand} {d : Tmp} {ty : TypeId} {pos : String} {after : Array Edge} {b : Nat} {f : κ → Option Value} (hb : Is K w b f) (i : κ) (hm : a.eval m = .map (some b)) (hk : a.eval k = K.of i)
    (h : wpList P ops Q rest (a.put (some d) ((f i).getD z)) w) : wpList P ops Q (⟨some d, .lookup T m k false, ty, pos, after, none⟩ :: rest) a w := by
  refine wpList_plain rfl fun J hJ => ?_
  obtain ⟨kt, et, h1, h2, h3⟩ := hT.m
  have hr := (run_get h1 h2 (h3 w) hb i).1
  unfold Oper.wp execOp
  simp [hm, hk, hr]
  exact hJ _ _ h
theorem get2L {z : Value} (hT : Ty K P T z) {m k : Operand} {d : Tmp} {ty : TypeId} {pos : String} {after : Array Edge} {b : Nat} {f : κ → Option Value} (hb : Is K w b f) (i : κ) (hm : a.eval m = .map (some b)) (hk : a.eval k = K.of i)
    (h : wpList P ops Q rest (a.put (some d) (.tuple #[(f i).getD z, .bool (f i).isSome])) w) : wpList P ops Q (⟨some d, .lookup T m k true, ty, pos, after, none⟩ :: rest) a w := by
  refine wpList_plain rfl fun J hJ => ?_
  obtain ⟨kt, et, h1, h2, h3⟩ := hT.m
  have hr := (run_get h1 h2 (h3 w) hb i).2
  unfold Oper.wp execOp
  simp [hm, hk, hr]
  exact hJ _ _ h
end
end Map
end Go.Proofs.YtpnldfinobnpoaaGreatDoor
