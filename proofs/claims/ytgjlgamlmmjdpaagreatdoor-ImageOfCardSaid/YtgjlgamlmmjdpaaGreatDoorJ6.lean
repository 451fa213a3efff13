/- Lemmas, laid together: part 6 of 43. Conditions: none but each lemma's own. -/
import Derived.Test.YtgjlgamlmmjdpaaGreatDoorJ2
import Derived.MapKept
import Derived.Laws.Cells
import Derived.Maps.Own
import Derived.Test.YtgjlgamlmmjdpaaGreatDoorJ4
import Derived.Test.YtgjlgamlmmjdpaaGreatDoorProg
import Derived.Deep.CutRange
import Derived.StillTailTactics
import Derived.Handy
import Derived.Lib.Strings
import Derived.Laws.BitsAllLaws
import Derived.Lib.AppendStr
/- Maps that a call makes, as functions from keys (Map.Is); made, an entry laid, looked up: laws for the walk. No program in sight. -/
namespace Go.Proofs.YtgjlgamlmmjdpaaGreatDoor
open Go.RowKit Go.MapKept
set_option maxRecDepth 100000
namespace Map

/-- A kind of keys. -/
structure Key (κ : Type) where
  of : κ → Value
  d : TypeDesc
  key : ∀ k, IsKey d (of k)
  inj : ∀ a b, of a = of b → a = b
  all : ∀ v, IsKey d v → ∃ k, v = of k
def intK (q : IntKind) : Key Int := ⟨.int q, .int q, fun _ => rfl, fun a b h => by cases h; rfl, fun v h => by
  cases v with
  | int q' a => exact ⟨a, by rw [show q' = q from h]⟩
  | _ => exact h.elim⟩
def strK : Key ByteArray := ⟨.string, .string, fun _ => trivial, fun a b h => by cases h; rfl, fun v h => by
  cases v with
  | string s => exact ⟨s, rfl⟩
  | _ => exact h.elim⟩
variable {κ : Type} {K : Key κ}
/-- A block is a map that has just these entries. -/
def Is (K : Key κ) (w : World) (b : Nat) (f : κ → Option Value) : Prop :=
  ∃ es clock, w.heap[b]? = some (.map es clock) ∧ (∀ x ∈ es.toList, IsKey K.d x.key) ∧ (∀ (i j : Nat) (x y : MapEntry), es[i]? = some x → es[j]? = some y → x.key = y.key → i = j) ∧ ∀ k v, f k = some v ↔ ∃ e ∈ es.toList, e.key = K.of k ∧ e.val = v
theorem Is.frameS {w w' : World} {b : Nat} {f : κ → Option Value} (h : Is K w b f) {S : List Nat} (k : Chg S w w') (hn : b ∉ S) : Is K w' b f := by
  obtain ⟨es, clock, h1, h2⟩ := h
  exact ⟨es, clock, k.heap h1 hn, h2⟩
theorem Is.frame {w w' : World} {b : Nat} {f : κ → Option Value} (h : Is K w b f) (k : Chg [] w w') : Is K w' b f := h.frameS k (by simp)
theorem Is.lt {w : World} {b : Nat} {f : κ → Option Value} (h : Is K w b f) : b < w.heap.size := by
  obtain ⟨es, clock, h1, _⟩ := h
  exact lt_of_heap h1
theorem Is.congr {w : World} {b : Nat} {f g : κ → Option Value} (h : Is K w b f) (e : ∀ k, f k = g k) : Is K w b g := by
  have : f = g := funext e
  rwa [← this]
theorem Is.made (K : Key κ) (w : World) : Is K (w.alloc (.map #[] 0)) w.heap.size (fun _ => none) := ⟨#[], 0, heap_alloc_eq w _, by simp, by simp, by simp⟩
/-- An entry, laid. -/
def put [DecidableEq κ] (f : κ → Option Value) (k : κ) (v : Value) : κ → Option Value := fun j => if j = k then some v else f j
theorem Is.find {P : Program} {kt : TypeId} (hd : P.underlying kt = some K.d) {w : World} {es : Array MapEntry} {f : κ → Option Value} (hk : ∀ x ∈ es.toList, IsKey K.d x.key) (hf : ∀ k v, f k = some v ↔ ∃ e ∈ es.toList, e.key = K.of k ∧ e.val = v) (k : κ) :
    (f k = none ∧ (Instr.findKey kt (K.of k) es.toList).run P w = .ok none w ∧ ∀ x ∈ es.toList, x.key ≠ K.of k) ∨ ∃ j e, f k = some e.val ∧ (Instr.findKey kt (K.of k) es.toList).run P w = .ok (some (j, e.val)) w ∧ es[j]? = some e ∧ e.key = K.of k := by
  rcases findNow_spec (K.key k) es.toList 0 hk with ⟨h1, h2⟩ | ⟨j, e, h1, h2, h3⟩
  · refine .inl ⟨?_, run_findKey hd h1, h2⟩
    cases hfk : f k with
    | none => rfl
    | some v =>
      obtain ⟨e, he, hek, _⟩ := (hf k v).1 hfk
      exact absurd hek (h2 e he)
  · rw [Nat.zero_add] at h1
    rw [Array.getElem?_toList] at h2
    exact .inr ⟨j, e, (hf k e.val).2 ⟨e, Array.mem_toList_iff.2 (Array.mem_of_getElem? h2), h3, rfl⟩, run_findKey hd h1, h2, h3⟩
theorem run_put [DecidableEq κ] {P : Program} {T kt et : TypeId} (hT : P.underlying T = some (.map kt et)) (hd : P.underlying kt = some K.d) {w : World} {b : Nat} {f : κ → Option Value} (h : Is K w b f) (k : κ) (v : Value) :
    ∃ W, (Instr.mapUpdate T (.map (some b)) (K.of k) v).run P w = .ok () W ∧ Chg [b] w W ∧ Is K W b (put f k v) := by
  obtain ⟨es, clock, hb, hk, hnd, hf⟩ := h
  have hchg : ∀ o : Obj, Chg [b] w { w with heap := w.heap.setIfInBounds b o } := fun o => ⟨rfl, rfl, rfl, by simp, fun i _ hn => by
    simp only [List.mem_singleton] at hn
    exact (heap_set (o' := o) hb).2 i hn⟩
  rcases Is.find (P := P) (w := w) hd hk hf k with ⟨h1, h2, h3⟩ | ⟨j, e, h1, h2, h3, h4⟩
  · refine ⟨{ w with heap := w.heap.setIfInBounds b (.map (es.push { key := K.of k, val := v, born := clock }) (clock + 1)) }, ?_, hchg _, ?_⟩
    · simp [Instr.mapUpdate, run_underlying hT, MapKept.run_getObj_map hb, run_checkKey hd (K.key k), h2, run_setObj_map _ hb]
    · refine ⟨_, _, (heap_set hb).1, ?_, ?_, ?_⟩
      · intro x hx
        simp only [Array.toList_push, List.mem_append, List.mem_singleton] at hx
        rcases hx with hx | rfl
        · exact hk x hx
        · exact K.key k
      · intro i j x y hx hy hxy
        rw [Array.getElem?_push] at hx hy
        split at hx
        · cases hx
          split at hy
          · omega
          · exact absurd hxy.symm (h3 y (Array.mem_toList_iff.2 (Array.mem_of_getElem? hy)))
        · split at hy
          · cases hy
            exact absurd hxy (h3 x (Array.mem_toList_iff.2 (Array.mem_of_getElem? hx)))
          · exact hnd i j x y hx hy hxy
      · intro k' v'
        unfold put
        simp only [Array.toList_push, List.mem_append, List.mem_singleton]
        by_cases e : k' = k
        · subst e
          rw [if_pos rfl]
          constructor
          · intro hh; cases hh; exact ⟨_, .inr rfl, rfl, rfl⟩
          · rintro ⟨e, (he | rfl), hek, hev⟩
            · exact absurd hek (h3 e he)
            · simp only at hev; rw [hev]
        · rw [if_neg e, hf]
          constructor
          · rintro ⟨x, hx, h5⟩; exact ⟨x, .inl hx, h5⟩
          · rintro ⟨x, (hx | rfl), h5, h6⟩
            · exact ⟨x, hx, h5, h6⟩
            · exact absurd (K.inj _ _ h5).symm e
  · refine ⟨{ w with heap := w.heap.setIfInBounds b (.map (es.modify j fun e => { e with key := K.of k, val := v }) clock) }, ?_, hchg _, ?_⟩
    · have hks : (Instr.keyThatStays (K.of k) (K.of k)).run P w = .ok (K.of k) w := run_keyThatStays (K.key k)
      simp [Instr.mapUpdate, run_underlying hT, MapKept.run_getObj_map hb, run_checkKey hd (K.key k), h2, h3, h4, hks, run_setObj_map _ hb]
    · have hget : ∀ i, (es.modify j fun e => { e with key := K.of k, val := v })[i]? = if j = i then (es[i]?).map (fun e => { e with key := K.of k, val := v }) else es[i]? := fun i => Array.getElem?_modify
      refine ⟨_, _, (heap_set hb).1, ?_, ?_, ?_⟩
      · intro x hx
        obtain ⟨i, hi⟩ := Array.getElem?_of_mem (Array.mem_toList_iff.1 hx)
        rw [hget] at hi
        split at hi
        · cases he : es[i]? with
          | none => rw [he] at hi; cases hi
          | some y => rw [he] at hi; cases hi; exact K.key k
        · exact hk x (Array.mem_toList_iff.2 (Array.mem_of_getElem? hi))
      · have hkey : ∀ (i : Nat) (x : MapEntry), (es.modify j fun e => { e with key := K.of k, val := v })[i]? = some x → ∃ y : MapEntry, es[i]? = some y ∧ y.key = x.key := by
          intro i x hx
          rw [hget] at hx
          split at hx
          · rename_i hij
            subst hij
            rw [h3] at hx
            cases hx
            exact ⟨e, h3, h4⟩
          · exact ⟨x, hx, rfl⟩
        intro i i' x y hx hy hxy
        obtain ⟨x', hx', ex⟩ := hkey i x hx
        obtain ⟨y', hy', ey⟩ := hkey i' y hy
        exact hnd i i' x' y' hx' hy' (by rw [ex, ey, hxy])
      · intro k' v'
        unfold put
        by_cases ek : k' = k
        · subst ek
          rw [if_pos rfl]
          constructor
          · intro hh
            cases hh
            refine ⟨{ e with key := K.of k', val := v }, Array.mem_toList_iff.2 (Array.mem_of_getElem? (i := j) ?_), rfl, rfl⟩
            rw [hget, if_pos rfl, h3]
            rfl
          · rintro ⟨x, hx, hxk, hxv⟩
            obtain ⟨i, hi⟩ := Array.getElem?_of_mem (Array.mem_toList_iff.1 hx)
            rw [hget] at hi
            split at hi
            · rename_i hij
              subst hij
              rw [h3] at hi
              cases hi
              simp only at hxv
              rw [hxv]
            · rename_i hij
              exact absurd (hnd j i e x h3 hi (by rw [h4, hxk])) hij
        · rw [if_neg ek, hf]
          constructor
          · rintro ⟨x, hx, hxk, hxv⟩
            obtain ⟨i, hi⟩ := Array.getElem?_of_mem (Array.mem_toList_iff.1 hx)
            refine ⟨x, Array.mem_toList_iff.2 (Array.mem_of_getElem? (i := i) ?_), hxk, hxv⟩
            rw [hget, if_neg]
            · exact hi
            · rintro rfl
              rw [h3] at hi
              cases hi
              exact ek (K.inj _ _ (by rw [← hxk, h4]))
          · rintro ⟨x, hx, hxk, hxv⟩
            obtain ⟨i, hi⟩ := Array.getElem?_of_mem (Array.mem_toList_iff.1 hx)
            rw [hget] at hi
            split at hi
            · rename_i hij
              subst hij
              rw [h3] at hi
              cases hi
              exact absurd (K.inj _ _ hxk).symm ek
            · exact ⟨x, Array.mem_toList_iff.2 (Array.mem_of_getElem? hi), hxk, hxv⟩
/-- What is looked up: the entry, or the zero of the elements. -/
theorem run_get {P : Program} {T kt et : TypeId} (hT : P.underlying T = some (.map kt et)) (hd : P.underlying kt = some K.d) {w : World} {z : Value} (hz : (zeroValue et).run P w = .ok z w) {b : Nat} {f : κ → Option Value} (h : Is K w b f) (k : κ) :
    (Instr.lookup T (.map (some b)) (K.of k) false).run P w = .ok ((f k).getD z) w ∧ (Instr.lookup T (.map (some b)) (K.of k) true).run P w = .ok (.tuple #[(f k).getD z, .bool (f k).isSome]) w := by
  obtain ⟨es, clock, hb, hk, hnd, hf⟩ := h
  rcases Is.find (P := P) (w := w) hd hk hf k with ⟨h1, h2, _⟩ | ⟨j, e, h1, h2, _, _⟩
  · rw [h1]
    simp [Instr.lookup, run_underlying hT, MapKept.run_getObj_map hb, run_checkKey hd (K.key k), h2, hz]
  · rw [h1]
    simp [Instr.lookup, run_underlying hT, MapKept.run_getObj_map hb, run_checkKey hd (K.key k), h2]
section
variable {P : Program} {T : TypeId} {ops : Array Oper} {rest : List Oper} {a : Act} {Q : Exit → Act → World → Prop} {w : World}
/-- A map is made. -/
theorem mkL (K : Key κ) (T : TypeId) {d : Tmp} {ty : TypeId} {pos : String} {after : Array Edge}
    (h : ∀ W b, b = w.heap.size → Chg [] w W → Is K W b (fun _ => none) → wpList P ops Q rest (a.put (some d) (.map (some b))) W) : wpList P ops Q (⟨some d, .makeMap T none, ty, pos, after, none⟩ :: rest) a w := by
  refine wpList_plain rfl fun J hJ => ?_
  unfold Oper.wp execOp
  have := h _ _ rfl ((Chg.refl [] w).alloc _) (Is.made K w)
  simp [Instr.makeMap]
  exact hJ _ _ this
/-- What the program says of a map's type. -/
structure Ty (K : Key κ) (P : Program) (T : TypeId) (z : Value) : Prop where
  m : ∃ kt et, P.underlying T = some (.map kt et) ∧ P.underlying kt = some K.d ∧ ∀ w, (zeroValue et).run P w = .ok z w
/-- An entry is laid (by a literal; by an assignment). -/
theorem insL [DecidableEq κ] {z : Value} (hT : Ty K P T z) {m k x : Operand} {ty : TypeId} {pos : String} {after : Array Edge} {b : Nat} {f : κ → Option Value} (hb : Is K w b f) (i : κ) (v : Value) (hm : a.eval m = .map (some b)) (hk : a.eval k = K.of i) (hv : a.eval x = v)
    (h : ∀ W, Chg [b] w W → Is K W b (put f i v) → wpList P ops Q rest a W) : wpList P ops Q (⟨none, .insert T m k x, ty, pos, after, none⟩ :: rest) a w := by
  refine wpList_plain rfl fun J hJ => ?_
  obtain ⟨kt, et, h1, h2, _⟩ := hT.m
  obtain ⟨W, hr, hc, hi⟩ := run_put h1 h2 hb i v
  unfold Oper.wp execOp
  simp [hm, hk, hv, hr]
  exact hJ _ _ (h W hc hi)
theorem setL [DecidableEq κ] {z : Value} (hT : Ty K P T z) {m k x : Operand} {ty : TypeId} {pos : String} {after : Array Edge} {b : Nat} {f : κ → Option Value} (hb : Is K w b f) (i : κ) (v : Value) (hm : a.eval m = .map (some b)) (hk : a.eval k = K.of i) (hv : a.eval x = v)
    (h : ∀ W, Chg [b] w W → Is K W b (put f i v) → wpList P ops Q rest a W) : wpList P ops Q (⟨none, .mapUpdate T m k x, ty, pos, after, none⟩ :: rest) a w := by
  refine wpList_plain rfl fun J hJ => ?_
  obtain ⟨kt, et, h1, h2, _⟩ := hT.m
  obtain ⟨W, hr, hc, hi⟩ := run_put h1 h2 hb i v
  unfold Oper.wp execOp
  simp [hm, hk, hv, hr]
  exact hJ _ _ (h W hc hi)
/-- An entry is looked up. -/
theorem getL {z : Value} (hT : Ty K P T z) {m k : Operand} {d : Tmp} {ty : TypeId} {pos : String} {after : Array Edge} {b : Nat} {f : κ → Option Value} (hb : Is K w b f) (i : κ) (hm : a.eval m = .map (some b)) (hk : a.eval k = K.of i)
    (h : wpList P ops Q rest (a.put (some d) ((f i).getD z)) w) : wpList P ops Q (⟨some d, .lookup T m k false, ty, pos, after, none⟩ :: rest) a w := by
  refine wpList_plain rfl fun J hJ => ?_
  obtain ⟨kt, et, h1, h2, h3⟩ := hT.m
  have hr := (run_get h1 h2 (h3 w) hb i).1
  unfold Oper.wp execOp
  simp [hm, hk, hr]
  exact hJ _ _ h
theorem get2L {z : Value} (hT : Ty K P T z) {m k : Operand} {d : Tmp} {ty : TypeId} {pos : String} {after : Array Edge} {b : Nat} {f : κ → Option Value} (hb : Is K w b f) (i : κ) (hm : a.eval m = .map (some b)) (hk : a.eval k = K.of i)
    (h : wpList P ops Q rest (a.put (some d) (.tuple #[(f i).getD z, .bool (f i).isSome])) w) : wpList P ops Q (⟨some d, .lookup T m k true, ty, pos, after, none⟩ :: rest) a w := by
  refine wpList_plain rfl fun J hJ => ?_
  obtain ⟨kt, et, h1, h2, h3⟩ := hT.m
  have hr := (run_get h1 h2 (h3 w) hb i).2
  unfold Oper.wp execOp
  simp [hm, hk, hr]
  exact hJ _ _ h
end
end Map
end Go.Proofs.YtgjlgamlmmjdpaaGreatDoor
/- load: sizes, the least bytes of each known command. -/
namespace Go.Proofs.YtgjlgamlmmjdpaaGreatDoor
open Go.RowKit
set_option maxRecDepth 100000

/-- How many bytes a known command has at least (0: it is not known). -/
def leastF (c : Int) : Int :=
  if c = 25 then 72 else if c = 34 ∨ c = 2147483682 then 48 else if c = 2 ∨ c = 12 ∨ c = 13 ∨ c = 2147483672 ∨ c = 2147483679 ∨ c = 2147483683 ∨ c = 2147483688 then 24 else if c = 2147483699 ∨ c = 2147483700 then 16 else 0
def sizesM (c : Int) : Option Value := if leastF c = 0 then none else some (.int .i64 (leastF c))
theorem Tryz.tSzs : Map.Ty (Map.intK .u32) Tryz.prog 126 (.int .i64 0) := ⟨25, 3, by kernel_rfl, by kernel_rfl, fun w => by kernel_rfl⟩
set_option maxHeartbeats 4000000 in
theorem sizes_any (w : World) : Calls Tryz.prog 63 #[] w fun e w' => ∃ b, e = .returned (.map (some b)) ∧ w.heap.size ≤ b ∧ Map.Is (Map.intK .u32) w' b sizesM ∧ Chg [] w w' := by
  go_enter Tryz.func63, Tryz.ntmps63
  go_wp2_with ((with_reducible refine Map.mkL (Map.intK .u32) 126 ?_); intro W2 bq ebq cbq mbq; replace ebq := Lib.hid ebq; replace cbq := Lib.hid cbq; replace mbq := Lib.hid mbq; refine Hid.out ?_)
  refine Lib.hid ?_
  go_wp2_with ((with_reducible refine Map.insL Tryz.tSzs (mbq.out) 2 (.int .i64 24) ?_ ?_ ?_ ?_); exact rfl; exact rfl; exact rfl; intro W3 cW3 mW3; replace cW3 := Lib.hid cW3; replace mW3 := Lib.hid mW3; refine Hid.out ?_)
  refine Lib.hid ?_
  go_wp2_with ((with_reducible refine Map.insL Tryz.tSzs (mW3.out) 12 (.int .i64 24) ?_ ?_ ?_ ?_); exact rfl; exact rfl; exact rfl; intro W4 cW4 mW4; replace cW4 := Lib.hid cW4; replace mW4 := Lib.hid mW4; refine Hid.out ?_)
  refine Lib.hid ?_
  go_wp2_with ((with_reducible refine Map.insL Tryz.tSzs (mW4.out) 13 (.int .i64 24) ?_ ?_ ?_ ?_); exact rfl; exact rfl; exact rfl; intro W5 cW5 mW5; replace cW5 := Lib.hid cW5; replace mW5 := Lib.hid mW5; refine Hid.out ?_)
  refine Lib.hid ?_
  go_wp2_with ((with_reducible refine Map.insL Tryz.tSzs (mW5.out) 25 (.int .i64 72) ?_ ?_ ?_ ?_); exact rfl; exact rfl; exact rfl; intro W6 cW6 mW6; replace cW6 := Lib.hid cW6; replace mW6 := Lib.hid mW6; refine Hid.out ?_)
  refine Lib.hid ?_
  go_wp2_with ((with_reducible refine Map.insL Tryz.tSzs (mW6.out) 34 (.int .i64 48) ?_ ?_ ?_ ?_); exact rfl; exact rfl; exact rfl; intro W7 cW7 mW7; replace cW7 := Lib.hid cW7; replace mW7 := Lib.hid mW7; refine Hid.out ?_)
  refine Lib.hid ?_
  go_wp2_with ((with_reducible refine Map.insL Tryz.tSzs (mW7.out) 2147483682 (.int .i64 48) ?_ ?_ ?_ ?_); exact rfl; exact rfl; exact rfl; intro W8 cW8 mW8; replace cW8 := Lib.hid cW8; replace mW8 := Lib.hid mW8; refine Hid.out ?_)
  refine Lib.hid ?_
  go_wp2_with ((with_reducible refine Map.insL Tryz.tSzs (mW8.out) 2147483672 (.int .i64 24) ?_ ?_ ?_ ?_); exact rfl; exact rfl; exact rfl; intro W9 cW9 mW9; replace cW9 := Lib.hid cW9; replace mW9 := Lib.hid mW9; refine Hid.out ?_)
  refine Lib.hid ?_
  go_wp2_with ((with_reducible refine Map.insL Tryz.tSzs (mW9.out) 2147483679 (.int .i64 24) ?_ ?_ ?_ ?_); exact rfl; exact rfl; exact rfl; intro WA cWA mWA; replace cWA := Lib.hid cWA; replace mWA := Lib.hid mWA; refine Hid.out ?_)
  refine Lib.hid ?_
  go_wp2_with ((with_reducible refine Map.insL Tryz.tSzs (mWA.out) 2147483683 (.int .i64 24) ?_ ?_ ?_ ?_); exact rfl; exact rfl; exact rfl; intro WB cWB mWB; replace cWB := Lib.hid cWB; replace mWB := Lib.hid mWB; refine Hid.out ?_)
  refine Lib.hid ?_
  go_wp2_with ((with_reducible refine Map.insL Tryz.tSzs (mWB.out) 2147483688 (.int .i64 24) ?_ ?_ ?_ ?_); exact rfl; exact rfl; exact rfl; intro WC cWC mWC; replace cWC := Lib.hid cWC; replace mWC := Lib.hid mWC; refine Hid.out ?_)
  refine Lib.hid ?_
  go_wp2_with ((with_reducible refine Map.insL Tryz.tSzs (mWC.out) 2147483699 (.int .i64 16) ?_ ?_ ?_ ?_); exact rfl; exact rfl; exact rfl; intro WD cWD mWD; replace cWD := Lib.hid cWD; replace mWD := Lib.hid mWD; refine Hid.out ?_)
  refine Lib.hid ?_
  go_wp2_with ((with_reducible refine Map.insL Tryz.tSzs (mWD.out) 2147483700 (.int .i64 16) ?_ ?_ ?_ ?_); exact rfl; exact rfl; exact rfl; intro WE cWE mWE; replace cWE := Lib.hid cWE; replace mWE := Lib.hid mWE; refine Hid.out ?_)
  refine Lib.hid ?_
  go_wp2
  go_ret
  have hsz : w.heap.size ≤ bq := by rw [ebq.out]; exact Nat.le_refl _
  refine ⟨bq, rfl, hsz, mWE.out.congr (fun k => ?_), ((((((((((((cbq.out.new cW3.out hsz).new cW4.out hsz).new cW5.out hsz).new cW6.out hsz).new cW7.out hsz).new cW8.out hsz).new cW9.out hsz).new cWA.out hsz).new cWB.out hsz).new cWC.out hsz).new cWD.out hsz).new cWE.out hsz)⟩
  simp only [Map.put, sizesM, leastF]
  by_cases h1 : k = 2147483700
  · simp [h1]
  by_cases h2 : k = 2147483699
  · simp [h2]
  by_cases h3 : k = 2147483688
  · simp [h3]
  by_cases h4 : k = 2147483683
  · simp [h4]
  by_cases h5 : k = 2147483679
  · simp [h5]
  by_cases h6 : k = 2147483672
  · simp [h6]
  by_cases h7 : k = 2147483682
  · simp [h7]
  by_cases h8 : k = 34
  · simp [h8]
  by_cases h9 : k = 25
  · simp [h9]
  by_cases ha : k = 13
  · simp [ha]
  by_cases hb : k = 12
  · simp [hb]
  by_cases hc : k = 2
  · simp [hc]
  simp [h1, h2, h3, h4, h5, h6, h7, h8, h9, ha, hb, hc]
end Go.Proofs.YtgjlgamlmmjdpaaGreatDoor
/- Rows of bytes; chain.put. -/
namespace Go.Proofs.YtgjlgamlmmjdpaaGreatDoor
open Go.RowKit
set_option maxRecDepth 100000

def byteL : Lay UInt8 := ⟨1, fun b => [.int .u8 b.toNat], 0, fun _ => rfl, by decide, fun x u hu => by
  simp only [List.mem_singleton] at hu
  subst hu
  rfl⟩
abbrev BB (w : World) (base : Nat) (v : Value) (l : List UInt8) : Prop := byteL.Buf 5 w base v l
theorem Tryz.infoByte : Lay.Info Tryz.prog 22 5 byteL.n 1 := Lay.Info.mk' (z := .int .u8 0) (by kernel_rfl) (by kernel_rfl) rfl
/-- A number's bytes, the lowest first. -/
def leB (n size : Nat) : List UInt8 := (List.range size).map fun i => UInt8.ofNat (n / 2 ^ (8 * i))
theorem leB_succ (n k : Nat) : leB n (k + 1) = leB n k ++ [UInt8.ofNat (n / 2 ^ (8 * k))] := by simp [leB, List.range_succ]
theorem leB_len (n k : Nat) : (leB n k).length = k := by simp [leB]
theorem byte_int (n f : Nat) : (((UInt8.ofNat (n / 2 ^ f)).toNat : Nat) : Int) = (n : Int) / 2 ^ f % 256 := by
  rw [UInt8.toNat_ofNat', Int.natCast_emod, Int.natCast_ediv, Int.natCast_pow]
  rfl
/-- Where a row that grew lies. -/
def Loc (w : World) (v v' : Value) : Prop := v'.ownBlock = v.ownBlock ∨ ∃ k, v'.ownBlock = some k ∧ w.heap.size ≤ k
end Go.Proofs.YtgjlgamlmmjdpaaGreatDoor
/- Records: imports (printed by mkrecs.sh). -/
namespace Go.Proofs.YtgjlgamlmmjdpaaGreatDoor
open Go.RowKit
set_option maxRecDepth 100000

/-- A record Imp. -/
structure Imp where
  ord : Int
  weak : Bool
  sym : ByteArray
  add : Int
def Imp.cells (s : Imp) : List Value := [.int .i64 s.ord, .bool s.weak, .string s.sym, .int .i64 s.add]
abbrev Imp.v (s : Imp) : Value := .agg #[.int .i64 s.ord, .bool s.weak, .string s.sym, .int .i64 s.add]
/-- Its numbers are of their kinds. -/
def Imp.wf (s : Imp) : Prop := (Lit.int .i64 s.ord).wf = true ∧ (Lit.int .i64 s.add).wf = true
def Imp.zero : Imp := ⟨0, false, ⟨#[]⟩, 0⟩
def impL : Lay Imp := ⟨4, Imp.cells, Imp.zero, fun _ => rfl, by decide, fun x u hu => by
  simp only [Imp.cells, List.mem_cons, List.not_mem_nil, or_false] at hu
  rcases hu with rfl | rfl | rfl | rfl <;> rfl⟩
theorem Imp.at {w : World} {b o : Nat} {s : Imp} (h : impL.In w b o s) : w.cell? ⟨b, o, none⟩ = some (.int .i64 s.ord) ∧ w.cell? ⟨b, o + 1, none⟩ = some (.bool s.weak) ∧ w.cell? ⟨b, o + 2, none⟩ = some (.string s.sym) ∧ w.cell? ⟨b, o + 3, none⟩ = some (.int .i64 s.add) :=
  ⟨h 0 (by decide), h 1 (by decide), h 2 (by decide), h 3 (by decide)⟩
theorem Imp.at0 {w : World} {b : Nat} {s : Imp} (h : impL.In w b 0 s) : w.cell? ⟨b, 0, none⟩ = some (.int .i64 s.ord) ∧ w.cell? ⟨b, 1, none⟩ = some (.bool s.weak) ∧ w.cell? ⟨b, 2, none⟩ = some (.string s.sym) ∧ w.cell? ⟨b, 3, none⟩ = some (.int .i64 s.add) := by
  obtain ⟨h0, h1, h2, h3⟩ := Imp.at h
  simp only [Nat.zero_add] at h1 h2 h3
  exact ⟨h0, h1, h2, h3⟩
theorem Imp.boxed (w : World) (s : Imp) (T : TypeId) : impL.In (w.alloc (.cells #[.int .i64 s.ord, .bool s.weak, .string s.sym, .int .i64 s.add] T)) w.heap.size 0 s := fun c _ => by
  rw [cell_of_heap (heap_alloc_eq w _), Nat.zero_add]
  exact List.getElem?_toArray ..
/-- A record in a block of its own: made, written, a field written. -/
theorem Imp.box (w : World) (s : Imp) (T : TypeId) : impL.Box (w.alloc (.cells #[.int .i64 s.ord, .bool s.weak, .string s.sym, .int .i64 s.add] T)) w.heap.size s := Lay.Box.of_alloc (L := impL) w s T
theorem Imp.boxAt (w : World) (s : Imp) (T : TypeId) {b : Nat} (hb : b = w.heap.size) : impL.Box (w.alloc (.cells #[.int .i64 s.ord, .bool s.weak, .string s.sym, .int .i64 s.add] T)) b s := by rw [hb]; exact Imp.box w s T
theorem Imp.put0 {w : World} {g : Nat} {y : Imp} (h : impL.Box w g y) (s : Imp) : impL.Box ((((w.setCell ⟨g, 0, none⟩ (.int .i64 s.ord)).setCell ⟨g, 1, none⟩ (.bool s.weak)).setCell ⟨g, 2, none⟩ (.string s.sym)).setCell ⟨g, 3, none⟩ (.int .i64 s.add)) g s := Lay.Box.put h s
theorem Imp.chg0 (w : World) (g : Nat) (s : Imp) : Chg [g] w ((((w.setCell ⟨g, 0, none⟩ (.int .i64 s.ord)).setCell ⟨g, 1, none⟩ (.bool s.weak)).setCell ⟨g, 2, none⟩ (.string s.sym)).setCell ⟨g, 3, none⟩ (.int .i64 s.add)) := Lay.setW_chg g s.cells w 0
theorem Imp.set_ord {w : World} {g : Nat} {s : Imp} (h : impL.Box w g s) (x : Int) : impL.Box (w.setCell ⟨g, 0, none⟩ (.int .i64 x)) g { s with ord := x } := Lay.Box.set h 0 _ _ rfl
theorem Imp.set_weak {w : World} {g : Nat} {s : Imp} (h : impL.Box w g s) (x : Bool) : impL.Box (w.setCell ⟨g, 1, none⟩ (.bool x)) g { s with weak := x } := Lay.Box.set h 1 _ _ rfl
theorem Imp.set_sym {w : World} {g : Nat} {s : Imp} (h : impL.Box w g s) (x : ByteArray) : impL.Box (w.setCell ⟨g, 2, none⟩ (.string x)) g { s with sym := x } := Lay.Box.set h 2 _ _ rfl
theorem Imp.set_add {w : World} {g : Nat} {s : Imp} (h : impL.Box w g s) (x : Int) : impL.Box (w.setCell ⟨g, 3, none⟩ (.int .i64 x)) g { s with add := x } := Lay.Box.set h 3 _ _ rfl
theorem Imp.c_ord {w : World} {b : Nat} {s : Imp} (h : impL.Box w b s) : w.cell? ⟨b, 0, none⟩ = some (.int .i64 s.ord) := by have := h.in 0 (by decide); rw [Nat.zero_add] at this; exact this
theorem Imp.c_weak {w : World} {b : Nat} {s : Imp} (h : impL.Box w b s) : w.cell? ⟨b, 1, none⟩ = some (.bool s.weak) := by have := h.in 1 (by decide); rw [Nat.zero_add] at this; exact this
theorem Imp.c_sym {w : World} {b : Nat} {s : Imp} (h : impL.Box w b s) : w.cell? ⟨b, 2, none⟩ = some (.string s.sym) := by have := h.in 2 (by decide); rw [Nat.zero_add] at this; exact this
theorem Imp.c_add {w : World} {b : Nat} {s : Imp} (h : impL.Box w b s) : w.cell? ⟨b, 3, none⟩ = some (.int .i64 s.add) := by have := h.in 3 (by decide); rw [Nat.zero_add] at this; exact this
theorem Imp.at0B {w : World} {b : Nat} {s : Imp} (h : impL.Box w b s) : w.cell? ⟨b, 0, none⟩ = some (.int .i64 s.ord) ∧ w.cell? ⟨b, 1, none⟩ = some (.bool s.weak) ∧ w.cell? ⟨b, 2, none⟩ = some (.string s.sym) ∧ w.cell? ⟨b, 3, none⟩ = some (.int .i64 s.add) := Imp.at0 h.in
theorem Imp.ext' {s r : Imp} (h0 : s.ord = r.ord) (h1 : s.weak = r.weak) (h2 : s.sym = r.sym) (h3 : s.add = r.add) : s = r := by
  cases s; cases r; simp only at h0 h1 h2 h3; subst h0 h1 h2 h3; rfl
instance : DecidableEq Imp := fun s r => decidable_of_iff (s.ord = r.ord ∧ s.weak = r.weak ∧ s.sym = r.sym ∧ s.add = r.add) ⟨fun h => Imp.ext' h.1 h.2.1 h.2.2.1 h.2.2.2, fun h => by rw [h]; exact ⟨rfl, rfl, rfl, rfl⟩⟩
theorem Imp.eqv (s r : Imp) : decide (s = r) = (decide (s.ord = r.ord) && (decide (s.weak = r.weak) && (decide (s.sym.toList = r.sym.toList) && (decide (s.add = r.add))))) := by
  have e : s = r ↔ (s.ord = r.ord ∧ s.weak = r.weak ∧ s.sym = r.sym ∧ s.add = r.add) := ⟨fun h => by rw [h]; exact ⟨rfl, rfl, rfl, rfl⟩, fun h => Imp.ext' h.1 h.2.1 h.2.2.1 h.2.2.2⟩
  have hsym : (s.sym.toList = r.sym.toList) = (s.sym = r.sym) := by rw [Lib.toList_data, Lib.toList_data]; exact propext ⟨fun e => ByteArray.ext (Array.toList_inj.1 e), fun e => by rw [e]⟩
  simp only [hsym, ← Bool.decide_and]
  exact decide_eq_decide.2 e
end Go.Proofs.YtgjlgamlmmjdpaaGreatDoor
/- chain.bytes: an import's bytes (formats 1 and 2). -/
namespace Go.Proofs.YtgjlgamlmmjdpaaGreatDoor
open Go.RowKit
set_option maxRecDepth 100000

def u64N (z : Int) : Nat := (z % 18446744073709551616).toNat
theorem u64N_lt (z : Int) : u64N z < 18446744073709551616 := by unfold u64N; omega
theorem u64N_int (z : Int) : ((u64N z : Nat) : Int) = z % 18446744073709551616 := by unfold u64N; omega
/-- An import's word of 4 bytes, its name at a place. -/
def impW (x : Imp) (name : Nat) : Nat := u64N x.ord % 256 + (if x.weak then 256 else 0) + name * 512
/-- An import's bytes, in the formats 1 and 2. -/
def impB (x : Imp) (name : Nat) (fmt : Int) : List UInt8 := leB (impW x name) 4 ++ (if fmt = 2 then leB (u64N x.add) 4 else [])
theorem or_disj (a b k p : Nat) (hp : p = 2 ^ k) (h : a < p) (h1 : a + b * p < 18446744073709551616) : bits .or .u64 (a : Int) ((b * p : Nat) : Int) = ((a + b * p : Nat) : Int) := by
  have e := Nat.two_pow_add_eq_or_of_lt (hp ▸ h) b
  rw [← hp, Nat.mul_comm] at e
  rw [u64_or_nat _ _ (by omega) (by omega), Nat.or_comm, ← e, Nat.add_comm]
end Go.Proofs.YtgjlgamlmmjdpaaGreatDoor
/- append(b, s...) of a string, onto bytes of the call's own; where it lies. -/
namespace Go.Proofs.YtgjlgamlmmjdpaaGreatDoor
open Go.RowKit
set_option maxRecDepth 100000

theorem byte_vals (l : List UInt8) : byteL.vals l = l.map fun b => Value.int .u8 b.toNat := by
  induction l with
  | nil => rfl
  | cons b r ih => rw [Lay.vals_cons, ih]; rfl
theorem str_vals (s : ByteArray) : Lib.strCells s = byteL.vals s.data.toList := by rw [byte_vals]; rfl
theorem str_len (s : ByteArray) : s.data.toList.length = s.size := by rw [Array.length_toList]; rfl
theorem Tryz.uStr : Tryz.prog.underlying 9 = some .string := by kernel_rfl
/-- The operation. -/
theorem app_str {w : World} {ops : Array Oper} {rest : List Oper} {o : Oper} {a : Act} {Q : Exit → Act → World → Prop} (hgd : o.guard = none) (sl x : Operand)
    (ho : o.op = .call { callee := .builtin .append, args := #[sl, x], argTypes := #[22, 9] }) (base : Nat) (v : Value) (l : List UInt8) (hs : a.eval sl = v) (hown : BB w base v l)
    (s : ByteArray) (hx : a.eval x = .string s) (hle : l.length + s.size ≤ 140737488355328) (hbase : base ≤ w.heap.size)
    (h : ∀ v' w', BB w' base v' (l ++ s.data.toList) → w.grownBy w' v.ownBlock → (v'.ownBlock = v.ownBlock ∨ v'.ownBlock = some w.heap.size) → wpList Tryz.prog ops Q rest (a.put o.dst v') w') : wpList Tryz.prog ops Q (o :: rest) a w := by
  refine wpList_plain hgd fun K hK => ?_
  obtain ⟨i, z, hi, hz, hz1, hz2, hz3⟩ := Tryz.infoByte.i
  replace hz1 : i.size = 1 := hz1
  have hz' : i.zero = some (.int .u8 0) := by
    have e : (Tryz.prog.info? 5).map (fun i => i.zero) = some (some (.int .u8 0)) := by kernel_rfl
    rw [hi] at e
    simpa using e
  have hy := hown
  unfold BB Lay.Buf at hy
  have hm : l.length + s.size ≤ maxLen := by unfold maxLen; omega
  obtain ⟨v', w', hr, h2, h3, _⟩ := Lib.run_append_own_string (P := Tryz.prog) w base 22 9 o.type 5 i Tryz.infoByte.u Tryz.uStr hi hz' hz1 hz2 v l.length (byteL.vals l) hy s hm hle hbase
  have h4 : BB w' base v' (l ++ s.data.toList) := by
    unfold BB Lay.Buf
    rw [Lay.vals_append, List.length_append, str_len, ← str_vals]
    exact h2
  have h5 : v'.ownBlock = v.ownBlock ∨ v'.ownBlock = some w.heap.size := by
    rcases hy.2 with ⟨rfl, h0⟩ | ⟨g, cap, cur, rfl, hbg, hg, hnc, hcm, hcs, htake⟩
    · by_cases hm0 : s.size = 0
      · have hb := h2.2
        rcases hb with ⟨rfl, _⟩ | ⟨g, cap, cur, rfl, _, _, _, _, _, _⟩
        · exact .inl rfl
        · exfalso
          have hf := Lib.run_firstCells_string (P := Tryz.prog) w 1 s
          have hn : Lib.strCells s = [] := List.eq_nil_of_length_eq_zero (by rw [Lib.strCells_length]; exact hm0)
          rw [hm0, hn] at hf
          simp [Builtin.append_, run_underlying Tryz.infoByte.u, run_underlying Tryz.uStr, sizeOf, typeInfo, hi, hz1, Builtin.lenOf, hm0, hf] at hr
      · have hq := run_append_nil_string (P := Tryz.prog) w 22 9 o.type 5 i (.int .u8 0) Tryz.infoByte.u Tryz.uStr hi hz' s (by omega) (by omega) (by rw [hz2]; omega)
        rw [hq] at hr
        cases hr
        exact .inr rfl
    · by_cases hroom : l.length + s.size ≤ cap
      · have hcs' : cur.size = cap := by rw [show byteL.n = 1 from rfl, Nat.mul_one] at hcs; exact hcs
        have hq := Lib.run_append_room_string (P := Tryz.prog) w 22 9 o.type 5 i Tryz.infoByte.u Tryz.uStr hi hz1 g l.length cap cur hg s hroom (by omega)
        rw [hq] at hr
        cases hr
        exact .inl rfl
      · have hxl : (byteL.vals l).length = l.length := by rw [Lay.vals_len]; exact Nat.mul_one _
        have holds : ∀ j u, (byteL.vals l)[j]? = some u → w.cell? ((⟨g, 0, none⟩ : Addr).add j) = some u := hy.cells (g := g) rfl
        have hq := Lib.run_append_grow_string (P := Tryz.prog) w 22 9 o.type 5 i (.int .u8 0) Tryz.infoByte.u Tryz.uStr hi hz' ⟨g, 0, none⟩ l.length cap (byteL.vals l) (by rw [hz1, Nat.mul_one]; exact hxl) holds s (by omega) (by omega) (by rw [hz2]; exact growslice_fits (by omega) (by omega))
        rw [hq] at hr
        cases hr
        exact .inr rfl
  unfold Oper.wp execOp
  simp only [ho, resolve, invoke, builtin, Sem.run_bind, Sem.run_pure, Result.andThen_ok, List.map_toArray, List.map_cons, List.map_nil, hs, hx, hr]
  exact hK _ _ (h v' w' h4 h3 h5)
end Go.Proofs.YtgjlgamlmmjdpaaGreatDoor
/- chain.Stride, chain.Format and the document's. -/
namespace Go.Proofs.YtgjlgamlmmjdpaaGreatDoor
open Go.RowKit
set_option maxRecDepth 100000

/-- The stride of a format. -/
def strideF (n : Int) : Int := if n = 12 then 8 else if n = 6 then 4 else if n = 2 then 4 else if n = 1 then 8 else 0

/-- Has an addend no room in 32 bits? -/
def bigA (x : Imp) : Bool := decide (2147483647 < x.add) || decide (x.add < -2147483648)
/-- The least format that has room for imports' addends. -/
def fmtN (l : List Imp) : Int := if l.any bigA then 3 else if l.any (fun x => decide (x.add ≠ 0)) then 2 else 1
theorem any_get {p : Imp → Bool} {l : List Imp} : l.any p = true ↔ ∃ j, j < l.length ∧ p (l.getD j .zero) = true := by
  rw [List.any_eq_true]
  constructor
  · rintro ⟨x, hx, hp⟩
    obtain ⟨j, hj, rfl⟩ := List.getElem_of_mem hx
    exact ⟨j, hj, by simpa [List.getD_eq_getElem?_getD, hj] using hp⟩
  · rintro ⟨j, hj, hp⟩
    rw [List.getD_eq_getElem?_getD, List.getElem?_eq_getElem hj] at hp
    exact ⟨_, List.getElem_mem hj, hp⟩
theorem any_no {p : Imp → Bool} {l : List Imp} (h : ∀ j, j < l.length → p (l.getD j .zero) = false) : l.any p = false := by
  cases e : l.any p with
  | false => rfl
  | true => obtain ⟨j, hj, hp⟩ := any_get.1 e; rw [h j hj] at hp; cases hp
theorem wrap32_big (x : Imp) : (x.add ≠ wrap64 (wrap32 x.add)) ↔ bigA x = true := by
  unfold bigA wrap32 wrap64
  simp only [Bool.or_eq_true, decide_eq_true_eq]
  omega
end Go.Proofs.YtgjlgamlmmjdpaaGreatDoor
