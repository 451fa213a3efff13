/- Lemmas, laid together: part 34 of 41. Conditions: none but each lemma's own. -/
import Derived.Test.YtkomocgodljecaaGreatDoorK2
import Derived.Test.YtkomocgodljecaaGreatDoorProg
import Derived.Lib.Strings
import Derived.Test.YtkomocgodljecaaGreatDoorK17
import Derived.Laws.BitsAllLaws
import Derived.MapKept
import Derived.Laws.Cells
import Derived.Maps.Own
import Derived.Test.YtkomocgodljecaaGreatDoorK3
import Derived.Deep.CutRange
import Derived.StillTailTactics
import Derived.Handy
import Derived.Shelf.LaysM
import Derived.Shelf.Strings.Search1
import Derived.Shelf.Strings.Search2
import Derived.Shelf.Strings.Search3
import Derived.Laws.MakeOwn
import Derived.Test.YtkomocgodljecaaGreatDoorK4
/- Records: imports (printed by mkrecs.sh). -/
namespace Go.Proofs.YtkomocgodljecaaGreatDoor
open Go.RowKit
set_option maxRecDepth 100000

/-- A record Imp. -/
structure Imp where
  ord : Int
  weak : Bool
  sym : ByteArray
  add : Int
def Imp.cells (s : Imp) : List Value := [.int .i64 s.ord, .bool s.weak, .string s.sym, .int .i64 s.add]
abbrev Imp.v (s : Imp) : Value := .agg #[.int .i64 s.ord, .bool s.weak, .string s.sym, .int .i64 s.add]
/-- Its numbers are of their kinds. -/
def Imp.wf (s : Imp) : Prop := (Lit.int .i64 s.ord).wf = true ∧ (Lit.int .i64 s.add).wf = true
def Imp.zero : Imp := ⟨0, false, ⟨#[]⟩, 0⟩
def impL : Lay Imp := ⟨4, Imp.cells, Imp.zero, fun _ => rfl, by decide, fun x u hu => by
  simp only [Imp.cells, List.mem_cons, List.not_mem_nil, or_false] at hu
  rcases hu with rfl | rfl | rfl | rfl <;> rfl⟩
theorem Imp.at {w : World} {b o : Nat} {s : Imp} (h : impL.In w b o s) : w.cell? ⟨b, o, none⟩ = some (.int .i64 s.ord) ∧ w.cell? ⟨b, o + 1, none⟩ = some (.bool s.weak) ∧ w.cell? ⟨b, o + 2, none⟩ = some (.string s.sym) ∧ w.cell? ⟨b, o + 3, none⟩ = some (.int .i64 s.add) :=
  ⟨h 0 (by decide), h 1 (by decide), h 2 (by decide), h 3 (by decide)⟩
/-- A record in a block of its own: made, written, a field written. -/
theorem Imp.box (w : World) (s : Imp) (T : TypeId) : impL.Box (w.alloc (.cells #[.int .i64 s.ord, .bool s.weak, .string s.sym, .int .i64 s.add] T)) w.heap.size s := Lay.Box.of_alloc (L := impL) w s T
theorem Imp.put0 {w : World} {g : Nat} {y : Imp} (h : impL.Box w g y) (s : Imp) : impL.Box ((((w.setCell ⟨g, 0, none⟩ (.int .i64 s.ord)).setCell ⟨g, 1, none⟩ (.bool s.weak)).setCell ⟨g, 2, none⟩ (.string s.sym)).setCell ⟨g, 3, none⟩ (.int .i64 s.add)) g s := Lay.Box.put h s
theorem Imp.set_ord {w : World} {g : Nat} {s : Imp} (h : impL.Box w g s) (x : Int) : impL.Box (w.setCell ⟨g, 0, none⟩ (.int .i64 x)) g { s with ord := x } := Lay.Box.set h 0 _ _ rfl
theorem Imp.set_weak {w : World} {g : Nat} {s : Imp} (h : impL.Box w g s) (x : Bool) : impL.Box (w.setCell ⟨g, 1, none⟩ (.bool x)) g { s with weak := x } := Lay.Box.set h 1 _ _ rfl
theorem Imp.set_sym {w : World} {g : Nat} {s : Imp} (h : impL.Box w g s) (x : ByteArray) : impL.Box (w.setCell ⟨g, 2, none⟩ (.string x)) g { s with sym := x } := Lay.Box.set h 2 _ _ rfl
theorem Imp.set_add {w : World} {g : Nat} {s : Imp} (h : impL.Box w g s) (x : Int) : impL.Box (w.setCell ⟨g, 3, none⟩ (.int .i64 x)) g { s with add := x } := Lay.Box.set h 3 _ _ rfl
theorem Imp.c_ord {w : World} {b : Nat} {s : Imp} (h : impL.Box w b s) : w.cell? ⟨b, 0, none⟩ = some (.int .i64 s.ord) := by have := h.in 0 (by decide); rw [Nat.zero_add] at this; exact this
theorem Imp.c_weak {w : World} {b : Nat} {s : Imp} (h : impL.Box w b s) : w.cell? ⟨b, 1, none⟩ = some (.bool s.weak) := by have := h.in 1 (by decide); rw [Nat.zero_add] at this; exact this
theorem Imp.c_sym {w : World} {b : Nat} {s : Imp} (h : impL.Box w b s) : w.cell? ⟨b, 2, none⟩ = some (.string s.sym) := by have := h.in 2 (by decide); rw [Nat.zero_add] at this; exact this
theorem Imp.ext' {s r : Imp} (h0 : s.ord = r.ord) (h1 : s.weak = r.weak) (h2 : s.sym = r.sym) (h3 : s.add = r.add) : s = r := by
  cases s; cases r; simp only at h0 h1 h2 h3; subst h0 h1 h2 h3; rfl
instance : DecidableEq Imp := fun s r => decidable_of_iff (s.ord = r.ord ∧ s.weak = r.weak ∧ s.sym = r.sym ∧ s.add = r.add) ⟨fun h => Imp.ext' h.1 h.2.1 h.2.2.1 h.2.2.2, fun h => by rw [h]; exact ⟨rfl, rfl, rfl, rfl⟩⟩
end Go.Proofs.YtkomocgodljecaaGreatDoor
/- chain.bytes: an import's bytes (formats 1 and 2). -/
namespace Go.Proofs.YtkomocgodljecaaGreatDoor
open Go.RowKit
set_option maxRecDepth 100000

def u64N (z : Int) : Nat := (z % 18446744073709551616).toNat
/-- An import's word of 4 bytes, its name at a place. -/
def impW (x : Imp) (name : Nat) : Nat := u64N x.ord % 256 + (if x.weak then 256 else 0) + name * 512
/-- An import's bytes, in the formats 1 and 2. -/
def impB (x : Imp) (name : Nat) (fmt : Int) : List UInt8 := leB (impW x name) 4 ++ (if fmt = 2 then leB (u64N x.add) 4 else [])
end Go.Proofs.YtkomocgodljecaaGreatDoor
/- Maps that a call makes, as functions from keys (Map.Is); made, an entry laid, looked up: laws for the walk. No program in sight. -/
namespace Go.Proofs.YtkomocgodljecaaGreatDoor
open Go.RowKit Go.MapKept
set_option maxRecDepth 100000
namespace Map

/-- A kind of keys. -/
structure Key (κ : Type) where
  of : κ → Value
  d : TypeDesc
  key : ∀ k, IsKey d (of k)
  inj : ∀ a b, of a = of b → a = b
  all : ∀ v, IsKey d v → ∃ k, v = of k
def strK : Key ByteArray := ⟨.string, .string, fun _ => trivial, fun a b h => by cases h; rfl, fun v h => by
  cases v with
  | string s => exact ⟨s, rfl⟩
  | _ => exact h.elim⟩
variable {κ : Type} {K : Key κ}
/-- A block is a map that has just these entries. -/
def Is (K : Key κ) (w : World) (b : Nat) (f : κ → Option Value) : Prop :=
  ∃ es clock, w.heap[b]? = some (.map es clock) ∧ (∀ x ∈ es.toList, IsKey K.d x.key) ∧ (∀ (i j : Nat) (x y : MapEntry), es[i]? = some x → es[j]? = some y → x.key = y.key → i = j) ∧ ∀ k v, f k = some v ↔ ∃ e ∈ es.toList, e.key = K.of k ∧ e.val = v
theorem Is.frameS {w w' : World} {b : Nat} {f : κ → Option Value} (h : Is K w b f) {S : List Nat} (k : Chg S w w') (hn : b ∉ S) : Is K w' b f := by
  obtain ⟨es, clock, h1, h2⟩ := h
  exact ⟨es, clock, k.heap h1 hn, h2⟩
theorem Is.frame {w w' : World} {b : Nat} {f : κ → Option Value} (h : Is K w b f) (k : Chg [] w w') : Is K w' b f := h.frameS k (by simp)
theorem Is.lt {w : World} {b : Nat} {f : κ → Option Value} (h : Is K w b f) : b < w.heap.size := by
  obtain ⟨es, clock, h1, _⟩ := h
  exact lt_of_heap h1
theorem Is.congr {w : World} {b : Nat} {f g : κ → Option Value} (h : Is K w b f) (e : ∀ k, f k = g k) : Is K w b g := by
  have : f = g := funext e
  rwa [← this]
/-- An entry, laid. -/
def put [DecidableEq κ] (f : κ → Option Value) (k : κ) (v : Value) : κ → Option Value := fun j => if j = k then some v else f j
theorem Is.find {P : Program} {kt : TypeId} (hd : P.underlying kt = some K.d) {w : World} {es : Array MapEntry} {f : κ → Option Value} (hk : ∀ x ∈ es.toList, IsKey K.d x.key) (hf : ∀ k v, f k = some v ↔ ∃ e ∈ es.toList, e.key = K.of k ∧ e.val = v) (k : κ) :
    (f k = none ∧ (Instr.findKey kt (K.of k) es.toList).run P w = .ok none w ∧ ∀ x ∈ es.toList, x.key ≠ K.of k) ∨ ∃ j e, f k = some e.val ∧ (Instr.findKey kt (K.of k) es.toList).run P w = .ok (some (j, e.val)) w ∧ es[j]? = some e ∧ e.key = K.of k := by
  rcases findNow_spec (K.key k) es.toList 0 hk with ⟨h1, h2⟩ | ⟨j, e, h1, h2, h3⟩
  · refine .inl ⟨?_, run_findKey hd h1, h2⟩
    cases hfk : f k with
    | none => rfl
    | some v =>
      obtain ⟨e, he, hek, _⟩ := (hf k v).1 hfk
      exact absurd hek (h2 e he)
  · rw [Nat.zero_add] at h1
    rw [Array.getElem?_toList] at h2
    exact .inr ⟨j, e, (hf k e.val).2 ⟨e, Array.mem_toList_iff.2 (Array.mem_of_getElem? h2), h3, rfl⟩, run_findKey hd h1, h2, h3⟩
theorem run_put [DecidableEq κ] {P : Program} {T kt et : TypeId} (hT : P.underlying T = some (.map kt et)) (hd : P.underlying kt = some K.d) {w : World} {b : Nat} {f : κ → Option Value} (h : Is K w b f) (k : κ) (v : Value) :
    ∃ W, (Instr.mapUpdate T (.map (some b)) (K.of k) v).run P w = .ok () W ∧ Chg [b] w W ∧ Is K W b (put f k v) := by
  obtain ⟨es, clock, hb, hk, hnd, hf⟩ := h
  have hchg : ∀ o : Obj, Chg [b] w { w with heap := w.heap.setIfInBounds b o } := fun o => ⟨rfl, rfl, rfl, by simp, fun i _ hn => by
    simp only [List.mem_singleton] at hn
    exact (heap_set (o' := o) hb).2 i hn⟩
  rcases Is.find (P := P) (w := w) hd hk hf k with ⟨h1, h2, h3⟩ | ⟨j, e, h1, h2, h3, h4⟩
  · refine ⟨{ w with heap := w.heap.setIfInBounds b (.map (es.push { key := K.of k, val := v, born := clock }) (clock + 1)) }, ?_, hchg _, ?_⟩
    · simp [Instr.mapUpdate, run_underlying hT, MapKept.run_getObj_map hb, run_checkKey hd (K.key k), h2, run_setObj_map _ hb]
    · refine ⟨_, _, (heap_set hb).1, ?_, ?_, ?_⟩
      · intro x hx
        simp only [Array.toList_push, List.mem_append, List.mem_singleton] at hx
        rcases hx with hx | rfl
        · exact hk x hx
        · exact K.key k
      · intro i j x y hx hy hxy
        rw [Array.getElem?_push] at hx hy
        split at hx
        · cases hx
          split at hy
          · omega
          · exact absurd hxy.symm (h3 y (Array.mem_toList_iff.2 (Array.mem_of_getElem? hy)))
        · split at hy
          · cases hy
            exact absurd hxy (h3 x (Array.mem_toList_iff.2 (Array.mem_of_getElem? hx)))
          · exact hnd i j x y hx hy hxy
      · intro k' v'
        unfold put
        simp only [Array.toList_push, List.mem_append, List.mem_singleton]
        by_cases e : k' = k
        · subst e
          rw [if_pos rfl]
          constructor
          · intro hh; cases hh; exact ⟨_, .inr rfl, rfl, rfl⟩
          · rintro ⟨e, (he | rfl), hek, hev⟩
            · exact absurd hek (h3 e he)
            · simp only at hev; rw [hev]
        · rw [if_neg e, hf]
          constructor
          · rintro ⟨x, hx, h5⟩; exact ⟨x, .inl hx, h5⟩
          · rintro ⟨x, (hx | rfl), h5, h6⟩
            · exact ⟨x, hx, h5, h6⟩
            · exact absurd (K.inj _ _ h5).symm e
  · refine ⟨{ w with heap := w.heap.setIfInBounds b (.map (es.modify j fun e => { e with key := K.of k, val := v }) clock) }, ?_, hchg _, ?_⟩
    · have hks : (Instr.keyThatStays (K.of k) (K.of k)).run P w = .ok (K.of k) w := run_keyThatStays (K.key k)
      simp [Instr.mapUpdate, run_underlying hT, MapKept.run_getObj_map hb, run_checkKey hd (K.key k), h2, h3, h4, hks, run_setObj_map _ hb]
    · have hget : ∀ i, (es.modify j fun e => { e with key := K.of k, val := v })[i]? = if j = i then (es[i]?).map (fun e => { e with key := K.of k, val := v }) else es[i]? := fun i => Array.getElem?_modify
      refine ⟨_, _, (heap_set hb).1, ?_, ?_, ?_⟩
      · intro x hx
        obtain ⟨i, hi⟩ := Array.getElem?_of_mem (Array.mem_toList_iff.1 hx)
        rw [hget] at hi
        split at hi
        · cases he : es[i]? with
          | none => rw [he] at hi; cases hi
          | some y => rw [he] at hi; cases hi; exact K.key k
        · exact hk x (Array.mem_toList_iff.2 (Array.mem_of_getElem? hi))
      · have hkey : ∀ (i : Nat) (x : MapEntry), (es.modify j fun e => { e with key := K.of k, val := v })[i]? = some x → ∃ y : MapEntry, es[i]? = some y ∧ y.key = x.key := by
          intro i x hx
          rw [hget] at hx
          split at hx
          · rename_i hij
            subst hij
            rw [h3] at hx
            cases hx
            exact ⟨e, h3, h4⟩
          · exact ⟨x, hx, rfl⟩
        intro i i' x y hx hy hxy
        obtain ⟨x', hx', ex⟩ := hkey i x hx
        obtain ⟨y', hy', ey⟩ := hkey i' y hy
        exact hnd i i' x' y' hx' hy' (by rw [ex, ey, hxy])
      · intro k' v'
        unfold put
        by_cases ek : k' = k
        · subst ek
          rw [if_pos rfl]
          constructor
          · intro hh
            cases hh
            refine ⟨{ e with key := K.of k', val := v }, Array.mem_toList_iff.2 (Array.mem_of_getElem? (i := j) ?_), rfl, rfl⟩
            rw [hget, if_pos rfl, h3]
            rfl
          · rintro ⟨x, hx, hxk, hxv⟩
            obtain ⟨i, hi⟩ := Array.getElem?_of_mem (Array.mem_toList_iff.1 hx)
            rw [hget] at hi
            split at hi
            · rename_i hij
              subst hij
              rw [h3] at hi
              cases hi
              simp only at hxv
              rw [hxv]
            · rename_i hij
              exact absurd (hnd j i e x h3 hi (by rw [h4, hxk])) hij
        · rw [if_neg ek, hf]
          constructor
          · rintro ⟨x, hx, hxk, hxv⟩
            obtain ⟨i, hi⟩ := Array.getElem?_of_mem (Array.mem_toList_iff.1 hx)
            refine ⟨x, Array.mem_toList_iff.2 (Array.mem_of_getElem? (i := i) ?_), hxk, hxv⟩
            rw [hget, if_neg]
            · exact hi
            · rintro rfl
              rw [h3] at hi
              cases hi
              exact ek (K.inj _ _ (by rw [← hxk, h4]))
          · rintro ⟨x, hx, hxk, hxv⟩
            obtain ⟨i, hi⟩ := Array.getElem?_of_mem (Array.mem_toList_iff.1 hx)
            rw [hget] at hi
            split at hi
            · rename_i hij
              subst hij
              rw [h3] at hi
              cases hi
              exact absurd (K.inj _ _ hxk).symm ek
            · exact ⟨x, Array.mem_toList_iff.2 (Array.mem_of_getElem? hi), hxk, hxv⟩
section
variable {P : Program} {T : TypeId} {ops : Array Oper} {rest : List Oper} {a : Act} {Q : Exit → Act → World → Prop} {w : World}
/-- What the program says of a map's type. -/
structure Ty (K : Key κ) (P : Program) (T : TypeId) (z : Value) : Prop where
  m : ∃ kt et, P.underlying T = some (.map kt et) ∧ P.underlying kt = some K.d ∧ ∀ w, (zeroValue et).run P w = .ok z w
theorem setL [DecidableEq κ] {z : Value} (hT : Ty K P T z) {m k x : Operand} {ty : TypeId} {pos : String} {after : Array Edge} {b : Nat} {f : κ → Option Value} (hb : Is K w b f) (i : κ) (v : Value) (hm : a.eval m = .map (some b)) (hk : a.eval k = K.of i) (hv : a.eval x = v)
    (h : ∀ W, Chg [b] w W → Is K W b (put f i v) → wpList P ops Q rest a W) : wpList P ops Q (⟨none, .mapUpdate T m k x, ty, pos, after, none⟩ :: rest) a w := by
  refine wpList_plain rfl fun J hJ => ?_
  obtain ⟨kt, et, h1, h2, _⟩ := hT.m
  obtain ⟨W, hr, hc, hi⟩ := run_put h1 h2 hb i v
  unfold Oper.wp execOp
  simp [hm, hk, hv, hr]
  exact hJ _ _ (h W hc hi)
end
end Map
end Go.Proofs.YtkomocgodljecaaGreatDoor
/- chain.Stride, chain.Format and the document's. -/
namespace Go.Proofs.YtkomocgodljecaaGreatDoor
open Go.RowKit
set_option maxRecDepth 100000

end Go.Proofs.YtkomocgodljecaaGreatDoor
/- Records: chains, starts (printed by mkrecs2.sh). -/
namespace Go.Proofs.YtkomocgodljecaaGreatDoor
open Go.RowKit
set_option maxRecDepth 100000

/-- A record Chn. -/
structure Chn where
  starts : SlV
  imps : SlV
def Chn.cells (s : Chn) : List Value := [.slice s.starts.a s.starts.n s.starts.cap, .slice s.imps.a s.imps.n s.imps.cap]
abbrev Chn.v (s : Chn) : Value := .agg #[.slice s.starts.a s.starts.n s.starts.cap, .slice s.imps.a s.imps.n s.imps.cap]
/-- Its numbers are of their kinds. -/
def Chn.wf (_ : Chn) : Prop := True
def Chn.zero : Chn := ⟨⟨none, 0, 0⟩, ⟨none, 0, 0⟩⟩
def chnL : Lay Chn := ⟨2, Chn.cells, Chn.zero, fun _ => rfl, by decide, fun x u hu => by
  simp only [Chn.cells, List.mem_cons, List.not_mem_nil, or_false] at hu
  rcases hu with rfl | rfl <;> rfl⟩
theorem Chn.at {w : World} {b o : Nat} {s : Chn} (h : chnL.In w b o s) : w.cell? ⟨b, o, none⟩ = some (.slice s.starts.a s.starts.n s.starts.cap) ∧ w.cell? ⟨b, o + 1, none⟩ = some (.slice s.imps.a s.imps.n s.imps.cap) :=
  ⟨h 0 (by decide), h 1 (by decide)⟩
/-- A record in a block of its own: made, written, a field written. -/
theorem Chn.box (w : World) (s : Chn) (T : TypeId) : chnL.Box (w.alloc (.cells #[.slice s.starts.a s.starts.n s.starts.cap, .slice s.imps.a s.imps.n s.imps.cap] T)) w.heap.size s := Lay.Box.of_alloc (L := chnL) w s T
theorem Chn.put0 {w : World} {g : Nat} {y : Chn} (h : chnL.Box w g y) (s : Chn) : chnL.Box ((w.setCell ⟨g, 0, none⟩ (.slice s.starts.a s.starts.n s.starts.cap)).setCell ⟨g, 1, none⟩ (.slice s.imps.a s.imps.n s.imps.cap)) g s := Lay.Box.put h s
/-- A record Sta. -/
structure Sta where
  seg : Int
  page : Int
  fmt : Int
  begins : SlV
def Sta.cells (s : Sta) : List Value := [.int .i64 s.seg, .int .i64 s.page, .int .i64 s.fmt, .slice s.begins.a s.begins.n s.begins.cap]
abbrev Sta.v (s : Sta) : Value := .agg #[.int .i64 s.seg, .int .i64 s.page, .int .i64 s.fmt, .slice s.begins.a s.begins.n s.begins.cap]
/-- Its numbers are of their kinds. -/
def Sta.wf (s : Sta) : Prop := (Lit.int .i64 s.seg).wf = true ∧ (Lit.int .i64 s.page).wf = true ∧ (Lit.int .i64 s.fmt).wf = true
def Sta.zero : Sta := ⟨0, 0, 0, ⟨none, 0, 0⟩⟩
def staL : Lay Sta := ⟨4, Sta.cells, Sta.zero, fun _ => rfl, by decide, fun x u hu => by
  simp only [Sta.cells, List.mem_cons, List.not_mem_nil, or_false] at hu
  rcases hu with rfl | rfl | rfl | rfl <;> rfl⟩
theorem Sta.at {w : World} {b o : Nat} {s : Sta} (h : staL.In w b o s) : w.cell? ⟨b, o, none⟩ = some (.int .i64 s.seg) ∧ w.cell? ⟨b, o + 1, none⟩ = some (.int .i64 s.page) ∧ w.cell? ⟨b, o + 2, none⟩ = some (.int .i64 s.fmt) ∧ w.cell? ⟨b, o + 3, none⟩ = some (.slice s.begins.a s.begins.n s.begins.cap) :=
  ⟨h 0 (by decide), h 1 (by decide), h 2 (by decide), h 3 (by decide)⟩
/-- A record in a block of its own: made, written, a field written. -/
theorem Sta.box (w : World) (s : Sta) (T : TypeId) : staL.Box (w.alloc (.cells #[.int .i64 s.seg, .int .i64 s.page, .int .i64 s.fmt, .slice s.begins.a s.begins.n s.begins.cap] T)) w.heap.size s := Lay.Box.of_alloc (L := staL) w s T
theorem Sta.put0 {w : World} {g : Nat} {y : Sta} (h : staL.Box w g y) (s : Sta) : staL.Box ((((w.setCell ⟨g, 0, none⟩ (.int .i64 s.seg)).setCell ⟨g, 1, none⟩ (.int .i64 s.page)).setCell ⟨g, 2, none⟩ (.int .i64 s.fmt)).setCell ⟨g, 3, none⟩ (.slice s.begins.a s.begins.n s.begins.cap)) g s := Lay.Box.put h s
end Go.Proofs.YtkomocgodljecaaGreatDoor
/- Contracts of the library, proved once in the kit, laid at this seat's program: strings.Contains. -/
namespace Go.Proofs
open Go.Shelf
def Tryz.lays144_ren : Go.Shelf.Ren := ⟨fun | 144 => 67 | 143 => 92 | 219 => 115 | 217 => 126 | 225 => 127 | 224 => 128 | 267 => 129 | 266 => 135 | 314 => 136 | n => n, fun | 9 => 9 | 4 => 4 | 3 => 3 | 5 => 5 | 46 => 77 | 146 => 171 | 51 => 23 | n => n, fun | 1 => 0 | n => n⟩
theorem Tryz.lays144 : Go.Proofs.Lays.n144 Tryz.prog Tryz.lays144_ren := {
  mixed := by kernel_rfl
  f143 := Tryz.func92.trans (congrArg some (by kernel_rfl))
  f144 := Tryz.func67.trans (congrArg some (by kernel_rfl))
  f217 := Tryz.func126.trans (congrArg some (by kernel_rfl))
  f219 := Tryz.func115.trans (congrArg some (by kernel_rfl))
  f224 := Tryz.func128.trans (congrArg some (by kernel_rfl))
  f225 := Tryz.func127.trans (congrArg some (by kernel_rfl))
  f266 := Tryz.func135.trans (congrArg some (by kernel_rfl))
  f267 := Tryz.func129.trans (congrArg some (by kernel_rfl))
  f314 := Tryz.func136.trans (congrArg some (by kernel_rfl))
  t3 := Tryz.underlying3
  a3 := Tryz.isAgg3
  z3 := Tryz.sizeOf3
  v3 := Tryz.zeroValue3
  t4 := Tryz.underlying4
  a4 := Tryz.isAgg4
  z4 := Tryz.sizeOf4
  v4 := Tryz.zeroValue4
  t5 := Tryz.underlying5
  a5 := Tryz.isAgg5
  z5 := Tryz.sizeOf5
  v5 := Tryz.zeroValue5
  t9 := Tryz.underlying9
  a9 := Tryz.isAgg9
  z9 := Tryz.sizeOf9
  v9 := Tryz.zeroValue9
  t46 := Tryz.underlying77
  a46 := Tryz.isAgg77
  z46 := Tryz.sizeOf77
  v46 := Tryz.zeroValue77
  t51 := Tryz.underlying23
  a51 := Tryz.isAgg23
  z51 := Tryz.sizeOf23
  v51 := Tryz.zeroValue23
  t146 := Tryz.underlying171
  a146 := Tryz.isAgg171
  z146 := Tryz.sizeOf171
  v146 := Tryz.zeroValue171
  g1 := by kernel_rfl }
end Go.Proofs
/- chain: which ordinals may be; what reads imports of a format; starts of none. -/
namespace Go.Proofs.YtkomocgodljecaaGreatDoor
open Go.RowKit
set_option maxRecDepth 100000

end Go.Proofs.YtkomocgodljecaaGreatDoor
/- chain.bytes at format 3; at each. -/
namespace Go.Proofs.YtkomocgodljecaaGreatDoor
open Go.RowKit
set_option maxRecDepth 100000

/-- An import's bytes, of any format. -/
def impBB (x : Imp) (name : Nat) (fmt : Int) : List UInt8 := if fmt = 3 then leB (u64N x.ord % 65536 + (if x.weak then 65536 else 0) + name * 4294967296) 8 ++ leB (u64N x.add) 8 else impB x name fmt
theorem impBB_len (x : Imp) (n : Nat) (f : Int) : (impBB x n f).length ≤ 16 := by
  unfold impBB impB
  split
  · simp [leB_len]
  · split <;> simp [leB_len]
end Go.Proofs.YtkomocgodljecaaGreatDoor
/- Imports laid: the plain part of chain.named; two laws of look-ups. -/
namespace Go.Proofs.YtkomocgodljecaaGreatDoor
open Go.RowKit
set_option maxRecDepth 100000

/-- Imports laid: their bytes, the names, where each name stands. -/
structure Nm where
  out : List UInt8
  ns : List UInt8
  pl : ByteArray → Option Nat
def Nm.zero : Nm := ⟨[], [0], fun _ => none⟩
/-- Where a name stands. -/
def Nm.at (s : Nm) (x : Imp) : Nat := (s.pl x.sym).getD s.ns.length
def Nm.step (fmt : Int) (s : Nm) (x : Imp) : Nm := ⟨s.out ++ impBB x (s.at x) fmt, if s.pl x.sym = none then s.ns ++ (x.sym.data.toList ++ [0]) else s.ns, if s.pl x.sym = none then (fun q => if q = x.sym then some s.ns.length else s.pl q) else s.pl⟩
/-- How long all of it is; no place is beyond the names. -/
structure Nm.Fit (s : Nm) (k : Nat) : Prop where
  out : s.out.length ≤ 16 * k
  ns : s.ns.length ≤ 1 + 301 * k
  pl : ∀ q n, s.pl q = some n → n ≤ s.ns.length
theorem Nm.Fit.at_le {s : Nm} {k : Nat} (h : s.Fit k) (x : Imp) : s.at x ≤ s.ns.length := by
  unfold Nm.at
  cases e : s.pl x.sym with
  | none => exact Nat.le_refl _
  | some n => exact h.pl _ _ e
theorem Nm.Fit.step {s : Nm} {k : Nat} (h : s.Fit k) (f : Int) (x : Imp) (hx : x.sym.size ≤ 300) : (s.step f x).Fit (k + 1) := by
  have h1 := h.out
  have h2 := h.ns
  have h3 := impBB_len x (s.at x) f
  have hs : x.sym.data.toList.length = x.sym.size := str_len _
  constructor
  · simp only [Nm.step, List.length_append]
    omega
  · simp only [Nm.step]
    split
    · simp only [List.length_append, List.length_singleton, hs]; omega
    · omega
  · intro q n
    simp only [Nm.step]
    split
    · intro e
      replace e : (if q = x.sym then some s.ns.length else s.pl q) = some n := e
      split at e
      · cases e; simp only [List.length_append]; omega
      · have := h.pl _ _ e; simp only [List.length_append]; omega
    · exact h.pl q n
theorem map_ne_buf {w : World} {base b : Nat} {v : Value} {l : List UInt8} {f : ByteArray → Option Value} (h : BB w base v l) (hm : Map.Is Map.strK w b f) : b ∉ v.ownBlock.toList := by
  intro hb
  obtain ⟨es, c, hh, _⟩ := hm
  rcases h.2 with ⟨rfl, _⟩ | ⟨g, cap, cur, rfl, _, hg, _⟩
  · cases hb
  · simp [Value.ownBlock] at hb
    subst hb
    rw [hh] at hg
    cases hg
/-- Two rows of bytes of the call's own, apart. -/
structure Duo (w : World) (base : Nat) (v6 : Value) (l6 : List UInt8) (v7 : Value) (l7 : List UInt8) : Prop where
  one : BB w base v6 l6
  two : BB w base v7 l7
  ne : ∀ b, v6.ownBlock = some b → v7.ownBlock ≠ some b
section
variable {w w' : World} {base : Nat} {v6 v7 : Value} {l6 l7 : List UInt8}
theorem Duo.pure (h : Duo w base v6 l6 v7 l7) (k : Chg [] w w') : Duo w' base v6 l6 v7 l7 := ⟨h.one.pure k, h.two.pure k, h.ne⟩
theorem Duo.map (h : Duo w base v6 l6 v7 l7) {q : Nat} {f : ByteArray → Option Value} (hm : Map.Is Map.strK w q f) (k : Chg [q] w w') : Duo w' base v6 l6 v7 l7 :=
  ⟨h.one.frame k (fun b hb hq => map_ne_buf h.one hm (by simp at hq; subst hq; simp [hb])), h.two.frame k (fun b hb hq => map_ne_buf h.two hm (by simp at hq; subst hq; simp [hb])), h.ne⟩
/-- The second one grew. -/
theorem Duo.grow (h : Duo w base v6 l6 v7 l7) {v : Value} {l : List UInt8} (hv : BB w' base v l) (hg : w.grownBy w' v7.ownBlock) (hl : v.ownBlock = v7.ownBlock ∨ v.ownBlock = some w.heap.size) : Duo w' base v6 l6 v l :=
  ⟨h.one.frame (Lay.chg_grown hg) (fun b hb hm => h.ne b hb (by simpa using hm)), hv, fun b hb hb2 => by
    rcases hl with e | e
    · exact h.ne b hb (e.symm.trans hb2)
    · have := (h.one.lt b hb).2
      rw [e] at hb2
      cases hb2
      omega⟩
theorem Duo.chg (h : Duo w base v6 l6 v7 l7) (hg : w.grownBy w' v7.ownBlock) {w0 : World} (hb : base = w0.heap.size) (k : Chg [] w0 w) : Chg [] w0 w' :=
  k.trans (Lay.chg_grown hg) (fun i hi hw => by have := (h.two.lt i (by simpa using hi)).1; omega)
theorem Duo.is (h : Duo w base v6 l6 v7 l7) {q : Nat} {f : ByteArray → Option Value} (hm : Map.Is Map.strK w q f) (hg : w.grownBy w' v7.ownBlock) : Map.Is Map.strK w' q f := hm.frameS (Lay.chg_grown hg) (map_ne_buf h.two hm)
end
section
variable {κ : Type} {K : Map.Key κ} {P : Program} {T : TypeId} {ops : Array Oper} {rest : List Oper} {a : Act} {Q : Exit → Act → World → Prop} {w : World}
/-- The same under a guard that is met. -/
theorem wpList_want {o : Oper} (hw : Region.wanted o (yielded ops a.tmps) = true) (h : ∀ K : Act → World → Prop, (∀ a w, wpList P ops Q rest a w → K a w) → o.wp P a w K Q) : wpList P ops Q (o :: rest) a w := wpList_step fun K hK => by rw [if_pos hw]; exact h K hK
theorem ldG {α : Type} {L : Lay α} (hT : Lay.Ty L P T) {d : Tmp} {s : Operand} {ty : TypeId} {pos : String} {after : Array Edge} {g : Nat × Bool} {b off : Nat} (x : α) (hx : L.In w b off x) (hw : Region.wanted ⟨some d, .load T s, ty, pos, after, some g⟩ (yielded ops a.tmps) = true) (hs : a.eval s = .pointer (some ⟨b, off, none⟩))
    (h : wpList P ops Q rest (a.put (some d) (.agg (L.f x).toArray)) w) : wpList P ops Q (⟨some d, .load T s, ty, pos, after, some g⟩ :: rest) a w := by
  refine wpList_want hw fun K hK => ?_
  unfold Oper.wp execOp
  simp only [Instr.loadAt, Instr.sureAddr, Sem.run_bind, Sem.run_pure, hs, Result.andThen_ok, Lay.run_load_rec hT hx]
  exact hK _ _ h
end
end Go.Proofs.YtkomocgodljecaaGreatDoor
