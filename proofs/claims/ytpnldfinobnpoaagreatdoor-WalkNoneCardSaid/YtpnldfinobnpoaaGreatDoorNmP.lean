/- Imports laid: the plain part of chain.named; two laws of look-ups. -/
import Derived.Test.YtpnldfinobnpoaaGreatDoorChnB
import Derived.Test.YtpnldfinobnpoaaGreatDoorIB3
namespace Go.Proofs.YtpnldfinobnpoaaGreatDoor
open Go.RowKit
set_option maxRecDepth 100000

/-- Imports laid: their bytes, the names, where each name stands. -/
structure Nm where
  out : List UInt8
  ns : List UInt8
  pl : ByteArray → Option Nat
def Nm.zero : Nm := ⟨[], [0], fun _ => none⟩
/-- Where a name stands. -/
def Nm.at (s : Nm) (x : Imp) : Nat := (s.pl x.sym).getD s.ns.length
def Nm.step (fmt : Int) (s : Nm) (x : Imp) : Nm := ⟨s.out ++ impBB x (s.at x) fmt, if s.pl x.sym = none then s.ns ++ (x.sym.data.toList ++ [0]) else s.ns, if s.pl x.sym = none then (fun q => if q = x.sym then some s.ns.length else s.pl q) else s.pl⟩
def nmAll (fmt : Int) (l : List Imp) : Nm := l.foldl (Nm.step fmt) .zero
theorem nmAll_snoc (fmt : Int) (l : List Imp) (x : Imp) : nmAll fmt (l ++ [x]) = (nmAll fmt l).step fmt x := by unfold nmAll; rw [List.foldl_append]; rfl
theorem take_snoc {l : List Imp} {k : Nat} (h : k < l.length) : l.take (k + 1) = l.take k ++ [l.getD k .zero] := by
  rw [List.take_add_one]
  simp [List.getD_eq_getElem?_getD, h]
/-- May an import be laid? -/
def txtB (s : ByteArray) : Bool := decide (s.size ≠ 0) && decide (s.size ≤ 255) && !decide (0 ≤ Lib.indexByte s.data.toList 0)
def okI (d : Nat) (fmt : Int) (x : Imp) : Bool := txtB x.sym && ordB x.ord d && decide (fmtN [x] ≤ fmt)
/-- How long all of it is; no place is beyond the names. -/
structure Nm.Fit (s : Nm) (k : Nat) : Prop where
  out : s.out.length ≤ 16 * k
  ns : s.ns.length ≤ 1 + 301 * k
  pl : ∀ q n, s.pl q = some n → n ≤ s.ns.length
theorem Nm.Fit.at_le {s : Nm} {k : Nat} (h : s.Fit k) (x : Imp) : s.at x ≤ s.ns.length := by
  unfold Nm.at
  cases e : s.pl x.sym with
  | none => exact Nat.le_refl _
  | some n => exact h.pl _ _ e
theorem Nm.Fit.step {s : Nm} {k : Nat} (h : s.Fit k) (f : Int) (x : Imp) (hx : x.sym.size ≤ 300) : (s.step f x).Fit (k + 1) := by
  have h1 := h.out
  have h2 := h.ns
  have h3 := impBB_len x (s.at x) f
  have hs : x.sym.data.toList.length = x.sym.size := str_len _
  constructor
  · simp only [Nm.step, List.length_append]
    omega
  · simp only [Nm.step]
    split
    · simp only [List.length_append, List.length_singleton, hs]; omega
    · omega
  · intro q n
    simp only [Nm.step]
    split
    · intro e
      replace e : (if q = x.sym then some s.ns.length else s.pl q) = some n := e
      split at e
      · cases e; simp only [List.length_append]; omega
      · have := h.pl _ _ e; simp only [List.length_append]; omega
    · exact h.pl q n
theorem nmAll_fit (f : Int) (l : List Imp) (hs : ∀ x ∈ l, x.sym.size ≤ 300) : ∀ k, k ≤ l.length → (nmAll f (l.take k)).Fit k
  | 0, _ => ⟨by simp [nmAll, Nm.zero], by simp [nmAll, Nm.zero], by simp [nmAll, Nm.zero]⟩
  | k + 1, h => by
    rw [take_snoc h, nmAll_snoc]
    refine (nmAll_fit f l hs k (Nat.le_of_lt h)).step f _ (hs _ ?_)
    rw [List.getD_eq_getElem?_getD, List.getElem?_eq_getElem h]
    exact List.getElem_mem h
theorem all_get {p : Imp → Bool} {l : List Imp} : l.all p = true ↔ ∀ j, j < l.length → p (l.getD j .zero) = true := by
  rw [List.all_eq_true]
  constructor
  · intro h j hj
    rw [List.getD_eq_getElem?_getD, List.getElem?_eq_getElem hj]
    exact h _ (List.getElem_mem hj)
  · intro h x hx
    obtain ⟨j, hj, rfl⟩ := List.getElem_of_mem hx
    simpa [List.getD_eq_getElem?_getD, hj] using h j hj

/-- What the map of places holds. -/
def plF (pl : ByteArray → Option Nat) : ByteArray → Option Value := fun q => (pl q).map fun (n : Nat) => Value.int .i64 (n : Int)
theorem plF_some {pl : ByteArray → Option Nat} {q : ByteArray} {n : Nat} (h : pl q = some n) : plF pl q = some (.int .i64 n) := by unfold plF; rw [h]; rfl
theorem plF_none {pl : ByteArray → Option Nat} {q : ByteArray} (h : pl q = none) : plF pl q = none := by unfold plF; rw [h]; rfl
theorem plF_put (pl : ByteArray → Option Nat) (q : ByteArray) (n : Nat) : Map.put (plF pl) q (.int .i64 n) = plF (fun r => if r = q then some n else pl r) := by
  funext r
  unfold Map.put plF
  by_cases h : r = q <;> simp [h]
theorem map_ne_buf {w : World} {base b : Nat} {v : Value} {l : List UInt8} {f : ByteArray → Option Value} (h : BB w base v l) (hm : Map.Is Map.strK w b f) : b ∉ v.ownBlock.toList := by
  intro hb
  obtain ⟨es, c, hh, _⟩ := hm
  rcases h.2 with ⟨rfl, _⟩ | ⟨g, cap, cur, rfl, _, hg, _⟩
  · cases hb
  · simp [Value.ownBlock] at hb
    subst hb
    rw [hh] at hg
    cases hg
/-- Two rows of bytes of the call's own, apart. -/
structure Duo (w : World) (base : Nat) (v6 : Value) (l6 : List UInt8) (v7 : Value) (l7 : List UInt8) : Prop where
  one : BB w base v6 l6
  two : BB w base v7 l7
  ne : ∀ b, v6.ownBlock = some b → v7.ownBlock ≠ some b
section
variable {w w' : World} {base : Nat} {v6 v7 : Value} {l6 l7 : List UInt8}
theorem Duo.swap (h : Duo w base v6 l6 v7 l7) : Duo w base v7 l7 v6 l6 := ⟨h.two, h.one, fun b h1 h2 => h.ne b h2 h1⟩
theorem Duo.pure (h : Duo w base v6 l6 v7 l7) (k : Chg [] w w') : Duo w' base v6 l6 v7 l7 := ⟨h.one.pure k, h.two.pure k, h.ne⟩
theorem Duo.map (h : Duo w base v6 l6 v7 l7) {q : Nat} {f : ByteArray → Option Value} (hm : Map.Is Map.strK w q f) (k : Chg [q] w w') : Duo w' base v6 l6 v7 l7 :=
  ⟨h.one.frame k (fun b hb hq => map_ne_buf h.one hm (by simp at hq; subst hq; simp [hb])), h.two.frame k (fun b hb hq => map_ne_buf h.two hm (by simp at hq; subst hq; simp [hb])), h.ne⟩
/-- The second one grew. -/
theorem Duo.grow (h : Duo w base v6 l6 v7 l7) {v : Value} {l : List UInt8} (hv : BB w' base v l) (hg : w.grownBy w' v7.ownBlock) (hl : v.ownBlock = v7.ownBlock ∨ v.ownBlock = some w.heap.size) : Duo w' base v6 l6 v l :=
  ⟨h.one.frame (Lay.chg_grown hg) (fun b hb hm => h.ne b hb (by simpa using hm)), hv, fun b hb hb2 => by
    rcases hl with e | e
    · exact h.ne b hb (e.symm.trans hb2)
    · have := (h.one.lt b hb).2
      rw [e] at hb2
      cases hb2
      omega⟩
theorem Duo.chg (h : Duo w base v6 l6 v7 l7) (hg : w.grownBy w' v7.ownBlock) {w0 : World} (hb : base = w0.heap.size) (k : Chg [] w0 w) : Chg [] w0 w' :=
  k.trans (Lay.chg_grown hg) (fun i hi hw => by have := (h.two.lt i (by simpa using hi)).1; omega)
theorem Duo.is (h : Duo w base v6 l6 v7 l7) {q : Nat} {f : ByteArray → Option Value} (hm : Map.Is Map.strK w q f) (hg : w.grownBy w' v7.ownBlock) : Map.Is Map.strK w' q f := hm.frameS (Lay.chg_grown hg) (map_ne_buf h.two hm)
end
theorem Tryz.tPl : Map.Ty Map.strK Tryz.prog 158 (.int .i64 0) := ⟨9, 3, by kernel_rfl, by kernel_rfl, fun w => by kernel_rfl⟩
section
variable {κ : Type} {K : Map.Key κ} {P : Program} {T : TypeId} {ops : Array Oper} {rest : List Oper} {a : Act} {Q : Exit → Act → World → Prop} {w : World}
theorem get2S {z : Value} (hT : Map.Ty K P T z) {m k : Operand} {d : Tmp} {ty : TypeId} {pos : String} {after : Array Edge} {b : Nat} {f : κ → Option Value} (hb : Map.Is K w b f) (i : κ) (v : Value) (hf : f i = some v) (hm : a.eval m = .map (some b)) (hk : a.eval k = K.of i)
    (h : wpList P ops Q rest (a.put (some d) (.tuple #[v, .bool true])) w) : wpList P ops Q (⟨some d, .lookup T m k true, ty, pos, after, none⟩ :: rest) a w := by
  refine Map.get2L hT hb i hm hk ?_
  rw [hf]
  exact h
theorem get2N {z : Value} (hT : Map.Ty K P T z) {m k : Operand} {d : Tmp} {ty : TypeId} {pos : String} {after : Array Edge} {b : Nat} {f : κ → Option Value} (hb : Map.Is K w b f) (i : κ) (hf : f i = none) (hm : a.eval m = .map (some b)) (hk : a.eval k = K.of i)
    (h : wpList P ops Q rest (a.put (some d) (.tuple #[z, .bool false])) w) : wpList P ops Q (⟨some d, .lookup T m k true, ty, pos, after, none⟩ :: rest) a w := by
  refine Map.get2L hT hb i hm hk ?_
  rw [hf]
  exact h
/-- A function looked up in a map: the value is known. -/
theorem getV {z : Value} (hT : Map.Ty K P T z) {m k : Operand} {d : Tmp} {ty : TypeId} {pos : String} {after : Array Edge} {b : Nat} {f : κ → Option Value} (hb : Map.Is K w b f) (i : κ) (v : Value) (hf : (f i).getD z = v) (hm : a.eval m = .map (some b)) (hk : a.eval k = K.of i)
    (h : wpList P ops Q rest (a.put (some d) v) w) : wpList P ops Q (⟨some d, .lookup T m k false, ty, pos, after, none⟩ :: rest) a w := by
  refine Map.getL hT hb i hm hk ?_
  rw [hf]
  exact h
/-- The same under a guard that is met. -/
theorem wpList_want {o : Oper} (hw : Region.wanted o (yielded ops a.tmps) = true) (h : ∀ K : Act → World → Prop, (∀ a w, wpList P ops Q rest a w → K a w) → o.wp P a w K Q) : wpList P ops Q (o :: rest) a w := wpList_step fun K hK => by rw [if_pos hw]; exact h K hK
theorem ldG {α : Type} {L : Lay α} (hT : Lay.Ty L P T) {d : Tmp} {s : Operand} {ty : TypeId} {pos : String} {after : Array Edge} {g : Nat × Bool} {b off : Nat} (x : α) (hx : L.In w b off x) (hw : Region.wanted ⟨some d, .load T s, ty, pos, after, some g⟩ (yielded ops a.tmps) = true) (hs : a.eval s = .pointer (some ⟨b, off, none⟩))
    (h : wpList P ops Q rest (a.put (some d) (.agg (L.f x).toArray)) w) : wpList P ops Q (⟨some d, .load T s, ty, pos, after, some g⟩ :: rest) a w := by
  refine wpList_want hw fun K hK => ?_
  unfold Oper.wp execOp
  simp only [Instr.loadAt, Instr.sureAddr, Sem.run_bind, Sem.run_pure, hs, Result.andThen_ok, Lay.run_load_rec hT hx]
  exact hK _ _ h
/-- A slice of one record, built. -/
theorem bs1 {α : Type} {L : Lay α} {E : TypeId} {d : Tmp} {s : Operand} {ty : TypeId} {pos : String} {after : Array Edge} {g : Option (Nat × Bool)} (x : α)
    (hr : ∀ w, (Instr.buildSlice T 1 #[(0, L.val x)]).run P w = .ok (.slice (some ⟨w.heap.size, 0, none⟩) 1 1) (w.alloc (.cells (L.f x).toArray E)))
    (hw : Region.wanted ⟨some d, .buildSlice T 1 #[(0, s)], ty, pos, after, g⟩ (yielded ops a.tmps) = true) (hs : a.eval s = L.val x)
    (h : ∀ W v, Chg [] w W → L.Rd W v [x] → wpList P ops Q rest (a.put (some d) v) W) : wpList P ops Q (⟨some d, .buildSlice T 1 #[(0, s)], ty, pos, after, g⟩ :: rest) a w := by
  refine wpList_want hw fun K hK => ?_
  have hrw := hr w
  unfold Oper.wp execOp
  simp only [List.map_toArray, List.map_cons, List.map_nil, hs, Sem.run_bind, hrw, Result.andThen_ok, Sem.run_pure]
  exact hK _ _ (h _ _ ((Chg.refl _ _).alloc _) (Lay.Rd.of_heap (heap_alloc_eq _ _) (Lay.vals_single x).symm rfl (show 1 ≤ maxLen by decide)))
end
theorem imp_built (x : Imp) (w : World) : (Instr.buildSlice 49 1 #[(0, impL.val x)]).run Tryz.prog w = .ok (.slice (some ⟨w.heap.size, 0, none⟩) 1 1) (w.alloc (.cells (impL.f x).toArray 71)) := by
  show (Instr.buildSlice 49 1 #[(0, .agg #[.int .i64 x.ord, .bool x.weak, .string x.sym, .int .i64 x.add])]).run Tryz.prog w = .ok (.slice (some ⟨w.heap.size, 0, none⟩) 1 1) (w.alloc (.cells #[.int .i64 x.ord, .bool x.weak, .string x.sym, .int .i64 x.add] 71))
  go_simp
end Go.Proofs.YtpnldfinobnpoaaGreatDoor
