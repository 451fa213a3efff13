/- Lemmas, laid together: part 7 of 38. Conditions: none but each lemma's own. -/
import Derived.Test.YtgjlgamlmmjdpaaDoorJ3
import Derived.Shelf.LaysM
import Derived.Shelf.Strings.Search1
import Derived.Shelf.Strings.Search2
import Derived.Shelf.Strings.Search3
import Derived.Test.YtgjlgamlmmjdpaaDoorProg
import Derived.Test.YtgjlgamlmmjdpaaDoorJ5
import Derived.Test.YtgjlgamlmmjdpaaDoorJ6
import Derived.Laws.MakeOwn
import Derived.Test.YtgjlgamlmmjdpaaDoorJ1
import Derived.Deep.RegionHeld3
/- Records: chains, starts (printed by mkrecs2.sh). -/
namespace Go.Proofs.YtgjlgamlmmjdpaaDoor
open Go.RowKit
set_option maxRecDepth 100000

/-- A record Chn. -/
structure Chn where
  starts : SlV
  imps : SlV
def Chn.cells (s : Chn) : List Value := [.slice s.starts.a s.starts.n s.starts.cap, .slice s.imps.a s.imps.n s.imps.cap]
abbrev Chn.v (s : Chn) : Value := .agg #[.slice s.starts.a s.starts.n s.starts.cap, .slice s.imps.a s.imps.n s.imps.cap]
/-- Its numbers are of their kinds. -/
def Chn.wf (_ : Chn) : Prop := True
def Chn.zero : Chn := ⟨⟨none, 0, 0⟩, ⟨none, 0, 0⟩⟩
def chnL : Lay Chn := ⟨2, Chn.cells, Chn.zero, fun _ => rfl, by decide, fun x u hu => by
  simp only [Chn.cells, List.mem_cons, List.not_mem_nil, or_false] at hu
  rcases hu with rfl | rfl <;> rfl⟩
theorem Chn.at {w : World} {b o : Nat} {s : Chn} (h : chnL.In w b o s) : w.cell? ⟨b, o, none⟩ = some (.slice s.starts.a s.starts.n s.starts.cap) ∧ w.cell? ⟨b, o + 1, none⟩ = some (.slice s.imps.a s.imps.n s.imps.cap) :=
  ⟨h 0 (by decide), h 1 (by decide)⟩
theorem Chn.at0 {w : World} {b : Nat} {s : Chn} (h : chnL.In w b 0 s) : w.cell? ⟨b, 0, none⟩ = some (.slice s.starts.a s.starts.n s.starts.cap) ∧ w.cell? ⟨b, 1, none⟩ = some (.slice s.imps.a s.imps.n s.imps.cap) := by
  obtain ⟨h0, h1⟩ := Chn.at h
  simp only [Nat.zero_add] at h1
  exact ⟨h0, h1⟩
theorem Chn.boxed (w : World) (s : Chn) (T : TypeId) : chnL.In (w.alloc (.cells #[.slice s.starts.a s.starts.n s.starts.cap, .slice s.imps.a s.imps.n s.imps.cap] T)) w.heap.size 0 s := fun c _ => by
  rw [cell_of_heap (heap_alloc_eq w _), Nat.zero_add]
  exact List.getElem?_toArray ..
/-- A record in a block of its own: made, written, a field written. -/
theorem Chn.box (w : World) (s : Chn) (T : TypeId) : chnL.Box (w.alloc (.cells #[.slice s.starts.a s.starts.n s.starts.cap, .slice s.imps.a s.imps.n s.imps.cap] T)) w.heap.size s := Lay.Box.of_alloc (L := chnL) w s T
theorem Chn.boxAt (w : World) (s : Chn) (T : TypeId) {b : Nat} (hb : b = w.heap.size) : chnL.Box (w.alloc (.cells #[.slice s.starts.a s.starts.n s.starts.cap, .slice s.imps.a s.imps.n s.imps.cap] T)) b s := by rw [hb]; exact Chn.box w s T
theorem Chn.put0 {w : World} {g : Nat} {y : Chn} (h : chnL.Box w g y) (s : Chn) : chnL.Box ((w.setCell ⟨g, 0, none⟩ (.slice s.starts.a s.starts.n s.starts.cap)).setCell ⟨g, 1, none⟩ (.slice s.imps.a s.imps.n s.imps.cap)) g s := Lay.Box.put h s
theorem Chn.chg0 (w : World) (g : Nat) (s : Chn) : Chg [g] w ((w.setCell ⟨g, 0, none⟩ (.slice s.starts.a s.starts.n s.starts.cap)).setCell ⟨g, 1, none⟩ (.slice s.imps.a s.imps.n s.imps.cap)) := Lay.setW_chg g s.cells w 0
theorem Chn.set_starts {w : World} {g : Nat} {s : Chn} (h : chnL.Box w g s) (x : SlV) : chnL.Box (w.setCell ⟨g, 0, none⟩ (.slice x.a x.n x.cap)) g { s with starts := x } := Lay.Box.set h 0 _ _ rfl
theorem Chn.set_imps {w : World} {g : Nat} {s : Chn} (h : chnL.Box w g s) (x : SlV) : chnL.Box (w.setCell ⟨g, 1, none⟩ (.slice x.a x.n x.cap)) g { s with imps := x } := Lay.Box.set h 1 _ _ rfl
theorem Chn.c_starts {w : World} {b : Nat} {s : Chn} (h : chnL.Box w b s) : w.cell? ⟨b, 0, none⟩ = some (.slice s.starts.a s.starts.n s.starts.cap) := by have := h.in 0 (by decide); rw [Nat.zero_add] at this; exact this
theorem Chn.c_imps {w : World} {b : Nat} {s : Chn} (h : chnL.Box w b s) : w.cell? ⟨b, 1, none⟩ = some (.slice s.imps.a s.imps.n s.imps.cap) := by have := h.in 1 (by decide); rw [Nat.zero_add] at this; exact this
theorem Chn.at0B {w : World} {b : Nat} {s : Chn} (h : chnL.Box w b s) : w.cell? ⟨b, 0, none⟩ = some (.slice s.starts.a s.starts.n s.starts.cap) ∧ w.cell? ⟨b, 1, none⟩ = some (.slice s.imps.a s.imps.n s.imps.cap) := Chn.at0 h.in
/-- A record Sta. -/
structure Sta where
  seg : Int
  page : Int
  fmt : Int
  begins : SlV
def Sta.cells (s : Sta) : List Value := [.int .i64 s.seg, .int .i64 s.page, .int .i64 s.fmt, .slice s.begins.a s.begins.n s.begins.cap]
abbrev Sta.v (s : Sta) : Value := .agg #[.int .i64 s.seg, .int .i64 s.page, .int .i64 s.fmt, .slice s.begins.a s.begins.n s.begins.cap]
/-- Its numbers are of their kinds. -/
def Sta.wf (s : Sta) : Prop := (Lit.int .i64 s.seg).wf = true ∧ (Lit.int .i64 s.page).wf = true ∧ (Lit.int .i64 s.fmt).wf = true
def Sta.zero : Sta := ⟨0, 0, 0, ⟨none, 0, 0⟩⟩
def staL : Lay Sta := ⟨4, Sta.cells, Sta.zero, fun _ => rfl, by decide, fun x u hu => by
  simp only [Sta.cells, List.mem_cons, List.not_mem_nil, or_false] at hu
  rcases hu with rfl | rfl | rfl | rfl <;> rfl⟩
theorem Sta.at {w : World} {b o : Nat} {s : Sta} (h : staL.In w b o s) : w.cell? ⟨b, o, none⟩ = some (.int .i64 s.seg) ∧ w.cell? ⟨b, o + 1, none⟩ = some (.int .i64 s.page) ∧ w.cell? ⟨b, o + 2, none⟩ = some (.int .i64 s.fmt) ∧ w.cell? ⟨b, o + 3, none⟩ = some (.slice s.begins.a s.begins.n s.begins.cap) :=
  ⟨h 0 (by decide), h 1 (by decide), h 2 (by decide), h 3 (by decide)⟩
theorem Sta.at0 {w : World} {b : Nat} {s : Sta} (h : staL.In w b 0 s) : w.cell? ⟨b, 0, none⟩ = some (.int .i64 s.seg) ∧ w.cell? ⟨b, 1, none⟩ = some (.int .i64 s.page) ∧ w.cell? ⟨b, 2, none⟩ = some (.int .i64 s.fmt) ∧ w.cell? ⟨b, 3, none⟩ = some (.slice s.begins.a s.begins.n s.begins.cap) := by
  obtain ⟨h0, h1, h2, h3⟩ := Sta.at h
  simp only [Nat.zero_add] at h1 h2 h3
  exact ⟨h0, h1, h2, h3⟩
theorem Sta.boxed (w : World) (s : Sta) (T : TypeId) : staL.In (w.alloc (.cells #[.int .i64 s.seg, .int .i64 s.page, .int .i64 s.fmt, .slice s.begins.a s.begins.n s.begins.cap] T)) w.heap.size 0 s := fun c _ => by
  rw [cell_of_heap (heap_alloc_eq w _), Nat.zero_add]
  exact List.getElem?_toArray ..
/-- A record in a block of its own: made, written, a field written. -/
theorem Sta.box (w : World) (s : Sta) (T : TypeId) : staL.Box (w.alloc (.cells #[.int .i64 s.seg, .int .i64 s.page, .int .i64 s.fmt, .slice s.begins.a s.begins.n s.begins.cap] T)) w.heap.size s := Lay.Box.of_alloc (L := staL) w s T
theorem Sta.boxAt (w : World) (s : Sta) (T : TypeId) {b : Nat} (hb : b = w.heap.size) : staL.Box (w.alloc (.cells #[.int .i64 s.seg, .int .i64 s.page, .int .i64 s.fmt, .slice s.begins.a s.begins.n s.begins.cap] T)) b s := by rw [hb]; exact Sta.box w s T
theorem Sta.put0 {w : World} {g : Nat} {y : Sta} (h : staL.Box w g y) (s : Sta) : staL.Box ((((w.setCell ⟨g, 0, none⟩ (.int .i64 s.seg)).setCell ⟨g, 1, none⟩ (.int .i64 s.page)).setCell ⟨g, 2, none⟩ (.int .i64 s.fmt)).setCell ⟨g, 3, none⟩ (.slice s.begins.a s.begins.n s.begins.cap)) g s := Lay.Box.put h s
theorem Sta.chg0 (w : World) (g : Nat) (s : Sta) : Chg [g] w ((((w.setCell ⟨g, 0, none⟩ (.int .i64 s.seg)).setCell ⟨g, 1, none⟩ (.int .i64 s.page)).setCell ⟨g, 2, none⟩ (.int .i64 s.fmt)).setCell ⟨g, 3, none⟩ (.slice s.begins.a s.begins.n s.begins.cap)) := Lay.setW_chg g s.cells w 0
theorem Sta.set_seg {w : World} {g : Nat} {s : Sta} (h : staL.Box w g s) (x : Int) : staL.Box (w.setCell ⟨g, 0, none⟩ (.int .i64 x)) g { s with seg := x } := Lay.Box.set h 0 _ _ rfl
theorem Sta.set_page {w : World} {g : Nat} {s : Sta} (h : staL.Box w g s) (x : Int) : staL.Box (w.setCell ⟨g, 1, none⟩ (.int .i64 x)) g { s with page := x } := Lay.Box.set h 1 _ _ rfl
theorem Sta.set_fmt {w : World} {g : Nat} {s : Sta} (h : staL.Box w g s) (x : Int) : staL.Box (w.setCell ⟨g, 2, none⟩ (.int .i64 x)) g { s with fmt := x } := Lay.Box.set h 2 _ _ rfl
theorem Sta.set_begins {w : World} {g : Nat} {s : Sta} (h : staL.Box w g s) (x : SlV) : staL.Box (w.setCell ⟨g, 3, none⟩ (.slice x.a x.n x.cap)) g { s with begins := x } := Lay.Box.set h 3 _ _ rfl
theorem Sta.c_seg {w : World} {b : Nat} {s : Sta} (h : staL.Box w b s) : w.cell? ⟨b, 0, none⟩ = some (.int .i64 s.seg) := by have := h.in 0 (by decide); rw [Nat.zero_add] at this; exact this
theorem Sta.c_page {w : World} {b : Nat} {s : Sta} (h : staL.Box w b s) : w.cell? ⟨b, 1, none⟩ = some (.int .i64 s.page) := by have := h.in 1 (by decide); rw [Nat.zero_add] at this; exact this
theorem Sta.c_fmt {w : World} {b : Nat} {s : Sta} (h : staL.Box w b s) : w.cell? ⟨b, 2, none⟩ = some (.int .i64 s.fmt) := by have := h.in 2 (by decide); rw [Nat.zero_add] at this; exact this
theorem Sta.c_begins {w : World} {b : Nat} {s : Sta} (h : staL.Box w b s) : w.cell? ⟨b, 3, none⟩ = some (.slice s.begins.a s.begins.n s.begins.cap) := by have := h.in 3 (by decide); rw [Nat.zero_add] at this; exact this
theorem Sta.at0B {w : World} {b : Nat} {s : Sta} (h : staL.Box w b s) : w.cell? ⟨b, 0, none⟩ = some (.int .i64 s.seg) ∧ w.cell? ⟨b, 1, none⟩ = some (.int .i64 s.page) ∧ w.cell? ⟨b, 2, none⟩ = some (.int .i64 s.fmt) ∧ w.cell? ⟨b, 3, none⟩ = some (.slice s.begins.a s.begins.n s.begins.cap) := Sta.at0 h.in
end Go.Proofs.YtgjlgamlmmjdpaaDoor
/- Contracts of the library, proved once in the kit, laid at this seat's program: strings.Contains. -/
namespace Go.Proofs
open Go.Shelf
end Go.Proofs
/- chain: which ordinals may be; what reads imports of a format; starts of none. -/
namespace Go.Proofs.YtgjlgamlmmjdpaaDoor
open Go.RowKit
set_option maxRecDepth 100000

theorem Tryd.tImg : Lay.Ty imgL Tryd.prog 37 := Lay.Ty.mk' (by kernel_rfl) (by kernel_rfl)
/-- May an import have an ordinal, of so many dependencies? -/
def ordB (n : Int) (d : Nat) : Bool := decide (-3 ≤ n) && decide (n ≤ (d : Int))
/-- Starts of none, laid: how many segments, and nothing for each. -/
def laid0 (n : Nat) : List UInt8 := leB n 4 ++ List.replicate (4 * n) 0
theorem leB_zero (k : Nat) : leB 0 k = List.replicate k 0 := by
  apply List.ext_getElem?
  intro j
  by_cases h : j < k <;> simp [leB, h]
theorem rep_append (a b : Nat) : List.replicate a (0 : UInt8) ++ List.replicate b 0 = List.replicate (a + b) 0 := by simp
def u64L : Lay Int := ⟨1, fun b => [.int .u64 b], 0, fun _ => rfl, by decide, fun x u hu => by
  simp only [List.mem_singleton] at hu
  subst hu
  rfl⟩
end Go.Proofs.YtgjlgamlmmjdpaaDoor
/- Plain: a region that draws its order, gone through in the order of its text: the steps of such a walk. No program in sight. -/
namespace Go.Proofs.YtgjlgamlmmjdpaaDoor
open Go.RowKit

section
variable {P : Program} {ops : Array Oper} {Q : Exit → Act → World → Prop} {md : Region.Mode} {S S' : World → Prop}
/-- What is held may grow on the way. -/
theorem wpAnyH_mono (hs : ∀ w, S' w → S w) : ∀ (fuel : Nat) (listed : Array Bool) (a : Act) (w : World), wpAnyH P md ops Q S' fuel listed a w → wpAnyH P md ops Q S fuel listed a w
  | 0, _, _, _, h => h
  | fuel + 1, _, _, _, h => ⟨h.1, fun i hi => wpOp_mono (fun a' w' h' => ⟨hs w' h'.1, wpAnyH_mono hs fuel _ a' w' h'.2⟩) (h.2 i hi)⟩
/-- An operation that only reads, its value the same wherever S holds. -/
theorem take_read {i : Nat} {oi : Oper} {v : Value} {fuel : Nat} {listed : Array Bool} {a : Act} {w : World} (hi : ops[i]? = some oi)
    (hs : Region.noSelect ops = true) (hf : Region.free md ops listed i = true) (hr : (Region.ready md ops listed).contains i = true)
    (hQ : ∀ c a w, Q (.panic c) (a.put oi.dst v) w → Q (.panic c) a w) (hS : S w)
    (hy : ∀ w, S w → if Region.wanted oi (yielded ops a.tmps) = true then (execOp a.eval oi).run P w = .ok (.value v) w else v = undef)
    (h : wpAnyH P md ops Q S fuel (listed.setIfInBounds i true) (a.put oi.dst v) w) : wpAnyH P md ops Q S (fuel + 1) listed a w := by
  refine wpAnyH_take hi hs hf hr hQ ?_ hS h
  unfold YieldsIf
  cases hw : Region.wanted oi (yielded ops a.tmps) with
  | true =>
    left
    exact ⟨rfl, fun w hw' => by have := hy w hw'; rw [hw, if_pos rfl] at this; exact this⟩
  | false =>
    right
    exact ⟨rfl, by have := hy w hS; rw [hw, if_neg (by decide)] at this; exact this⟩
end
end Go.Proofs.YtgjlgamlmmjdpaaDoor
/- chain.bytes at format 3; at each. -/
namespace Go.Proofs.YtgjlgamlmmjdpaaDoor
open Go.RowKit
set_option maxRecDepth 100000

/-- An import's bytes, of any format. -/
def impBB (x : Imp) (name : Nat) (fmt : Int) : List UInt8 := if fmt = 3 then leB (u64N x.ord % 65536 + (if x.weak then 65536 else 0) + name * 4294967296) 8 ++ leB (u64N x.add) 8 else impB x name fmt
theorem impBB_len (x : Imp) (n : Nat) (f : Int) : (impBB x n f).length ≤ 16 := by
  unfold impBB impB
  split
  · simp [leB_len]
  · split <;> simp [leB_len]
end Go.Proofs.YtgjlgamlmmjdpaaDoor
/- Imports laid: the plain part of chain.named; two laws of look-ups. -/
namespace Go.Proofs.YtgjlgamlmmjdpaaDoor
open Go.RowKit
set_option maxRecDepth 100000

/-- Imports laid: their bytes, the names, where each name stands. -/
structure Nm where
  out : List UInt8
  ns : List UInt8
  pl : ByteArray → Option Nat
def Nm.zero : Nm := ⟨[], [0], fun _ => none⟩
/-- Where a name stands. -/
def Nm.at (s : Nm) (x : Imp) : Nat := (s.pl x.sym).getD s.ns.length
def Nm.step (fmt : Int) (s : Nm) (x : Imp) : Nm := ⟨s.out ++ impBB x (s.at x) fmt, if s.pl x.sym = none then s.ns ++ (x.sym.data.toList ++ [0]) else s.ns, if s.pl x.sym = none then (fun q => if q = x.sym then some s.ns.length else s.pl q) else s.pl⟩
def nmAll (fmt : Int) (l : List Imp) : Nm := l.foldl (Nm.step fmt) .zero
theorem nmAll_snoc (fmt : Int) (l : List Imp) (x : Imp) : nmAll fmt (l ++ [x]) = (nmAll fmt l).step fmt x := by unfold nmAll; rw [List.foldl_append]; rfl
theorem take_snoc {l : List Imp} {k : Nat} (h : k < l.length) : l.take (k + 1) = l.take k ++ [l.getD k .zero] := by
  rw [List.take_add_one]
  simp [List.getD_eq_getElem?_getD, h]
/-- May an import be laid? -/
def txtB (s : ByteArray) : Bool := decide (s.size ≠ 0) && decide (s.size ≤ 255) && !decide (0 ≤ Lib.indexByte s.data.toList 0)
def okI (d : Nat) (fmt : Int) (x : Imp) : Bool := txtB x.sym && ordB x.ord d && decide (fmtN [x] ≤ fmt)
/-- How long all of it is; no place is beyond the names. -/
structure Nm.Fit (s : Nm) (k : Nat) : Prop where
  out : s.out.length ≤ 16 * k
  ns : s.ns.length ≤ 1 + 301 * k
  pl : ∀ q n, s.pl q = some n → n ≤ s.ns.length
theorem Nm.Fit.at_le {s : Nm} {k : Nat} (h : s.Fit k) (x : Imp) : s.at x ≤ s.ns.length := by
  unfold Nm.at
  cases e : s.pl x.sym with
  | none => exact Nat.le_refl _
  | some n => exact h.pl _ _ e
theorem Nm.Fit.step {s : Nm} {k : Nat} (h : s.Fit k) (f : Int) (x : Imp) (hx : x.sym.size ≤ 300) : (s.step f x).Fit (k + 1) := by
  have h1 := h.out
  have h2 := h.ns
  have h3 := impBB_len x (s.at x) f
  have hs : x.sym.data.toList.length = x.sym.size := str_len _
  constructor
  · simp only [Nm.step, List.length_append]
    omega
  · simp only [Nm.step]
    split
    · simp only [List.length_append, List.length_singleton, hs]; omega
    · omega
  · intro q n
    simp only [Nm.step]
    split
    · intro e
      replace e : (if q = x.sym then some s.ns.length else s.pl q) = some n := e
      split at e
      · cases e; simp only [List.length_append]; omega
      · have := h.pl _ _ e; simp only [List.length_append]; omega
    · exact h.pl q n
theorem nmAll_fit (f : Int) (l : List Imp) (hs : ∀ x ∈ l, x.sym.size ≤ 300) : ∀ k, k ≤ l.length → (nmAll f (l.take k)).Fit k
  | 0, _ => ⟨by simp [nmAll, Nm.zero], by simp [nmAll, Nm.zero], by simp [nmAll, Nm.zero]⟩
  | k + 1, h => by
    rw [take_snoc h, nmAll_snoc]
    refine (nmAll_fit f l hs k (Nat.le_of_lt h)).step f _ (hs _ ?_)
    rw [List.getD_eq_getElem?_getD, List.getElem?_eq_getElem h]
    exact List.getElem_mem h
theorem all_get {p : Imp → Bool} {l : List Imp} : l.all p = true ↔ ∀ j, j < l.length → p (l.getD j .zero) = true := by
  rw [List.all_eq_true]
  constructor
  · intro h j hj
    rw [List.getD_eq_getElem?_getD, List.getElem?_eq_getElem hj]
    exact h _ (List.getElem_mem hj)
  · intro h x hx
    obtain ⟨j, hj, rfl⟩ := List.getElem_of_mem hx
    simpa [List.getD_eq_getElem?_getD, hj] using h j hj

/-- What the map of places holds. -/
def plF (pl : ByteArray → Option Nat) : ByteArray → Option Value := fun q => (pl q).map fun (n : Nat) => Value.int .i64 (n : Int)
theorem plF_some {pl : ByteArray → Option Nat} {q : ByteArray} {n : Nat} (h : pl q = some n) : plF pl q = some (.int .i64 n) := by unfold plF; rw [h]; rfl
theorem plF_none {pl : ByteArray → Option Nat} {q : ByteArray} (h : pl q = none) : plF pl q = none := by unfold plF; rw [h]; rfl
theorem plF_put (pl : ByteArray → Option Nat) (q : ByteArray) (n : Nat) : Map.put (plF pl) q (.int .i64 n) = plF (fun r => if r = q then some n else pl r) := by
  funext r
  unfold Map.put plF
  by_cases h : r = q <;> simp [h]
theorem map_ne_buf {w : World} {base b : Nat} {v : Value} {l : List UInt8} {f : ByteArray → Option Value} (h : BB w base v l) (hm : Map.Is Map.strK w b f) : b ∉ v.ownBlock.toList := by
  intro hb
  obtain ⟨es, c, hh, _⟩ := hm
  rcases h.2 with ⟨rfl, _⟩ | ⟨g, cap, cur, rfl, _, hg, _⟩
  · cases hb
  · simp [Value.ownBlock] at hb
    subst hb
    rw [hh] at hg
    cases hg
/-- Two rows of bytes of the call's own, apart. -/
structure Duo (w : World) (base : Nat) (v6 : Value) (l6 : List UInt8) (v7 : Value) (l7 : List UInt8) : Prop where
  one : BB w base v6 l6
  two : BB w base v7 l7
  ne : ∀ b, v6.ownBlock = some b → v7.ownBlock ≠ some b
section
variable {w w' : World} {base : Nat} {v6 v7 : Value} {l6 l7 : List UInt8}
theorem Duo.swap (h : Duo w base v6 l6 v7 l7) : Duo w base v7 l7 v6 l6 := ⟨h.two, h.one, fun b h1 h2 => h.ne b h2 h1⟩
theorem Duo.pure (h : Duo w base v6 l6 v7 l7) (k : Chg [] w w') : Duo w' base v6 l6 v7 l7 := ⟨h.one.pure k, h.two.pure k, h.ne⟩
theorem Duo.map (h : Duo w base v6 l6 v7 l7) {q : Nat} {f : ByteArray → Option Value} (hm : Map.Is Map.strK w q f) (k : Chg [q] w w') : Duo w' base v6 l6 v7 l7 :=
  ⟨h.one.frame k (fun b hb hq => map_ne_buf h.one hm (by simp at hq; subst hq; simp [hb])), h.two.frame k (fun b hb hq => map_ne_buf h.two hm (by simp at hq; subst hq; simp [hb])), h.ne⟩
/-- The second one grew. -/
theorem Duo.grow (h : Duo w base v6 l6 v7 l7) {v : Value} {l : List UInt8} (hv : BB w' base v l) (hg : w.grownBy w' v7.ownBlock) (hl : v.ownBlock = v7.ownBlock ∨ v.ownBlock = some w.heap.size) : Duo w' base v6 l6 v l :=
  ⟨h.one.frame (Lay.chg_grown hg) (fun b hb hm => h.ne b hb (by simpa using hm)), hv, fun b hb hb2 => by
    rcases hl with e | e
    · exact h.ne b hb (e.symm.trans hb2)
    · have := (h.one.lt b hb).2
      rw [e] at hb2
      cases hb2
      omega⟩
theorem Duo.chg (h : Duo w base v6 l6 v7 l7) (hg : w.grownBy w' v7.ownBlock) {w0 : World} (hb : base = w0.heap.size) (k : Chg [] w0 w) : Chg [] w0 w' :=
  k.trans (Lay.chg_grown hg) (fun i hi hw => by have := (h.two.lt i (by simpa using hi)).1; omega)
theorem Duo.is (h : Duo w base v6 l6 v7 l7) {q : Nat} {f : ByteArray → Option Value} (hm : Map.Is Map.strK w q f) (hg : w.grownBy w' v7.ownBlock) : Map.Is Map.strK w' q f := hm.frameS (Lay.chg_grown hg) (map_ne_buf h.two hm)
end
section
variable {κ : Type} {K : Map.Key κ} {P : Program} {T : TypeId} {ops : Array Oper} {rest : List Oper} {a : Act} {Q : Exit → Act → World → Prop} {w : World}
theorem get2S {z : Value} (hT : Map.Ty K P T z) {m k : Operand} {d : Tmp} {ty : TypeId} {pos : String} {after : Array Edge} {b : Nat} {f : κ → Option Value} (hb : Map.Is K w b f) (i : κ) (v : Value) (hf : f i = some v) (hm : a.eval m = .map (some b)) (hk : a.eval k = K.of i)
    (h : wpList P ops Q rest (a.put (some d) (.tuple #[v, .bool true])) w) : wpList P ops Q (⟨some d, .lookup T m k true, ty, pos, after, none⟩ :: rest) a w := by
  refine Map.get2L hT hb i hm hk ?_
  rw [hf]
  exact h
theorem get2N {z : Value} (hT : Map.Ty K P T z) {m k : Operand} {d : Tmp} {ty : TypeId} {pos : String} {after : Array Edge} {b : Nat} {f : κ → Option Value} (hb : Map.Is K w b f) (i : κ) (hf : f i = none) (hm : a.eval m = .map (some b)) (hk : a.eval k = K.of i)
    (h : wpList P ops Q rest (a.put (some d) (.tuple #[z, .bool false])) w) : wpList P ops Q (⟨some d, .lookup T m k true, ty, pos, after, none⟩ :: rest) a w := by
  refine Map.get2L hT hb i hm hk ?_
  rw [hf]
  exact h
/-- A function looked up in a map: the value is known. -/
theorem getV {z : Value} (hT : Map.Ty K P T z) {m k : Operand} {d : Tmp} {ty : TypeId} {pos : String} {after : Array Edge} {b : Nat} {f : κ → Option Value} (hb : Map.Is K w b f) (i : κ) (v : Value) (hf : (f i).getD z = v) (hm : a.eval m = .map (some b)) (hk : a.eval k = K.of i)
    (h : wpList P ops Q rest (a.put (some d) v) w) : wpList P ops Q (⟨some d, .lookup T m k false, ty, pos, after, none⟩ :: rest) a w := by
  refine Map.getL hT hb i hm hk ?_
  rw [hf]
  exact h
/-- The same under a guard that is met. -/
theorem wpList_want {o : Oper} (hw : Region.wanted o (yielded ops a.tmps) = true) (h : ∀ K : Act → World → Prop, (∀ a w, wpList P ops Q rest a w → K a w) → o.wp P a w K Q) : wpList P ops Q (o :: rest) a w := wpList_step fun K hK => by rw [if_pos hw]; exact h K hK
theorem ldG {α : Type} {L : Lay α} (hT : Lay.Ty L P T) {d : Tmp} {s : Operand} {ty : TypeId} {pos : String} {after : Array Edge} {g : Nat × Bool} {b off : Nat} (x : α) (hx : L.In w b off x) (hw : Region.wanted ⟨some d, .load T s, ty, pos, after, some g⟩ (yielded ops a.tmps) = true) (hs : a.eval s = .pointer (some ⟨b, off, none⟩))
    (h : wpList P ops Q rest (a.put (some d) (.agg (L.f x).toArray)) w) : wpList P ops Q (⟨some d, .load T s, ty, pos, after, some g⟩ :: rest) a w := by
  refine wpList_want hw fun K hK => ?_
  unfold Oper.wp execOp
  simp only [Instr.loadAt, Instr.sureAddr, Sem.run_bind, Sem.run_pure, hs, Result.andThen_ok, Lay.run_load_rec hT hx]
  exact hK _ _ h
/-- A slice of one record, built. -/
theorem bs1 {α : Type} {L : Lay α} {E : TypeId} {d : Tmp} {s : Operand} {ty : TypeId} {pos : String} {after : Array Edge} {g : Option (Nat × Bool)} (x : α)
    (hr : ∀ w, (Instr.buildSlice T 1 #[(0, L.val x)]).run P w = .ok (.slice (some ⟨w.heap.size, 0, none⟩) 1 1) (w.alloc (.cells (L.f x).toArray E)))
    (hw : Region.wanted ⟨some d, .buildSlice T 1 #[(0, s)], ty, pos, after, g⟩ (yielded ops a.tmps) = true) (hs : a.eval s = L.val x)
    (h : ∀ W v, Chg [] w W → L.Rd W v [x] → wpList P ops Q rest (a.put (some d) v) W) : wpList P ops Q (⟨some d, .buildSlice T 1 #[(0, s)], ty, pos, after, g⟩ :: rest) a w := by
  refine wpList_want hw fun K hK => ?_
  have hrw := hr w
  unfold Oper.wp execOp
  simp only [List.map_toArray, List.map_cons, List.map_nil, hs, Sem.run_bind, hrw, Result.andThen_ok, Sem.run_pure]
  exact hK _ _ (h _ _ ((Chg.refl _ _).alloc _) (Lay.Rd.of_heap (heap_alloc_eq _ _) (Lay.vals_single x).symm rfl (show 1 ≤ maxLen by decide)))
end
end Go.Proofs.YtgjlgamlmmjdpaaDoor
