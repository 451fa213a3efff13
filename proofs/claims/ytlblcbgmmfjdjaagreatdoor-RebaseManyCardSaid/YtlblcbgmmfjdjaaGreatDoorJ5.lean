/- Lemmas, laid together: part 5 of 35. Conditions: none but each lemma's own. -/
import Derived.Test.YtlblcbgmmfjdjaaGreatDoorJ3
import Derived.Laws.Cells
import Derived.Test.YtlblcbgmmfjdjaaGreatDoorJ1
import Derived.Deep.RegionHeld3
import Derived.Test.YtlblcbgmmfjdjaaGreatDoorJ4
import Derived.Test.YtlblcbgmmfjdjaaGreatDoorProg
import Derived.Deep.CutRange
import Derived.StillTailTactics
import Derived.Handy
/- Operations on whole records, as laws for the walk: boxed, loaded, stored, made. No program in sight. -/
namespace Go.Proofs.YtlblcbgmmfjdjaaGreatDoor
open Go.RowKit
set_option maxRecDepth 100000
namespace Lay
variable {α : Type} {L : Lay α} {P : Program} {T : TypeId}

def isRec : TypeDesc → Bool
  | .struct _ => true
  | _ => false
/-- What the program says of a record's type: it lies in as many cells, and what its zero is. -/
structure Ty (L : Lay α) (P : Program) (T : TypeId) : Prop where
  agg : ∃ fs, P.underlying T = some (.struct fs)
  info : ∃ i, P.info? T = some i ∧ i.size = L.n ∧ i.zero = some (.agg (L.f L.d).toArray)
theorem Ty.mk' (hu : (P.underlying T).map isRec = some true) (hi : (P.info? T).map (fun i => (i.zero, i.size)) = some (some (.agg (L.f L.d).toArray), L.n)) : Ty L P T := by
  constructor
  · cases h : P.underlying T with
    | none => rw [h] at hu; cases hu
    | some d =>
      cases d with
      | struct fs => exact ⟨fs, rfl⟩
      | _ => rw [h] at hu; cases hu
  · cases h : P.info? T with
    | none => rw [h] at hi; cases hi
    | some i =>
      rw [h] at hi
      simp only [Option.map_some, Option.some.injEq, Prod.mk.injEq] at hi
      exact ⟨i, rfl, hi.2, hi.1⟩
theorem run_isAgg (hT : Ty L P T) (w : World) : (isAgg T).run P w = .ok true w := by
  obtain ⟨fs, hu⟩ := hT.agg
  simp [isAgg, run_underlying hu]
theorem run_size (hT : Ty L P T) (w : World) : (sizeOf T).run P w = .ok L.n w := by
  obtain ⟨i, hi, hs, _⟩ := hT.info
  simp [sizeOf, typeInfo, hi, hs]
theorem run_zero (hT : Ty L P T) (w : World) : (zeroValue T).run P w = .ok (.agg (L.f L.d).toArray) w := by
  obtain ⟨i, hi, hs, hz⟩ := hT.info
  simp [zeroValue, typeInfo, hi, hz]
theorem run_load_rec (hT : Ty L P T) {w : World} {b o : Nat} {x : α} (h : L.In w b o x) : (loadVar T ⟨b, o, none⟩).run P w = .ok (.agg (L.f x).toArray) w := by
  have h1 := run_loadCells_list (P := P) w ⟨b, o, none⟩ (L.f x) (fun j v hv => by
    rw [addr_add]
    have hj : j < L.n := by have := (List.getElem?_eq_some_iff.1 hv).1; rw [L.len] at this; exact this
    rw [h j hj, hv])
  rw [L.len] at h1
  unfold loadVar
  simp [run_isAgg hT, run_size hT, h1]
theorem run_storeCells {g : Nat} : ∀ (us : List Value) (w : World) (o i : Nat), (∀ u ∈ us, u.oneCell' = true) → (∀ c, c < us.length → ∃ u, w.cell? ⟨g, o + i + c, none⟩ = some u) → (∀ j, w.frozen? ⟨g, j, none⟩ = false) →
    (storeCells ⟨g, o, none⟩ us i).run P w = .ok () (setW w g (o + i) us)
  | [], w, o, i, _, _, _ => by simp [storeCells, setW]
  | u :: r, w, o, i, h1, hc, hf => by
    obtain ⟨u0, hu0⟩ := hc 0 (by simp)
    rw [Nat.add_zero] at hu0
    have h1u := h1 u (List.mem_cons_self ..)
    have hst : (store ((⟨g, o, none⟩ : Addr).add i) u).run P w = .ok () (w.setCell ⟨g, o + i, none⟩ u) := by
      rw [addr_add, run_store P w _ u _ h1u]
      simp [hu0, hf]
    have ih := run_storeCells r (w.setCell ⟨g, o + i, none⟩ u) o (i + 1) (fun v hv => h1 v (List.mem_cons_of_mem _ hv)) (fun c hcl => by
      obtain ⟨v, hv⟩ := hc (c + 1) (by simpa using hcl)
      rw [show o + (i + 1) + c = o + i + (c + 1) by omega]
      exact cell?_setCell_some hv) (fun j => by simpa using hf j)
    unfold storeCells setW
    simp only [Sem.run_bind, hst, Result.andThen_ok]
    rw [ih, show o + (i + 1) = o + i + 1 by omega]
section
variable {ops : Array Oper} {rest : List Oper} {o : Oper} {a : Act} {Q : Exit → Act → World → Prop} {w : World}
/-- A record is loaded. -/
theorem ld (hT : Ty L P T) (hgd : o.guard = none) (s : Operand) (ho : o.op = .load T s) {b off : Nat} (hs : a.eval s = .pointer (some ⟨b, off, none⟩)) {x : α} (hx : L.In w b off x)
    (h : wpList P ops Q rest (a.put o.dst (.agg (L.f x).toArray)) w) : wpList P ops Q (o :: rest) a w := by
  refine wpList_plain hgd fun K hK => ?_
  unfold Oper.wp execOp
  simp only [ho, Instr.loadAt, Instr.sureAddr, Sem.run_bind, Sem.run_pure, hs, Result.andThen_ok, run_load_rec hT hx]
  exact hK _ _ h
/-- A record is boxed. -/
theorem bx (hgd : o.guard = none) (s : Operand) (ho : o.op = .box T s) {x : α} (hs : a.eval s = .agg (L.f x).toArray)
    (h : ∀ W b, b = w.heap.size → Chg [] w W → L.Box W b x → wpList P ops Q rest (a.put o.dst (.pointer (some ⟨b, 0, none⟩))) W) : wpList P ops Q (o :: rest) a w := by
  refine wpList_plain hgd fun K hK => ?_
  unfold Oper.wp execOp
  have := h _ _ rfl ((Chg.refl [] w).alloc _) (Box.of_alloc (L := L) w x T)
  simp [ho, Instr.box, hs, newVar, newRow, Value.cells]
  exact hK _ _ this
/-- A record is made. -/
theorem al (hT : Ty L P T) (hgd : o.guard = none) (ho : o.op = .alloc T)
    (h : ∀ W b, b = w.heap.size → Chg [] w W → L.Box W b L.d → wpList P ops Q rest (a.put o.dst (.pointer (some ⟨b, 0, none⟩))) W) : wpList P ops Q (o :: rest) a w := by
  refine wpList_plain hgd fun K hK => ?_
  unfold Oper.wp execOp
  have := h _ _ rfl ((Chg.refl [] w).alloc _) (Box.of_alloc (L := L) w L.d T)
  simp [ho, Instr.alloc, run_zero hT, newVar, newRow, Value.cells]
  exact hK _ _ this
/-- A record is stored. -/
theorem st (hT : Ty L P T) (hgd : o.guard = none) (p s : Operand) (ho : o.op = .store T p s) {b : Nat} (hp : a.eval p = .pointer (some ⟨b, 0, none⟩)) {x y : α} (hs : a.eval s = .agg (L.f x).toArray) (hb : L.Box w b y)
    (h : ∀ W, Chg [b] w W → L.Box W b x → wpList P ops Q rest (a.put o.dst undef) W) : wpList P ops Q (o :: rest) a w := by
  refine wpList_plain hgd fun K hK => ?_
  unfold Oper.wp execOp
  have := h _ (setW_chg b (L.f x) w 0) (hb.put x)
  have hr := run_storeCells (P := P) (g := b) (L.f x) w 0 0 (L.one x) (fun c hc => by
    have := hb.in c (by rw [← L.len x]; exact hc)
    rw [Nat.zero_add] at this ⊢
    rw [this]
    exact ⟨_, List.getElem?_eq_getElem (by rw [L.len]; rw [L.len] at hc; exact hc)⟩) hb.frozen
  simp [ho, Instr.storeAt, Instr.sureAddr, hp, hs, storeVar, run_size hT, Value.cells, L.len, hr]
  exact hK _ _ this
/-- The same at an operation that is written out. -/
theorem ldL (hT : Ty L P T) {d : Tmp} {s : Operand} {ty : TypeId} {pos : String} {after : Array Edge} {b off : Nat} (x : α) (hx : L.In w b off x) (hs : a.eval s = .pointer (some ⟨b, off, none⟩))
    (h : wpList P ops Q rest (a.put (some d) (.agg (L.f x).toArray)) w) : wpList P ops Q (⟨some d, .load T s, ty, pos, after, none⟩ :: rest) a w := ld hT rfl s rfl hs hx h
theorem bxL (T : TypeId) {d : Tmp} {s : Operand} {ty : TypeId} {pos : String} {after : Array Edge} (x : α) (hs : a.eval s = .agg (L.f x).toArray)
    (h : ∀ W b, b = w.heap.size → Chg [] w W → L.Box W b x → wpList P ops Q rest (a.put (some d) (.pointer (some ⟨b, 0, none⟩))) W) : wpList P ops Q (⟨some d, .box T s, ty, pos, after, none⟩ :: rest) a w := bx rfl s rfl hs h
theorem alL (hT : Ty L P T) {d : Tmp} {ty : TypeId} {pos : String} {after : Array Edge}
    (h : ∀ W b, b = w.heap.size → Chg [] w W → L.Box W b L.d → wpList P ops Q rest (a.put (some d) (.pointer (some ⟨b, 0, none⟩))) W) : wpList P ops Q (⟨some d, .alloc T, ty, pos, after, none⟩ :: rest) a w := al hT rfl rfl h
theorem stL (hT : Ty L P T) {p s : Operand} {ty : TypeId} {pos : String} {after : Array Edge} {b : Nat} {y : α} (x : α) (hb : L.Box w b y) (hp : a.eval p = .pointer (some ⟨b, 0, none⟩)) (hs : a.eval s = .agg (L.f x).toArray)
    (h : ∀ W, Chg [b] w W → L.Box W b x → wpList P ops Q rest a W) : wpList P ops Q (⟨none, .store T p s, ty, pos, after, none⟩ :: rest) a w := st hT rfl p s rfl hp hs hb h
end
/-- What a call hands back whose first result is a record in a block of its own. -/
theorem ret1 (hT : Ty L P T) {fn : Func} {t : Tmp} (hr : fn.results = #[.cell t T]) {R : Ending → World → Prop} {a : Act} {w : World} {b : Nat} {x : α} (hx : L.Box w b x) (ht : a.tmps.getD t undef = .pointer (some ⟨b, 0, none⟩)) (hd : a.defers = []) (hR : R (.returned (L.val x)) w) : bodyPost P fn R .ret a w := by
  have h2 : (loadVar T ⟨b, 0, none⟩).run P w = .ok (L.val x) w := run_load_rec hT hx.in
  rw [Array.getD_eq_getD_getElem?] at ht
  exact bodyPost_ret (v := L.val x) (by simp [results, hr, ht, asAddr, h2]) hd hR
theorem ret2 (hT : Ty L P T) {fn : Func} {t u : Tmp} (hr : fn.results = #[.cell t T, .tmp u]) {R : Ending → World → Prop} {a : Act} {w : World} {b : Nat} {x : α} (hx : L.Box w b x) (ht : a.tmps.getD t undef = .pointer (some ⟨b, 0, none⟩)) (hd : a.defers = []) (hR : R (.returned (.tuple #[L.val x, a.tmps.getD u undef])) w) : bodyPost P fn R .ret a w := by
  have h2 : (loadVar T ⟨b, 0, none⟩).run P w = .ok (L.val x) w := run_load_rec hT hx.in
  rw [Array.getD_eq_getD_getElem?] at ht
  exact bodyPost_ret (v := .tuple #[L.val x, a.tmps.getD u undef]) (by simp [results, hr, ht, asAddr, h2]) hd hR
theorem ret3 (hT : Ty L P T) {fn : Func} {t u r : Tmp} (hr : fn.results = #[.cell t T, .tmp u, .tmp r]) {R : Ending → World → Prop} {a : Act} {w : World} {b : Nat} {x : α} (hx : L.Box w b x) (ht : a.tmps.getD t undef = .pointer (some ⟨b, 0, none⟩)) (hd : a.defers = []) (hR : R (.returned (.tuple #[L.val x, a.tmps.getD u undef, a.tmps.getD r undef])) w) : bodyPost P fn R .ret a w := by
  have h2 : (loadVar T ⟨b, 0, none⟩).run P w = .ok (L.val x) w := run_load_rec hT hx.in
  rw [Array.getD_eq_getD_getElem?] at ht
  exact bodyPost_ret (v := .tuple #[L.val x, a.tmps.getD u undef, a.tmps.getD r undef]) (by simp [results, hr, ht, asAddr, h2]) hd hR
/-- A function value against nil. -/
theorem run_eql_func {P : Program} {T : TypeId} {x y : Array TypeId} {z : Bool} (hu : P.underlying T = some (.func x y z)) (W : World) :
    (binOp .eql T .nilFunc .nilFunc).run P W = .ok (.bool true) W ∧ (∀ f fi ca, (binOp .eql T (.func f fi ca) .nilFunc).run P W = .ok (.bool false) W) ∧ (binOp .neq T .nilFunc .nilFunc).run P W = .ok (.bool false) W ∧ ∀ f fi ca, (binOp .neq T (.func f fi ca) .nilFunc).run P W = .ok (.bool true) W := by
  have h1 : ∀ d : Nat, (Op.equalIn (d + 1) T .nilFunc .nilFunc).run P W = .ok true W := fun d => by simp [Op.equalIn, run_underlying hu]
  have h2 : ∀ (d : Nat) f fi ca, (Op.equalIn (d + 1) T (.func f fi ca) .nilFunc).run P W = .ok false W := fun d f fi ca => by simp [Op.equalIn, run_underlying hu]
  refine ⟨?_, fun f fi ca => ?_, ?_, fun f fi ca => ?_⟩ <;> simp only [binOp] <;> simp [Op.equal, Op.maxDepth, h1 9999, h2 9999]
end Lay
end Go.Proofs.YtlblcbgmmfjdjaaGreatDoor
/- Plain: a region that draws its order, gone through in the order of its text: the steps of such a walk. No program in sight. -/
namespace Go.Proofs.YtlblcbgmmfjdjaaGreatDoor
open Go.RowKit

section
variable {P : Program} {ops : Array Oper} {Q : Exit → Act → World → Prop} {md : Region.Mode} {S S' : World → Prop}
/-- What is held may grow on the way. -/
theorem wpAnyH_mono (hs : ∀ w, S' w → S w) : ∀ (fuel : Nat) (listed : Array Bool) (a : Act) (w : World), wpAnyH P md ops Q S' fuel listed a w → wpAnyH P md ops Q S fuel listed a w
  | 0, _, _, _, h => h
  | fuel + 1, _, _, _, h => ⟨h.1, fun i hi => wpOp_mono (fun a' w' h' => ⟨hs w' h'.1, wpAnyH_mono hs fuel _ a' w' h'.2⟩) (h.2 i hi)⟩
/-- An operation that only reads, its value the same wherever S holds. -/
theorem take_read {i : Nat} {oi : Oper} {v : Value} {fuel : Nat} {listed : Array Bool} {a : Act} {w : World} (hi : ops[i]? = some oi)
    (hs : Region.noSelect ops = true) (hf : Region.free md ops listed i = true) (hr : (Region.ready md ops listed).contains i = true)
    (hQ : ∀ c a w, Q (.panic c) (a.put oi.dst v) w → Q (.panic c) a w) (hS : S w)
    (hy : ∀ w, S w → if Region.wanted oi (yielded ops a.tmps) = true then (execOp a.eval oi).run P w = .ok (.value v) w else v = undef)
    (h : wpAnyH P md ops Q S fuel (listed.setIfInBounds i true) (a.put oi.dst v) w) : wpAnyH P md ops Q S (fuel + 1) listed a w := by
  refine wpAnyH_take hi hs hf hr hQ ?_ hS h
  unfold YieldsIf
  cases hw : Region.wanted oi (yielded ops a.tmps) with
  | true =>
    left
    exact ⟨rfl, fun w hw' => by have := hy w hw'; rw [hw, if_pos rfl] at this; exact this⟩
  | false =>
    right
    exact ⟨rfl, by have := hy w hS; rw [hw, if_neg (by decide)] at this; exact this⟩
end
end Go.Proofs.YtlblcbgmmfjdjaaGreatDoor
/- An image's lowest address: image.Low and the document's. -/
namespace Go.Proofs.YtlblcbgmmfjdjaaGreatDoor
open Go.RowKit
set_option maxRecDepth 100000

/-- The place of the first one of which p is true. -/
def idx {α : Type} (p : α → Bool) : List α → Option Nat
  | [] => none
  | x :: r => if p x then some 0 else (idx p r).map (· + 1)
theorem idx_some {α : Type} {p : α → Bool} {d : α} : ∀ {l : List α} {k : Nat}, k < l.length → p (l.getD k d) = true → (∀ j, j < k → p (l.getD j d) = false) → idx p l = some k
  | [], _, h, _, _ => by simp at h
  | x :: r, 0, _, h, _ => by
    unfold idx
    rw [if_pos (by simpa using h)]
  | x :: r, k + 1, hk, h, hn => by
    have h0 := hn 0 (by omega)
    have ih := idx_some (p := p) (d := d) (l := r) (k := k) (by simpa using hk) (by simpa using h) (fun j hj => by simpa using hn (j + 1) (by omega))
    unfold idx
    rw [if_neg (by simpa using h0), ih]
    rfl
theorem idx_none {α : Type} {p : α → Bool} {d : α} : ∀ {l : List α}, (∀ j, j < l.length → p (l.getD j d) = false) → idx p l = none
  | [], _ => rfl
  | x :: r, hn => by
    have h0 := hn 0 (by simp)
    have ih := idx_none (p := p) (d := d) (l := r) (fun j hj => by simpa using hn (j + 1) (by simpa using hj))
    unfold idx
    rw [if_neg (by simpa using h0), ih]
    rfl
theorem idx_lt {α : Type} {p : α → Bool} : ∀ {l : List α} {k : Nat}, idx p l = some k → k < l.length
  | [], _, h => by cases h
  | x :: r, k, h => by
    unfold idx at h
    split at h
    · cases h; simp
    · cases hi : idx p r with
      | none => rw [hi] at h; cases h
      | some m =>
        rw [hi] at h
        cases h
        have := idx_lt hi
        simpa using this
def idxI (o : Option Nat) : Int := match o with | some k => k | none => -1
/-- Is a segment not laid? -/
def holeS (s : Seg) : Bool := decide (s.prot = 0) && decide (s.fsize = 0)
/-- The lowest address. -/
def lowS (ls : List Seg) : Int := match idx (fun s => !holeS s) ls with | some k => (ls.getD k .zero).addr | none => 0

theorem hole_any (s : Seg) (w : World) : Calls Tryz.prog 35 #[s.v] w fun e w' => e = .returned (.bool (holeS s)) ∧ Chg [] w w' := by
  unfold holeS
  by_cases hp : s.prot = 0
  · rw [hp, decide_eq_true rfl, Bool.true_and]
    unfold Seg.v
    rw [hp]
    clear hp
    go_enter Tryz.func35, Tryz.ntmps35
    go_wp2
    go_ret
    exact ⟨rfl, (Chg.refl _ _).alloc _⟩
  · have d1 : decide (s.prot = 0) = false := by simpa using hp
    have d2 : (s.prot == 0) = false := by simpa using hp
    rw [d1, Bool.false_and]
    clear hp
    go_enter Tryz.func35, Tryz.ntmps35
    go_wp2
    go_ret
    exact ⟨rfl, (Chg.refl _ _).alloc _⟩
theorem Tryz.tImg : Lay.Ty imgL Tryz.prog 33 := Lay.Ty.mk' (by kernel_rfl) (by kernel_rfl)
end Go.Proofs.YtlblcbgmmfjdjaaGreatDoor
/- The reader of rebases, a record. -/
namespace Go.Proofs.YtlblcbgmmfjdjaaGreatDoor
open Go.RowKit
set_option maxRecDepth 100000

structure Rdr where
  c : Option Addr
  sl : SlV
  m : Img
  at_ : Int
  is_ : Bool
  typ : Int
  out : SlV
def Rdr.cells (r : Rdr) : List Value := .pointer r.c :: .slice r.sl.a r.sl.n r.sl.cap :: (r.m.cells ++ [.int .u64 r.at_, .bool r.is_, .int .u8 r.typ, .slice r.out.a r.out.n r.out.cap])
def Rdr.zero : Rdr := ⟨none, ⟨none, 0, 0⟩, Img.zero, 0, false, 0, ⟨none, 0, 0⟩⟩
def rdrL : Lay Rdr := ⟨30, Rdr.cells, Rdr.zero, fun _ => rfl, by decide, fun x u hu => by
  simp only [Rdr.cells, List.mem_cons, List.mem_append, List.not_mem_nil, or_false] at hu
  rcases hu with rfl | rfl | h | rfl | rfl | rfl | rfl
  · rfl
  · rfl
  · exact imgL.one x.m u h
  · rfl
  · rfl
  · rfl
  · rfl⟩
theorem Rdr.set_at {w : World} {g : Nat} {r : Rdr} (h : rdrL.Box w g r) (x : Int) : rdrL.Box (w.setCell ⟨g, 26, none⟩ (.int .u64 x)) g { r with at_ := x } := Lay.Box.set h 26 _ _ rfl
theorem Rdr.set_is {w : World} {g : Nat} {r : Rdr} (h : rdrL.Box w g r) (x : Bool) : rdrL.Box (w.setCell ⟨g, 27, none⟩ (.bool x)) g { r with is_ := x } := Lay.Box.set h 27 _ _ rfl
theorem Rdr.set_typ {w : World} {g : Nat} {r : Rdr} (h : rdrL.Box w g r) (x : Int) : rdrL.Box (w.setCell ⟨g, 28, none⟩ (.int .u8 x)) g { r with typ := x } := Lay.Box.set h 28 _ _ rfl
theorem Rdr.set_out {w : World} {g : Nat} {r : Rdr} (h : rdrL.Box w g r) (x : SlV) : rdrL.Box (w.setCell ⟨g, 29, none⟩ (.slice x.a x.n x.cap)) g { r with out := x } := Lay.Box.set h 29 _ _ rfl
theorem Rdr.c_c {w : World} {b : Nat} {r : Rdr} (h : rdrL.Box w b r) : w.cell? ⟨b, 0, none⟩ = some (.pointer r.c) := by have := h.in 0 (by decide); rw [Nat.zero_add] at this; exact this
theorem Rdr.c_sl {w : World} {b : Nat} {r : Rdr} (h : rdrL.Box w b r) : w.cell? ⟨b, 1, none⟩ = some (.slice r.sl.a r.sl.n r.sl.cap) := by have := h.in 1 (by decide); rw [Nat.zero_add] at this; exact this
theorem Rdr.c_at {w : World} {b : Nat} {r : Rdr} (h : rdrL.Box w b r) : w.cell? ⟨b, 26, none⟩ = some (.int .u64 r.at_) := by have := h.in 26 (by decide); rw [Nat.zero_add] at this; exact this
theorem Rdr.c_is {w : World} {b : Nat} {r : Rdr} (h : rdrL.Box w b r) : w.cell? ⟨b, 27, none⟩ = some (.bool r.is_) := by have := h.in 27 (by decide); rw [Nat.zero_add] at this; exact this
theorem Rdr.c_typ {w : World} {b : Nat} {r : Rdr} (h : rdrL.Box w b r) : w.cell? ⟨b, 28, none⟩ = some (.int .u8 r.typ) := by have := h.in 28 (by decide); rw [Nat.zero_add] at this; exact this
theorem Rdr.c_out {w : World} {b : Nat} {r : Rdr} (h : rdrL.Box w b r) : w.cell? ⟨b, 29, none⟩ = some (.slice r.out.a r.out.n r.out.cap) := by have := h.in 29 (by decide); rw [Nat.zero_add] at this; exact this
theorem Rdr.i_m {w : World} {b : Nat} {r : Rdr} (h : rdrL.Box w b r) : imgL.In w b 2 r.m := fun c hc => by
  have := h.in (2 + c) (by have : c < 24 := hc; show 2 + c < 30; omega)
  rw [Nat.zero_add] at this
  rw [this]
  have hl : r.m.cells.length = 24 := rfl
  show (.pointer r.c :: .slice r.sl.a r.sl.n r.sl.cap :: (r.m.cells ++ _) : List Value)[2 + c]? = r.m.cells[c]?
  rw [Nat.add_comm 2 c, List.getElem?_cons_succ, List.getElem?_cons_succ, List.getElem?_append_left (by rw [hl]; exact hc)]
theorem Tryz.tRdr : Lay.Ty rdrL Tryz.prog 51 := Lay.Ty.mk' (by kernel_rfl) (by kernel_rfl)
end Go.Proofs.YtlblcbgmmfjdjaaGreatDoor
