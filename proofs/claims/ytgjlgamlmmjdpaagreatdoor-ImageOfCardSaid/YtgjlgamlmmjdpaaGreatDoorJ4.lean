/- Lemmas, laid together: part 4 of 43. Conditions: none but each lemma's own. -/
import Derived.Test.YtgjlgamlmmjdpaaGreatDoorJ2
import Derived.Laws.Cells
import Derived.Test.YtgjlgamlmmjdpaaGreatDoorJ1
import Derived.Deep.RegionHeld3
import Derived.Test.YtgjlgamlmmjdpaaGreatDoorJ3
import Derived.Test.YtgjlgamlmmjdpaaGreatDoorProg
import Derived.Deep.CutRange
import Derived.StillTailTactics
import Derived.Handy
/- Operations on whole records, as laws for the walk: boxed, loaded, stored, made. No program in sight. -/
namespace Go.Proofs.YtgjlgamlmmjdpaaGreatDoor
open Go.RowKit
set_option maxRecDepth 100000
namespace Lay
variable {α : Type} {L : Lay α} {P : Program} {T : TypeId}

def isRec : TypeDesc → Bool
  | .struct _ => true
  | .array _ _ => true
  | _ => false
/-- What the program says of a record's type: it lies in as many cells, and what its zero is. -/
structure Ty (L : Lay α) (P : Program) (T : TypeId) : Prop where
  agg : (∃ fs, P.underlying T = some (.struct fs)) ∨ ∃ n e, P.underlying T = some (.array n e)
  info : ∃ i, P.info? T = some i ∧ i.size = L.n ∧ i.zero = some (.agg (L.f L.d).toArray)
theorem Ty.mk' (hu : (P.underlying T).map isRec = some true) (hi : (P.info? T).map (fun i => (i.zero, i.size)) = some (some (.agg (L.f L.d).toArray), L.n)) : Ty L P T := by
  constructor
  · cases h : P.underlying T with
    | none => rw [h] at hu; cases hu
    | some d =>
      cases d with
      | struct fs => exact .inl ⟨fs, rfl⟩
      | array n e => exact .inr ⟨n, e, rfl⟩
      | _ => rw [h] at hu; cases hu
  · cases h : P.info? T with
    | none => rw [h] at hi; cases hi
    | some i =>
      rw [h] at hi
      simp only [Option.map_some, Option.some.injEq, Prod.mk.injEq] at hi
      exact ⟨i, rfl, hi.2, hi.1⟩
theorem run_isAgg (hT : Ty L P T) (w : World) : (isAgg T).run P w = .ok true w := by
  rcases hT.agg with ⟨fs, hu⟩ | ⟨n, e, hu⟩ <;> simp [isAgg, run_underlying hu]
theorem run_size (hT : Ty L P T) (w : World) : (sizeOf T).run P w = .ok L.n w := by
  obtain ⟨i, hi, hs, _⟩ := hT.info
  simp [sizeOf, typeInfo, hi, hs]
theorem run_zero (hT : Ty L P T) (w : World) : (zeroValue T).run P w = .ok (.agg (L.f L.d).toArray) w := by
  obtain ⟨i, hi, hs, hz⟩ := hT.info
  simp [zeroValue, typeInfo, hi, hz]
theorem run_load_rec (hT : Ty L P T) {w : World} {b o : Nat} {x : α} (h : L.In w b o x) : (loadVar T ⟨b, o, none⟩).run P w = .ok (.agg (L.f x).toArray) w := by
  have h1 := run_loadCells_list (P := P) w ⟨b, o, none⟩ (L.f x) (fun j v hv => by
    rw [addr_add]
    have hj : j < L.n := by have := (List.getElem?_eq_some_iff.1 hv).1; rw [L.len] at this; exact this
    rw [h j hj, hv])
  rw [L.len] at h1
  unfold loadVar
  simp [run_isAgg hT, run_size hT, h1]
theorem run_storeCells {g : Nat} : ∀ (us : List Value) (w : World) (o i : Nat), (∀ u ∈ us, u.oneCell' = true) → (∀ c, c < us.length → ∃ u, w.cell? ⟨g, o + i + c, none⟩ = some u) → (∀ j, w.frozen? ⟨g, j, none⟩ = false) →
    (storeCells ⟨g, o, none⟩ us i).run P w = .ok () (setW w g (o + i) us)
  | [], w, o, i, _, _, _ => by simp [storeCells, setW]
  | u :: r, w, o, i, h1, hc, hf => by
    obtain ⟨u0, hu0⟩ := hc 0 (by simp)
    rw [Nat.add_zero] at hu0
    have h1u := h1 u (List.mem_cons_self ..)
    have hst : (store ((⟨g, o, none⟩ : Addr).add i) u).run P w = .ok () (w.setCell ⟨g, o + i, none⟩ u) := by
      rw [addr_add, run_store P w _ u _ h1u]
      simp [hu0, hf]
    have ih := run_storeCells r (w.setCell ⟨g, o + i, none⟩ u) o (i + 1) (fun v hv => h1 v (List.mem_cons_of_mem _ hv)) (fun c hcl => by
      obtain ⟨v, hv⟩ := hc (c + 1) (by simpa using hcl)
      rw [show o + (i + 1) + c = o + i + (c + 1) by omega]
      exact cell?_setCell_some hv) (fun j => by simpa using hf j)
    unfold storeCells setW
    simp only [Sem.run_bind, hst, Result.andThen_ok]
    rw [ih, show o + (i + 1) = o + i + 1 by omega]
section
variable {ops : Array Oper} {rest : List Oper} {o : Oper} {a : Act} {Q : Exit → Act → World → Prop} {w : World}
/-- A record is loaded. -/
theorem ld (hT : Ty L P T) (hgd : o.guard = none) (s : Operand) (ho : o.op = .load T s) {b off : Nat} (hs : a.eval s = .pointer (some ⟨b, off, none⟩)) {x : α} (hx : L.In w b off x)
    (h : wpList P ops Q rest (a.put o.dst (.agg (L.f x).toArray)) w) : wpList P ops Q (o :: rest) a w := by
  refine wpList_plain hgd fun K hK => ?_
  unfold Oper.wp execOp
  simp only [ho, Instr.loadAt, Instr.sureAddr, Sem.run_bind, Sem.run_pure, hs, Result.andThen_ok, run_load_rec hT hx]
  exact hK _ _ h
/-- A record is boxed. -/
theorem bx (hgd : o.guard = none) (s : Operand) (ho : o.op = .box T s) {x : α} (hs : a.eval s = .agg (L.f x).toArray)
    (h : ∀ W b, b = w.heap.size → Chg [] w W → L.Box W b x → wpList P ops Q rest (a.put o.dst (.pointer (some ⟨b, 0, none⟩))) W) : wpList P ops Q (o :: rest) a w := by
  refine wpList_plain hgd fun K hK => ?_
  unfold Oper.wp execOp
  have := h _ _ rfl ((Chg.refl [] w).alloc _) (Box.of_alloc (L := L) w x T)
  simp [ho, Instr.box, hs, newVar, newRow, Value.cells]
  exact hK _ _ this
/-- A record is made. -/
theorem al (hT : Ty L P T) (hgd : o.guard = none) (ho : o.op = .alloc T)
    (h : ∀ W b, b = w.heap.size → Chg [] w W → L.Box W b L.d → wpList P ops Q rest (a.put o.dst (.pointer (some ⟨b, 0, none⟩))) W) : wpList P ops Q (o :: rest) a w := by
  refine wpList_plain hgd fun K hK => ?_
  unfold Oper.wp execOp
  have := h _ _ rfl ((Chg.refl [] w).alloc _) (Box.of_alloc (L := L) w L.d T)
  simp [ho, Instr.alloc, run_zero hT, newVar, newRow, Value.cells]
  exact hK _ _ this
/-- A record is stored. -/
theorem st (hT : Ty L P T) (hgd : o.guard = none) (p s : Operand) (ho : o.op = .store T p s) {b : Nat} (hp : a.eval p = .pointer (some ⟨b, 0, none⟩)) {x y : α} (hs : a.eval s = .agg (L.f x).toArray) (hb : L.Box w b y)
    (h : ∀ W, Chg [b] w W → L.Box W b x → wpList P ops Q rest (a.put o.dst undef) W) : wpList P ops Q (o :: rest) a w := by
  refine wpList_plain hgd fun K hK => ?_
  unfold Oper.wp execOp
  have := h _ (setW_chg b (L.f x) w 0) (hb.put x)
  have hr := run_storeCells (P := P) (g := b) (L.f x) w 0 0 (L.one x) (fun c hc => by
    have := hb.in c (by rw [← L.len x]; exact hc)
    rw [Nat.zero_add] at this ⊢
    rw [this]
    exact ⟨_, List.getElem?_eq_getElem (by rw [L.len]; rw [L.len] at hc; exact hc)⟩) hb.frozen
  simp [ho, Instr.storeAt, Instr.sureAddr, hp, hs, storeVar, run_size hT, Value.cells, L.len, hr]
  exact hK _ _ this
/-- The same at an operation that is written out. -/
theorem ldL (hT : Ty L P T) {d : Tmp} {s : Operand} {ty : TypeId} {pos : String} {after : Array Edge} {b off : Nat} (x : α) (hx : L.In w b off x) (hs : a.eval s = .pointer (some ⟨b, off, none⟩))
    (h : wpList P ops Q rest (a.put (some d) (.agg (L.f x).toArray)) w) : wpList P ops Q (⟨some d, .load T s, ty, pos, after, none⟩ :: rest) a w := ld hT rfl s rfl hs hx h
theorem bxL (T : TypeId) {d : Tmp} {s : Operand} {ty : TypeId} {pos : String} {after : Array Edge} (x : α) (hs : a.eval s = .agg (L.f x).toArray)
    (h : ∀ W b, b = w.heap.size → Chg [] w W → L.Box W b x → wpList P ops Q rest (a.put (some d) (.pointer (some ⟨b, 0, none⟩))) W) : wpList P ops Q (⟨some d, .box T s, ty, pos, after, none⟩ :: rest) a w := bx rfl s rfl hs h
theorem alL (hT : Ty L P T) {d : Tmp} {ty : TypeId} {pos : String} {after : Array Edge}
    (h : ∀ W b, b = w.heap.size → Chg [] w W → L.Box W b L.d → wpList P ops Q rest (a.put (some d) (.pointer (some ⟨b, 0, none⟩))) W) : wpList P ops Q (⟨some d, .alloc T, ty, pos, after, none⟩ :: rest) a w := al hT rfl rfl h
theorem stL (hT : Ty L P T) {p s : Operand} {ty : TypeId} {pos : String} {after : Array Edge} {b : Nat} {y : α} (x : α) (hb : L.Box w b y) (hp : a.eval p = .pointer (some ⟨b, 0, none⟩)) (hs : a.eval s = .agg (L.f x).toArray)
    (h : ∀ W, Chg [b] w W → L.Box W b x → wpList P ops Q rest a W) : wpList P ops Q (⟨none, .store T p s, ty, pos, after, none⟩ :: rest) a w := st hT rfl p s rfl hp hs hb h
end
/-- What a call hands back whose first result is a record in a block of its own. -/
theorem ret1 (hT : Ty L P T) {fn : Func} {t : Tmp} (hr : fn.results = #[.cell t T]) {R : Ending → World → Prop} {a : Act} {w : World} {b : Nat} {x : α} (hx : L.Box w b x) (ht : a.tmps.getD t undef = .pointer (some ⟨b, 0, none⟩)) (hd : a.defers = []) (hR : R (.returned (L.val x)) w) : bodyPost P fn R .ret a w := by
  have h2 : (loadVar T ⟨b, 0, none⟩).run P w = .ok (L.val x) w := run_load_rec hT hx.in
  rw [Array.getD_eq_getD_getElem?] at ht
  exact bodyPost_ret (v := L.val x) (by simp [results, hr, ht, asAddr, h2]) hd hR
theorem ret2 (hT : Ty L P T) {fn : Func} {t u : Tmp} (hr : fn.results = #[.cell t T, .tmp u]) {R : Ending → World → Prop} {a : Act} {w : World} {b : Nat} {x : α} (hx : L.Box w b x) (ht : a.tmps.getD t undef = .pointer (some ⟨b, 0, none⟩)) (hd : a.defers = []) (hR : R (.returned (.tuple #[L.val x, a.tmps.getD u undef])) w) : bodyPost P fn R .ret a w := by
  have h2 : (loadVar T ⟨b, 0, none⟩).run P w = .ok (L.val x) w := run_load_rec hT hx.in
  rw [Array.getD_eq_getD_getElem?] at ht
  exact bodyPost_ret (v := .tuple #[L.val x, a.tmps.getD u undef]) (by simp [results, hr, ht, asAddr, h2]) hd hR
theorem ret3 (hT : Ty L P T) {fn : Func} {t u r : Tmp} (hr : fn.results = #[.cell t T, .tmp u, .tmp r]) {R : Ending → World → Prop} {a : Act} {w : World} {b : Nat} {x : α} (hx : L.Box w b x) (ht : a.tmps.getD t undef = .pointer (some ⟨b, 0, none⟩)) (hd : a.defers = []) (hR : R (.returned (.tuple #[L.val x, a.tmps.getD u undef, a.tmps.getD r undef])) w) : bodyPost P fn R .ret a w := by
  have h2 : (loadVar T ⟨b, 0, none⟩).run P w = .ok (L.val x) w := run_load_rec hT hx.in
  rw [Array.getD_eq_getD_getElem?] at ht
  exact bodyPost_ret (v := .tuple #[L.val x, a.tmps.getD u undef, a.tmps.getD r undef]) (by simp [results, hr, ht, asAddr, h2]) hd hR
/-- A function value against nil. -/
theorem run_eql_func {P : Program} {T : TypeId} {x y : Array TypeId} {z : Bool} (hu : P.underlying T = some (.func x y z)) (W : World) :
    (binOp .eql T .nilFunc .nilFunc).run P W = .ok (.bool true) W ∧ (∀ f fi ca, (binOp .eql T (.func f fi ca) .nilFunc).run P W = .ok (.bool false) W) ∧ (binOp .neq T .nilFunc .nilFunc).run P W = .ok (.bool false) W ∧ ∀ f fi ca, (binOp .neq T (.func f fi ca) .nilFunc).run P W = .ok (.bool true) W := by
  have h1 : ∀ d : Nat, (Op.equalIn (d + 1) T .nilFunc .nilFunc).run P W = .ok true W := fun d => by simp [Op.equalIn, run_underlying hu]
  have h2 : ∀ (d : Nat) f fi ca, (Op.equalIn (d + 1) T (.func f fi ca) .nilFunc).run P W = .ok false W := fun d f fi ca => by simp [Op.equalIn, run_underlying hu]
  refine ⟨?_, fun f fi ca => ?_, ?_, fun f fi ca => ?_⟩ <;> simp only [binOp] <;> simp [Op.equal, Op.maxDepth, h1 9999, h2 9999]
end Lay
end Go.Proofs.YtgjlgamlmmjdpaaGreatDoor
/- Plain: a region that draws its order, gone through in the order of its text: the steps of such a walk. No program in sight. -/
namespace Go.Proofs.YtgjlgamlmmjdpaaGreatDoor
open Go.RowKit

section
variable {P : Program} {ops : Array Oper} {Q : Exit → Act → World → Prop} {md : Region.Mode} {S S' : World → Prop}
/-- What is held may grow on the way. -/
theorem wpAnyH_mono (hs : ∀ w, S' w → S w) : ∀ (fuel : Nat) (listed : Array Bool) (a : Act) (w : World), wpAnyH P md ops Q S' fuel listed a w → wpAnyH P md ops Q S fuel listed a w
  | 0, _, _, _, h => h
  | fuel + 1, _, _, _, h => ⟨h.1, fun i hi => wpOp_mono (fun a' w' h' => ⟨hs w' h'.1, wpAnyH_mono hs fuel _ a' w' h'.2⟩) (h.2 i hi)⟩
/-- An operation that only reads, its value the same wherever S holds. -/
theorem take_read {i : Nat} {oi : Oper} {v : Value} {fuel : Nat} {listed : Array Bool} {a : Act} {w : World} (hi : ops[i]? = some oi)
    (hs : Region.noSelect ops = true) (hf : Region.free md ops listed i = true) (hr : (Region.ready md ops listed).contains i = true)
    (hQ : ∀ c a w, Q (.panic c) (a.put oi.dst v) w → Q (.panic c) a w) (hS : S w)
    (hy : ∀ w, S w → if Region.wanted oi (yielded ops a.tmps) = true then (execOp a.eval oi).run P w = .ok (.value v) w else v = undef)
    (h : wpAnyH P md ops Q S fuel (listed.setIfInBounds i true) (a.put oi.dst v) w) : wpAnyH P md ops Q S (fuel + 1) listed a w := by
  refine wpAnyH_take hi hs hf hr hQ ?_ hS h
  unfold YieldsIf
  cases hw : Region.wanted oi (yielded ops a.tmps) with
  | true =>
    left
    exact ⟨rfl, fun w hw' => by have := hy w hw'; rw [hw, if_pos rfl] at this; exact this⟩
  | false =>
    right
    exact ⟨rfl, by have := hy w hS; rw [hw, if_neg (by decide)] at this; exact this⟩
end
end Go.Proofs.YtgjlgamlmmjdpaaGreatDoor
/- An image's lowest address: image.Low and the document's. -/
namespace Go.Proofs.YtgjlgamlmmjdpaaGreatDoor
open Go.RowKit
set_option maxRecDepth 100000

/-- The place of the first one of which p is true. -/
def idx {α : Type} (p : α → Bool) : List α → Option Nat
  | [] => none
  | x :: r => if p x then some 0 else (idx p r).map (· + 1)
theorem idx_some {α : Type} {p : α → Bool} {d : α} : ∀ {l : List α} {k : Nat}, k < l.length → p (l.getD k d) = true → (∀ j, j < k → p (l.getD j d) = false) → idx p l = some k
  | [], _, h, _, _ => by simp at h
  | x :: r, 0, _, h, _ => by
    unfold idx
    rw [if_pos (by simpa using h)]
  | x :: r, k + 1, hk, h, hn => by
    have h0 := hn 0 (by omega)
    have ih := idx_some (p := p) (d := d) (l := r) (k := k) (by simpa using hk) (by simpa using h) (fun j hj => by simpa using hn (j + 1) (by omega))
    unfold idx
    rw [if_neg (by simpa using h0), ih]
    rfl
theorem idx_none {α : Type} {p : α → Bool} {d : α} : ∀ {l : List α}, (∀ j, j < l.length → p (l.getD j d) = false) → idx p l = none
  | [], _ => rfl
  | x :: r, hn => by
    have h0 := hn 0 (by simp)
    have ih := idx_none (p := p) (d := d) (l := r) (fun j hj => by simpa using hn (j + 1) (by simpa using hj))
    unfold idx
    rw [if_neg (by simpa using h0), ih]
    rfl
theorem idx_lt {α : Type} {p : α → Bool} : ∀ {l : List α} {k : Nat}, idx p l = some k → k < l.length
  | [], _, h => by cases h
  | x :: r, k, h => by
    unfold idx at h
    split at h
    · cases h; simp
    · cases hi : idx p r with
      | none => rw [hi] at h; cases h
      | some m =>
        rw [hi] at h
        cases h
        have := idx_lt hi
        simpa using this
def idxI (o : Option Nat) : Int := match o with | some k => k | none => -1
/-- Is a segment not laid? -/
def holeS (s : Seg) : Bool := decide (s.prot = 0) && decide (s.fsize = 0)
/-- The lowest address. -/
def lowS (ls : List Seg) : Int := match idx (fun s => !holeS s) ls with | some k => (ls.getD k .zero).addr | none => 0

theorem hole_any (s : Seg) (w : World) : Calls Tryz.prog 21 #[s.v] w fun e w' => e = .returned (.bool (holeS s)) ∧ Chg [] w w' := by
  unfold holeS
  by_cases hp : s.prot = 0
  · rw [hp, decide_eq_true rfl, Bool.true_and]
    unfold Seg.v
    rw [hp]
    clear hp
    go_enter Tryz.func21, Tryz.ntmps21
    go_wp2
    go_ret
    exact ⟨rfl, (Chg.refl _ _).alloc _⟩
  · have d1 : decide (s.prot = 0) = false := by simpa using hp
    have d2 : (s.prot == 0) = false := by simpa using hp
    rw [d1, Bool.false_and]
    clear hp
    go_enter Tryz.func21, Tryz.ntmps21
    go_wp2
    go_ret
    exact ⟨rfl, (Chg.refl _ _).alloc _⟩
theorem refHole_any (s : Seg) (w : World) : Calls Tryz.prog 59 #[s.v] w fun e w' => e = .returned (.bool (holeS s)) ∧ Chg [] w w' := by
  unfold holeS
  by_cases hp : s.prot = 0
  · rw [hp, decide_eq_true rfl, Bool.true_and]
    unfold Seg.v
    rw [hp]
    clear hp
    go_enter Tryz.func59, Tryz.ntmps59
    go_wp2
    go_ret
    exact ⟨rfl, (Chg.refl _ _).alloc _⟩
  · have d1 : decide (s.prot = 0) = false := by simpa using hp
    have d2 : (s.prot == 0) = false := by simpa using hp
    rw [d1, Bool.false_and]
    clear hp
    go_enter Tryz.func59, Tryz.ntmps59
    go_wp2
    go_ret
    exact ⟨rfl, (Chg.refl _ _).alloc _⟩
theorem first1_any (s : Seg) (w : World) : Calls Tryz.prog 61 #[s.v] w fun e w' => e = .returned (.bool (!holeS s)) ∧ Chg [] w w' := by
  have HH := Lib.hid (hole_any s)
  generalize holeS s = b at *
  go_enter Tryz.func61, Tryz.ntmps61
  go_wp2_with fail
  refine (HH.out _).mono ?_
  rintro e w' ⟨rfl, hc⟩
  have Hc := Lib.hid hc
  clear hc
  go_wp2
  go_ret
  exact ⟨rfl, ((Chg.refl _ _).alloc _).then Hc.out⟩
set_option maxHeartbeats 1000000 in
theorem idxFirst_any (ls : List Seg) (v : Value) (w : World) (rd : segL.Rd w v ls) :
    Calls Tryz.prog 60 #[v, .func (.func 61) #[] #[]] w fun e w' => e = .returned (.int .i64 (idxI (idx (fun s => !holeS s) ls))) ∧ Chg [] w w' := by
  obtain ⟨a, cap, rfl, hc1, hc2⟩ := rd.shape
  have HR := Lib.hid rd
  clear rd
  go_enter Tryz.func60, Tryz.ntmps60
  go_wp2_with fail
  go_loopw [8] (fun s8 wr => ∃ k : Nat, k ≤ ls.length ∧ s8 = .int .i64 (k : Int) ∧ (∀ j, j < k → (!holeS (ls.getD j .zero)) = false) ∧ Chg [] w wr) (fun s8 _ => ls.length - (intOf s8).toNat)
  case atStart => exact ⟨0, Nat.zero_le _, rfl, fun _ h => absurd h (Nat.not_lt_zero _), Chg.refl _ _⟩
  case round =>
    obtain ⟨k, hk, rfl, hno, hch⟩ := hrel
    have Hno := Lib.hid hno
    have Hch := Lib.hid hch
    clear hno hch
    by_cases hlt : k < ls.length
    · obtain ⟨b, off, rfl, hb, hcell⟩ := HR.out.at (by omega)
      have hI : segL.In w b (off + k * 7) (ls.getD k .zero) := hcell k hlt
      obtain ⟨s, hs⟩ : ∃ s, s = ls.getD k .zero := ⟨_, rfl⟩
      rw [← hs] at hI
      obtain ⟨x0, x1, x2, x3, x4, x5, x6⟩ := Seg.at (hI.frame Hch.out)
      clear hI hcell hb
      have Hs := Lib.hid hs
      clear hs
      have HF := Lib.hid (first1_any s)
      obtain ⟨q, hq⟩ : ∃ q, q = !holeS s := ⟨_, rfl⟩
      rw [← hq] at HF
      go_wp2_with fail
      refine (HF.out _).mono ?_
      rintro e w' ⟨rfl, hc⟩
      have HC := Lib.hid (Hch.out.then hc)
      clear hc
      cases q with
      | true =>
        have HE : Hid (idx (fun s => !holeS s) ls = some k) := Lib.hid (by rw [Hs.out] at hq; exact idx_some hlt hq.symm (fun j hj => Hno.out j hj))
        clear hq
        go_wp2
        go_ret
        exact ⟨by rw [HE.out]; rfl, HC.out⟩
      | false =>
        have Hq := Lib.hid hq
        clear hq
        go_wp2
        go_roundw
        case rel =>
          refine ⟨k + 1, hlt, by go_num, fun j hj => ?_, HC.out⟩
          by_cases e : j = k
          · subst e; rw [← Hs.out]; exact Hq.out.symm
          · exact Hno.out j (by omega)
        case measure => simp [intOf]; omega
    · have HE : Hid (idx (fun s => !holeS s) ls = none) := Lib.hid (idx_none (fun j hj => Hno.out j (by omega)))
      go_wp2
      go_ret
      exact ⟨by rw [HE.out]; rfl, Hch.out⟩
theorem Tryz.tImg : Lay.Ty imgL Tryz.prog 32 := Lay.Ty.mk' (by kernel_rfl) (by kernel_rfl)
theorem first_any (m : Img) (ls : List Seg) (w : World) (rd : segL.Rd w m.segs.v ls) :
    Calls Tryz.prog 33 #[imgL.val m] w fun e w' => e = .returned (.int .i64 (idxI (idx (fun s => !holeS s) ls))) ∧ Chg [] w w' := by
  have Rd := Lib.hid rd
  clear rd
  go_enter Tryz.func33, Tryz.ntmps33
  go_wp2_with ((with_reducible refine Lay.bxL (L := imgL) 32 m ?_ ?_); exact rfl; intro W bm hbm hcW hbox; replace hbm := Lib.hid hbm; replace hcW := Lib.hid hcW; replace hbox := Lib.hid hbox; refine Hid.out ?_)
  refine Lib.hid ?_
  have x4 := Img.c_segs hbox.out
  clear hbm
  go_wp2_with fail
  refine (idxFirst_any ls _ _ (Rd.out.frame hcW.out)).mono ?_
  rintro e w' ⟨rfl, hc⟩
  have Hc := Lib.hid hc
  clear hc
  go_wp2
  go_ret
  exact ⟨rfl, hcW.out.then Hc.out⟩
theorem low_any (m : Img) (ls : List Seg) (w : World) (rd : segL.Rd w m.segs.v ls) :
    Calls Tryz.prog 36 #[imgL.val m] w fun e w' => e = .returned (.int .u64 (lowS ls)) ∧ Chg [] w w' := by
  have Rd := Lib.hid rd
  clear rd
  have HF := Lib.hid (first_any m ls)
  cases hi : idx (fun s => !holeS s) ls with
  | none =>
    have hL : lowS ls = 0 := by simp [lowS, hi]
    rw [hi] at HF
    rw [hL]
    clear hi hL
    unfold idxI at HF
    go_enter Tryz.func36, Tryz.ntmps36
    go_wp2_with ((with_reducible refine Lay.bxL (L := imgL) 32 m ?_ ?_); exact rfl; intro W bm hbm hcW hbox; replace hbm := Lib.hid hbm; replace hcW := Lib.hid hcW; replace hbox := Lib.hid hbox; refine Hid.out ?_)
    refine Lib.hid ?_
    clear hbm
    go_wp2_with ((with_reducible refine Lay.ldL Tryz.tImg m (hbox.out.in) ?_ ?_); exact rfl; refine Hid.out ?_)
    refine Lib.hid ?_
    go_wp2_with fail
    refine (HF.out _ (Rd.out.frame hcW.out)).mono ?_
    rintro e w' ⟨rfl, hc⟩
    have Hc := Lib.hid hc
    clear hc
    go_wp2
    go_ret
    exact ⟨rfl, hcW.out.then Hc.out⟩
  | some k =>
    have hL : lowS ls = (ls.getD k .zero).addr := by simp [lowS, hi]
    have hk := idx_lt hi
    rw [hi] at HF
    rw [hL]
    clear hi hL
    unfold idxI at HF
    obtain ⟨A, hA⟩ : ∃ A, A = (ls.getD k .zero).addr := ⟨_, rfl⟩
    rw [← hA]
    go_enter Tryz.func36, Tryz.ntmps36
    go_wp2_with ((with_reducible refine Lay.bxL (L := imgL) 32 m ?_ ?_); exact rfl; intro W bm hbm hcW hbox; replace hbm := Lib.hid hbm; replace hcW := Lib.hid hcW; replace hbox := Lib.hid hbox; refine Hid.out ?_)
    refine Lib.hid ?_
    clear hbm
    go_wp2_with ((with_reducible refine Lay.ldL Tryz.tImg m (hbox.out.in) ?_ ?_); exact rfl; refine Hid.out ?_)
    refine Lib.hid ?_
    go_wp2_with fail
    refine (HF.out _ (Rd.out.frame hcW.out)).mono ?_
    rintro e w' ⟨rfl, hc⟩
    have Hc := Lib.hid hc
    clear hc
    have x4 := Img.c_segs (hbox.out.frame Hc.out)
    obtain ⟨a, cap, hv, hc1, hc2⟩ := Rd.out.shape
    have rd2 := (Rd.out.frame hcW.out).frame Hc.out
    rw [hv] at rd2
    unfold SlV.v at hv
    rw [hv] at x4
    obtain ⟨b, off, rfl, hb, hcell⟩ := rd2.at (by omega)
    have hI : segL.In w' b (off + k * 7) (ls.getD k .zero) := hcell k hk
    obtain ⟨_, x1, _⟩ := Seg.at hI
    rw [← hA] at x1
    clear hI hcell rd2 hb hv hA
    have hneg : ¬ (k : Int) < 0 := by omega
    go_wp2
    go_ret
    exact ⟨rfl, hcW.out.then Hc.out⟩
theorem refLow_any (m : Img) (ls : List Seg) (w : World) (rd : segL.Rd w m.segs.v ls) :
    Calls Tryz.prog 32 #[imgL.val m] w fun e w' => e = .returned (.int .u64 (lowS ls)) ∧ Chg [] w w' := by
  obtain ⟨a, cap, hv, hc1, hc2⟩ := rd.shape
  have Rd := Lib.hid rd
  clear rd
  go_enter Tryz.func32, Tryz.ntmps32
  go_wp2_with ((with_reducible refine Lay.bxL (L := imgL) 32 m ?_ ?_); exact rfl; intro W bm hbm hcW hbox; replace hbm := Lib.hid hbm; replace hcW := Lib.hid hcW; replace hbox := Lib.hid hbox; refine Hid.out ?_)
  refine Lib.hid ?_
  clear hbm
  go_wp2_with fail
  go_loopw [3] (fun s3 wr => ∃ k : Nat, k ≤ ls.length ∧ s3 = .int .i64 (k : Int) ∧ (∀ j, j < k → (!holeS (ls.getD j .zero)) = false) ∧ Chg [] W wr) (fun s3 _ => ls.length - (intOf s3).toNat)
  case atStart => exact ⟨0, Nat.zero_le _, rfl, fun _ h => absurd h (Nat.not_lt_zero _), Chg.refl _ _⟩
  case round =>
    obtain ⟨k, hk, rfl, hno, hch⟩ := hrel
    have Hno := Lib.hid hno
    have Hch := Lib.hid hch
    clear hno hch
    have x4 := Img.c_segs (hbox.out.frame Hch.out)
    have hv2 := hv
    unfold SlV.v at hv2
    rw [hv2] at x4
    by_cases hlt : k < ls.length
    · have rd2 := (Rd.out.frame hcW.out).frame Hch.out
      rw [hv] at rd2
      obtain ⟨b, off, rfl, hb, hcell⟩ := rd2.at (by omega)
      have hI : segL.In wr b (off + k * 7) (ls.getD k .zero) := hcell k hlt
      obtain ⟨s, hs⟩ : ∃ s, s = ls.getD k .zero := ⟨_, rfl⟩
      rw [← hs] at hI
      obtain ⟨y0, y1, y2, y3, y4, y5, y6⟩ := Seg.at hI
      clear hcell hb rd2 hv hv2
      have Hs := Lib.hid hs
      have HI := Lib.hid hI
      clear hs hI
      have HF := Lib.hid (refHole_any s)
      obtain ⟨q, hq⟩ : ∃ q, q = holeS s := ⟨_, rfl⟩
      rw [← hq] at HF
      go_wp2_with fail
      refine (HF.out _).mono ?_
      rintro e w' ⟨rfl, hc⟩
      have HC := Lib.hid (Hch.out.then hc)
      replace x4 := hc.cell x4 (by simp)
      replace y1 := hc.cell y1 (by simp)
      clear hc y0 y2 y3 y4 y5 y6
      cases q with
      | false =>
        have HE : Hid (lowS ls = s.addr) := by
          refine Lib.hid ?_
          rw [Hs.out] at hq
          have := idx_some (p := fun s => !holeS s) (d := Seg.zero) (l := ls) (k := k) hlt (by rw [← hq]; rfl) (fun j hj => Hno.out j hj)
          unfold lowS
          rw [this, Hs.out]
        clear hq
        go_wp2
        go_ret
        exact ⟨by rw [HE.out]; rfl, hcW.out.then HC.out⟩
      | true =>
        have Hq := Lib.hid hq
        clear hq
        go_wp2
        go_roundw
        case rel =>
          refine ⟨k + 1, hlt, by go_num, fun j hj => ?_, HC.out⟩
          by_cases e : j = k
          · subst e; rw [← Hs.out, ← Hq.out]; rfl
          · exact Hno.out j (by omega)
        case measure => simp [intOf]; omega
    · have HE : Hid (lowS ls = 0) := by
        refine Lib.hid ?_
        have := idx_none (p := fun s => !holeS s) (d := Seg.zero) (l := ls) (fun j hj => Hno.out j (by omega))
        unfold lowS
        rw [this]
      clear hv hv2
      go_wp2
      go_ret
      exact ⟨by rw [HE.out]; rfl, hcW.out.then Hch.out⟩
end Go.Proofs.YtgjlgamlmmjdpaaGreatDoor
/- image.At: the number of an address's segment. -/
namespace Go.Proofs.YtgjlgamlmmjdpaaGreatDoor
open Go.RowKit
set_option maxRecDepth 100000

/-- Does an address stand in a segment? -/
def inS (addr : Int) (s : Seg) : Bool := !holeS s && (decide (s.addr ≤ addr) && decide (addr - s.addr < s.size))
def atS (ls : List Seg) (addr : Int) : Option Nat := idx (inS addr) ls
theorem Tryz.tSeg : Lay.Ty segL Tryz.prog 42 := Lay.Ty.mk' (by kernel_rfl) (by kernel_rfl)
/-- A segment's numbers are of their kinds. -/
def SegB (s : Seg) : Prop := (0 ≤ s.addr ∧ s.addr < 18446744073709551616) ∧ (0 ≤ s.size ∧ s.size < 18446744073709551616) ∧ (0 ≤ s.off ∧ s.off < 18446744073709551616) ∧ (0 ≤ s.fsize ∧ s.fsize < 18446744073709551616)
def SegsB (ls : List Seg) : Prop := ∀ k, k < ls.length → SegB (ls.getD k .zero)
end Go.Proofs.YtgjlgamlmmjdpaaGreatDoor
