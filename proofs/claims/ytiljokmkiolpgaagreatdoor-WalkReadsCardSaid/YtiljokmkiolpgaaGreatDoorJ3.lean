/- Lemmas, laid together: part 3 of 42. Conditions: none but each lemma's own. -/
import Derived.Test.YtiljokmkiolpgaaGreatDoorJ2
import Derived.Laws.Cells
import Derived.Test.YtiljokmkiolpgaaGreatDoorProg
import Derived.Deep.CutRange
import Derived.StillTailTactics
import Derived.Handy
import Derived.Lib.Bytealg
import Derived.Lib.Strings
import Derived.MapKept
import Derived.Maps.Own
import Derived.Laws.BitsAllLaws
import Derived.Lib.AppendStr
import Derived.Test.YtiljokmkiolpgaaGreatDoorJ1
namespace Go.Proofs.YtiljokmkiolpgaaGreatDoor
open Go.RowKit
set_option maxRecDepth 100000
namespace Lay
variable {α : Type} {L : Lay α} {P : Program} {T : TypeId}
def isRec : TypeDesc → Bool
 | .struct _ => true
 | .array _ _ => true
 | _ => false
structure Ty (L : Lay α) (P : Program) (T : TypeId) : Prop where
 agg : (∃ fs, P.underlying T = some (.struct fs)) ∨ ∃ n e, P.underlying T = some (.array n e)
 info : ∃ i, P.info? T = some i ∧ i.size = L.n ∧ i.zero = some (.agg (L.f L.d).toArray)
theorem Ty.mk' (hu : (P.underlying T).map isRec = some true) (hi : (P.info? T).map (fun i => (i.zero, i.size)) = some (some (.agg (L.f L.d).toArray), L.n)) : Ty L P T := by
 constructor
 ·cases h : P.underlying T with
  | none => rw [h] at hu; cases hu
  | some d =>
   cases d with
   | struct fs => exact .inl ⟨fs, rfl⟩
   | array n e => exact .inr ⟨n, e, rfl⟩
   | _ => rw [h] at hu; cases hu
 ·cases h : P.info? T with
  | none => rw [h] at hi; cases hi
  | some i =>
   rw [h] at hi
   simp only [Option.map_some, Option.some.injEq, Prod.mk.injEq] at hi
   exact ⟨i, rfl, hi.2, hi.1⟩
theorem run_isAgg (hT : Ty L P T) (w : World) : (isAgg T).run P w = .ok true w := by
 rcases hT.agg with ⟨fs, hu⟩ | ⟨n, e, hu⟩ <;> simp [isAgg, run_underlying hu]
theorem run_size (hT : Ty L P T) (w : World) : (sizeOf T).run P w = .ok L.n w := by
 obtain ⟨i, hi, hs, _⟩ := hT.info
 simp [sizeOf, typeInfo, hi, hs]
theorem run_zero (hT : Ty L P T) (w : World) : (zeroValue T).run P w = .ok (.agg (L.f L.d).toArray) w := by
 obtain ⟨i, hi, hs, hz⟩ := hT.info
 simp [zeroValue, typeInfo, hi, hz]
theorem run_load_rec (hT : Ty L P T) {w : World} {b o : Nat} {x : α} (h : L.In w b o x) : (loadVar T ⟨b, o, none⟩).run P w = .ok (.agg (L.f x).toArray) w := by
 have h1 := run_loadCells_list (P := P) w ⟨b, o, none⟩ (L.f x) (fun j v hv => by
  rw [addr_add]
  have hj : j < L.n := by have := (List.getElem?_eq_some_iff.1 hv).1; rw [L.len] at this; exact this
  rw [h j hj, hv])
 rw [L.len] at h1
 unfold loadVar
 simp [run_isAgg hT, run_size hT, h1]
theorem run_storeCells {g : Nat} : ∀ (us : List Value) (w : World) (o i : Nat), (∀ u ∈ us, u.oneCell' = true) → (∀ c, c < us.length → ∃ u, w.cell? ⟨g, o + i + c, none⟩ = some u) → (∀ j, w.frozen? ⟨g, j, none⟩ = false) →
  (storeCells ⟨g, o, none⟩ us i).run P w = .ok () (setW w g (o + i) us)
 | [], w, o, i, _, _, _ => by simp [storeCells, setW]
 | u :: r, w, o, i, h1, hc, hf => by
  obtain ⟨u0, hu0⟩ := hc 0 (by simp)
  rw [Nat.add_zero] at hu0
  have h1u := h1 u (List.mem_cons_self ..)
  have hst : (store ((⟨g, o, none⟩ : Addr).add i) u).run P w = .ok () (w.setCell ⟨g, o + i, none⟩ u) := by
   rw [addr_add, run_store P w _ u _ h1u]
   simp [hu0, hf]
  have ih := run_storeCells r (w.setCell ⟨g, o + i, none⟩ u) o (i + 1) (fun v hv => h1 v (List.mem_cons_of_mem _ hv)) (fun c hcl => by
   obtain ⟨v, hv⟩ := hc (c + 1) (by simpa using hcl)
   rw [show o + (i + 1) + c = o + i + (c + 1) by omega]
   exact cell?_setCell_some hv) (fun j => by simpa using hf j)
  unfold storeCells setW
  simp only [Sem.run_bind, hst, Result.andThen_ok]
  rw [ih, show o + (i + 1) = o + i + 1 by omega]
section
variable {ops : Array Oper} {rest : List Oper} {o : Oper} {a : Act} {Q : Exit → Act → World → Prop} {w : World}
theorem ld (hT : Ty L P T) (hgd : o.guard = none) (s : Operand) (ho : o.op = .load T s) {b off : Nat} (hs : a.eval s = .pointer (some ⟨b, off, none⟩)) {x : α} (hx : L.In w b off x)
  (h : wpList P ops Q rest (a.put o.dst (.agg (L.f x).toArray)) w) : wpList P ops Q (o :: rest) a w := by
 refine wpList_plain hgd fun K hK => ?_
 unfold Oper.wp execOp
 simp only [ho, Instr.loadAt, Instr.sureAddr, Sem.run_bind, Sem.run_pure, hs, Result.andThen_ok, run_load_rec hT hx]
 exact hK _ _ h
theorem bx (hgd : o.guard = none) (s : Operand) (ho : o.op = .box T s) {x : α} (hs : a.eval s = .agg (L.f x).toArray)
  (h : ∀ W b, b = w.heap.size → Chg [] w W → L.Box W b x → wpList P ops Q rest (a.put o.dst (.pointer (some ⟨b, 0, none⟩))) W) : wpList P ops Q (o :: rest) a w := by
 refine wpList_plain hgd fun K hK => ?_
 unfold Oper.wp execOp
 have := h _ _ rfl ((Chg.refl [] w).alloc _) (Box.of_alloc (L := L) w x T)
 simp [ho, Instr.box, hs, newVar, newRow, Value.cells]
 exact hK _ _ this
theorem al (hT : Ty L P T) (hgd : o.guard = none) (ho : o.op = .alloc T)
  (h : ∀ W b, b = w.heap.size → Chg [] w W → L.Box W b L.d → wpList P ops Q rest (a.put o.dst (.pointer (some ⟨b, 0, none⟩))) W) : wpList P ops Q (o :: rest) a w := by
 refine wpList_plain hgd fun K hK => ?_
 unfold Oper.wp execOp
 have := h _ _ rfl ((Chg.refl [] w).alloc _) (Box.of_alloc (L := L) w L.d T)
 simp [ho, Instr.alloc, run_zero hT, newVar, newRow, Value.cells]
 exact hK _ _ this
theorem st (hT : Ty L P T) (hgd : o.guard = none) (p s : Operand) (ho : o.op = .store T p s) {b : Nat} (hp : a.eval p = .pointer (some ⟨b, 0, none⟩)) {x y : α} (hs : a.eval s = .agg (L.f x).toArray) (hb : L.Box w b y)
  (h : ∀ W, Chg [b] w W → L.Box W b x → wpList P ops Q rest (a.put o.dst undef) W) : wpList P ops Q (o :: rest) a w := by
 refine wpList_plain hgd fun K hK => ?_
 unfold Oper.wp execOp
 have := h _ (setW_chg b (L.f x) w 0) (hb.put x)
 have hr := run_storeCells (P := P) (g := b) (L.f x) w 0 0 (L.one x) (fun c hc => by
  have := hb.in c (by rw [← L.len x]; exact hc)
  rw [Nat.zero_add] at this ⊢
  rw [this]
  exact ⟨_, List.getElem?_eq_getElem (by rw [L.len]; rw [L.len] at hc; exact hc)⟩) hb.frozen
 simp [ho, Instr.storeAt, Instr.sureAddr, hp, hs, storeVar, run_size hT, Value.cells, L.len, hr]
 exact hK _ _ this
theorem ldL (hT : Ty L P T) {d : Tmp} {s : Operand} {ty : TypeId} {pos : String} {after : Array Edge} {b off : Nat} (x : α) (hx : L.In w b off x) (hs : a.eval s = .pointer (some ⟨b, off, none⟩))
  (h : wpList P ops Q rest (a.put (some d) (.agg (L.f x).toArray)) w) : wpList P ops Q (⟨some d, .load T s, ty, pos, after, none⟩ :: rest) a w := ld hT rfl s rfl hs hx h
theorem bxL (T : TypeId) {d : Tmp} {s : Operand} {ty : TypeId} {pos : String} {after : Array Edge} (x : α) (hs : a.eval s = .agg (L.f x).toArray)
  (h : ∀ W b, b = w.heap.size → Chg [] w W → L.Box W b x → wpList P ops Q rest (a.put (some d) (.pointer (some ⟨b, 0, none⟩))) W) : wpList P ops Q (⟨some d, .box T s, ty, pos, after, none⟩ :: rest) a w := bx rfl s rfl hs h
theorem alL (hT : Ty L P T) {d : Tmp} {ty : TypeId} {pos : String} {after : Array Edge}
  (h : ∀ W b, b = w.heap.size → Chg [] w W → L.Box W b L.d → wpList P ops Q rest (a.put (some d) (.pointer (some ⟨b, 0, none⟩))) W) : wpList P ops Q (⟨some d, .alloc T, ty, pos, after, none⟩ :: rest) a w := al hT rfl rfl h
theorem stL (hT : Ty L P T) {p s : Operand} {ty : TypeId} {pos : String} {after : Array Edge} {b : Nat} {y : α} (x : α) (hb : L.Box w b y) (hp : a.eval p = .pointer (some ⟨b, 0, none⟩)) (hs : a.eval s = .agg (L.f x).toArray)
  (h : ∀ W, Chg [b] w W → L.Box W b x → wpList P ops Q rest a W) : wpList P ops Q (⟨none, .store T p s, ty, pos, after, none⟩ :: rest) a w := st hT rfl p s rfl hp hs hb h
theorem ldQ (hT : Ty L P T) {d : Tmp} {s : Operand} {ty : TypeId} {pos : String} {after : Array Edge} {b off : Nat} (x : α) (hx : L.In w b off x) (hs : a.eval s = .pointer (some ⟨b, off, none⟩))
  (h : Hid (wpList P ops Q rest (a.put (some d) (.agg (L.f x).toArray)) w)) : wpList P ops Q (⟨some d, .load T s, ty, pos, after, none⟩ :: rest) a w := ldL hT x hx hs h.out
theorem bxQ (T : TypeId) {d : Tmp} {s : Operand} {ty : TypeId} {pos : String} {after : Array Edge} (x : α) (hs : a.eval s = .agg (L.f x).toArray)
  (h : Hid (∀ W b, Hid (b = w.heap.size) → Hid (Chg [] w W) → Hid (L.Box W b x) → wpList P ops Q rest (a.put (some d) (.pointer (some ⟨b, 0, none⟩))) W)) : wpList P ops Q (⟨some d, .box T s, ty, pos, after, none⟩ :: rest) a w := bxL T x hs fun W b h1 h2 h3 => h.out W b (hY h1) (hY h2) (hY h3)
theorem alQ (hT : Ty L P T) {d : Tmp} {ty : TypeId} {pos : String} {after : Array Edge}
  (h : Hid (∀ W b, Hid (b = w.heap.size) → Hid (Chg [] w W) → Hid (L.Box W b L.d) → wpList P ops Q rest (a.put (some d) (.pointer (some ⟨b, 0, none⟩))) W)) : wpList P ops Q (⟨some d, .alloc T, ty, pos, after, none⟩ :: rest) a w := alL hT fun W b h1 h2 h3 => h.out W b (hY h1) (hY h2) (hY h3)
theorem stQ (hT : Ty L P T) {p s : Operand} {ty : TypeId} {pos : String} {after : Array Edge} {b : Nat} {y : α} (x : α) (hb : L.Box w b y) (hp : a.eval p = .pointer (some ⟨b, 0, none⟩)) (hs : a.eval s = .agg (L.f x).toArray)
  (h : Hid (∀ W, Hid (Chg [b] w W) → Hid (L.Box W b x) → wpList P ops Q rest a W)) : wpList P ops Q (⟨none, .store T p s, ty, pos, after, none⟩ :: rest) a w := stL hT x hb hp hs fun W h1 h2 => h.out W (hY h1) (hY h2)
end
theorem ret1 (hT : Ty L P T) {fn : Func} {t : Tmp} (hr : fn.results = #[.cell t T]) {R : Ending → World → Prop} {a : Act} {w : World} {b : Nat} {x : α} (hx : L.Box w b x) (ht : a.tmps.getD t undef = .pointer (some ⟨b, 0, none⟩)) (hd : a.defers = []) (hR : R (.returned (L.val x)) w) : bodyPost P fn R .ret a w := by
 have h2 : (loadVar T ⟨b, 0, none⟩).run P w = .ok (L.val x) w := run_load_rec hT hx.in
 rw [Array.getD_eq_getD_getElem?] at ht
 exact bodyPost_ret (v := L.val x) (by simp [results, hr, ht, asAddr, h2]) hd hR
theorem ret2 (hT : Ty L P T) {fn : Func} {t u : Tmp} (hr : fn.results = #[.cell t T, .tmp u]) {R : Ending → World → Prop} {a : Act} {w : World} {b : Nat} {x : α} (hx : L.Box w b x) (ht : a.tmps.getD t undef = .pointer (some ⟨b, 0, none⟩)) (hd : a.defers = []) (hR : R (.returned (.tuple #[L.val x, a.tmps.getD u undef])) w) : bodyPost P fn R .ret a w := by
 have h2 : (loadVar T ⟨b, 0, none⟩).run P w = .ok (L.val x) w := run_load_rec hT hx.in
 rw [Array.getD_eq_getD_getElem?] at ht
 exact bodyPost_ret (v := .tuple #[L.val x, a.tmps.getD u undef]) (by simp [results, hr, ht, asAddr, h2]) hd hR
theorem ret3 (hT : Ty L P T) {fn : Func} {t u r : Tmp} (hr : fn.results = #[.cell t T, .tmp u, .tmp r]) {R : Ending → World → Prop} {a : Act} {w : World} {b : Nat} {x : α} (hx : L.Box w b x) (ht : a.tmps.getD t undef = .pointer (some ⟨b, 0, none⟩)) (hd : a.defers = []) (hR : R (.returned (.tuple #[L.val x, a.tmps.getD u undef, a.tmps.getD r undef])) w) : bodyPost P fn R .ret a w := by
 have h2 : (loadVar T ⟨b, 0, none⟩).run P w = .ok (L.val x) w := run_load_rec hT hx.in
 rw [Array.getD_eq_getD_getElem?] at ht
 exact bodyPost_ret (v := .tuple #[L.val x, a.tmps.getD u undef, a.tmps.getD r undef]) (by simp [results, hr, ht, asAddr, h2]) hd hR
theorem run_eql_func {P : Program} {T : TypeId} {x y : Array TypeId} {z : Bool} (hu : P.underlying T = some (.func x y z)) (W : World) :
  (binOp .eql T .nilFunc .nilFunc).run P W = .ok (.bool true) W ∧ (∀ f fi ca, (binOp .eql T (.func f fi ca) .nilFunc).run P W = .ok (.bool false) W) ∧ (binOp .neq T .nilFunc .nilFunc).run P W = .ok (.bool false) W ∧ ∀ f fi ca, (binOp .neq T (.func f fi ca) .nilFunc).run P W = .ok (.bool true) W := by
 have h1 : ∀ d : Nat, (Op.equalIn (d + 1) T .nilFunc .nilFunc).run P W = .ok true W := fun d => by simp [Op.equalIn, run_underlying hu]
 have h2 : ∀ (d : Nat) f fi ca, (Op.equalIn (d + 1) T (.func f fi ca) .nilFunc).run P W = .ok false W := fun d f fi ca => by simp [Op.equalIn, run_underlying hu]
 refine ⟨?_, fun f fi ca => ?_, ?_, fun f fi ca => ?_⟩ <;> simp only [binOp] <;> simp [Op.equal, Op.maxDepth, h1 9999, h2 9999]
end Lay
def byteL : Lay UInt8 := ⟨1, fun b => [.int .u8 b.toNat], 0, fun _ => rfl, by decide, fun x u hu => by
 simp only [List.mem_singleton] at hu
 subst hu
 rfl⟩
abbrev BB (w : World) (base : Nat) (v : Value) (l : List UInt8) : Prop := byteL.Buf 5 w base v l
theorem Tryz.infoByte : Lay.Info Tryz.prog 22 5 byteL.n 1 := Lay.Info.mk' (z := .int .u8 0) (by kernel_rfl) (by kernel_rfl) rfl
def leB (n size : Nat) : List UInt8 := (List.range size).map fun i => UInt8.ofNat (n / 2 ^ (8 * i))
theorem leB_len (n k : Nat) : (leB n k).length = k := by simp [leB]
theorem Rd_of_byte {w : World} {v : Value} {l : List UInt8} (h : byteL.Rd w v l) : Rd w v (bytesV l) := by
 obtain ⟨a, n, cap, rfl, hn, hc, hm, hx⟩ := h
 refine ⟨a, n, cap, rfl, by rw [bytesV_length]; exact hn, hc, hm, fun hne => ?_⟩
 obtain ⟨b, off, e, _, hcell⟩ := hx (by rintro rfl; exact hne rfl)
 refine ⟨b, off, e, fun j hj => ?_⟩
 rw [bytesV_length] at hj
 have := hcell j hj 0 (by decide)
 rw [show byteL.n = 1 from rfl, Nat.mul_one, Nat.add_zero] at this
 rw [this, bytesV_get l j hj]
 rfl
theorem Rd_to_byte {w : World} {v : Value} {l : List UInt8} (h : Rd w v (bytesV l)) : byteL.Rd w v l := by
 obtain ⟨a, n, cap, rfl, hn, hc, hm, hx⟩ := h
 rw [bytesV_length] at hn hx
 refine ⟨a, n, cap, rfl, hn, hc, hm, fun hne => ?_⟩
 obtain ⟨b, off, e, hcell⟩ := hx (by
  intro e
  have := congrArg List.length e
  rw [bytesV_length] at this
  exact hne (List.eq_nil_of_length_eq_zero this))
 have hp : 0 < l.length := List.length_pos_iff.2 hne
 refine ⟨b, off, e, ?_, fun j hj c hc => ?_⟩
 ·have h0 := hcell 0 hp
  rw [bytesV_get l 0 hp] at h0
  exact World.block_lt_of_cell? w _ h0
 ·have hc0 : c = 0 := by have : byteL.n = 1 := rfl; omega
  subst hc0
  rw [show byteL.n = 1 from rfl, Nat.mul_one, Nat.add_zero, hcell j hj, bytesV_get l j hj]
  rfl
def zeroAt (s : CS) : Int := Lib.indexByte (s.l.drop s.at_) 0
def textOk (s : CS) (most : Int) : Bool := !s.failed && decide (0 ≤ zeroAt s) && decide (zeroAt s ≤ most)
def textS (s : CS) (most : Int) : CS := if textOk s most then ⟨s.l, s.at_ + (zeroAt s).toNat + 1, s.big, false⟩ else failS s
def textL (s : CS) (most : Int) : List UInt8 := if textOk s most then (s.l.drop s.at_).take (zeroAt s).toNat else []
theorem indexByte_lt (l : List UInt8) (c : UInt8) : Lib.indexByte l c < l.length := by
 induction l with
 | nil => simp [Lib.indexByte]
 | cons b l ih =>
  unfold Lib.indexByte
  split
  ·simp only [List.length_cons]; omega
  ·split
   ·simp; omega
   ·simp only [List.length_cons]; omega
theorem Rd_takeG {w : World} {a : Option Addr} {n cap k : Nat} {l : List UInt8} (h : Rd w (.slice a n cap) (bytesV l)) (hk : k ≤ l.length) : Rd w (.slice a k cap) (bytesV (l.take k)) := by
  obtain ⟨a', n', cap', he, hn, hnc, hcm, hx⟩ := h
  cases he
  rw [bytesV_length] at hn hx
  refine ⟨_, _, _, rfl, by simp [bytesV]; omega, by omega, hcm, fun hne => ?_⟩
  have hlen : (bytesV (l.take k)).length = k := by simp [bytesV]; omega
  have hk0 : 0 < k := by
    rcases Nat.eq_zero_or_pos k with h0 | h0
    · subst h0; simp [bytesV] at hne
    · exact h0
  obtain ⟨b, off, h, hcell⟩ := hx (by intro e; have : (bytesV l).length = 0 := by rw [e]; rfl
                                      rw [bytesV_length] at this; omega)
  subst h
  refine ⟨_, _, rfl, fun j hj => ?_⟩
  rw [hlen] at hj
  rw [hcell j (by omega), bytesV_get l j (by omega), bytesV_get _ j (by simp; omega)]
  simp [hj]
theorem takeL_list {s : CS} {m : Int} (h : canTake s m = true) : takeL s m = (s.l.drop s.at_).take m.toNat := by unfold takeL; rw [h, if_pos rfl]
structure Raw where
 ord : Int
 weak : Bool
 sym : ByteArray
 add : Int
 name : Int
def Raw.cells (s : Raw) : List Value := [.int .i64 s.ord, .bool s.weak, .string s.sym, .int .i64 s.add, .int .u64 s.name]
abbrev Raw.v (s : Raw) : Value := .agg #[.int .i64 s.ord, .bool s.weak, .string s.sym, .int .i64 s.add, .int .u64 s.name]
def Raw.wf (s : Raw) : Prop := (Lit.int .i64 s.ord).wf = true ∧ (Lit.int .i64 s.add).wf = true ∧ (Lit.int .u64 s.name).wf = true
def Raw.zero : Raw := ⟨0, false, ⟨#[]⟩, 0, 0⟩
def rawL : Lay Raw := ⟨5, Raw.cells, Raw.zero, fun _ => rfl, by decide, fun x u hu => by
 simp only [Raw.cells, List.mem_cons, List.not_mem_nil, or_false] at hu
 rcases hu with rfl | rfl | rfl | rfl | rfl <;> rfl⟩
theorem Raw.at {w : World} {b o : Nat} {s : Raw} (h : rawL.In w b o s) : w.cell? ⟨b, o, none⟩ = some (.int .i64 s.ord) ∧ w.cell? ⟨b, o + 1, none⟩ = some (.bool s.weak) ∧ w.cell? ⟨b, o + 2, none⟩ = some (.string s.sym) ∧ w.cell? ⟨b, o + 3, none⟩ = some (.int .i64 s.add) ∧ w.cell? ⟨b, o + 4, none⟩ = some (.int .u64 s.name) :=
 ⟨h 0 (by decide), h 1 (by decide), h 2 (by decide), h 3 (by decide), h 4 (by decide)⟩
theorem Raw.box (w : World) (s : Raw) (T : TypeId) : rawL.Box (w.alloc (.cells #[.int .i64 s.ord, .bool s.weak, .string s.sym, .int .i64 s.add, .int .u64 s.name] T)) w.heap.size s := Lay.Box.of_alloc (L := rawL) w s T
theorem Raw.set_sym {w : World} {g : Nat} {s : Raw} (h : rawL.Box w g s) (x : ByteArray) : rawL.Box (w.setCell ⟨g, 2, none⟩ (.string x)) g { s with sym := x } := Lay.Box.set h 2 _ _ rfl
theorem Raw.set_add {w : World} {g : Nat} {s : Raw} (h : rawL.Box w g s) (x : Int) : rawL.Box (w.setCell ⟨g, 3, none⟩ (.int .i64 x)) g { s with add := x } := Lay.Box.set h 3 _ _ rfl
theorem Raw.set_name {w : World} {g : Nat} {s : Raw} (h : rawL.Box w g s) (x : Int) : rawL.Box (w.setCell ⟨g, 4, none⟩ (.int .u64 x)) g { s with name := x } := Lay.Box.set h 4 _ _ rfl
theorem Raw.c_ord {w : World} {b : Nat} {s : Raw} (h : rawL.Box w b s) : w.cell? ⟨b, 0, none⟩ = some (.int .i64 s.ord) := by have := h.in 0 (by decide); rw [Nat.zero_add] at this; exact this
theorem Raw.c_sym {w : World} {b : Nat} {s : Raw} (h : rawL.Box w b s) : w.cell? ⟨b, 2, none⟩ = some (.string s.sym) := by have := h.in 2 (by decide); rw [Nat.zero_add] at this; exact this
theorem Raw.c_add {w : World} {b : Nat} {s : Raw} (h : rawL.Box w b s) : w.cell? ⟨b, 3, none⟩ = some (.int .i64 s.add) := by have := h.in 3 (by decide); rw [Nat.zero_add] at this; exact this
theorem Raw.c_name {w : World} {b : Nat} {s : Raw} (h : rawL.Box w b s) : w.cell? ⟨b, 4, none⟩ = some (.int .u64 s.name) := by have := h.in 4 (by decide); rw [Nat.zero_add] at this; exact this
def belowI (n top : Nat) : Int := if top - 16 < n then (n : Int) - top else n
def shortR (n : Nat) : Raw := ⟨belowI (n % 256) 256, n / 256 % 2 == 1, ⟨#[]⟩, 0, (n / 512 : Nat)⟩
def longR (n m : Nat) : Raw := ⟨belowI (n % 256) 256, n / 256 % 2 == 1, ⟨#[]⟩, wrap32 (m : Int), (n / 512 : Nat)⟩
def wideR (n m : Nat) : Raw := ⟨belowI (n % 65536) 65536, n / 65536 % 2 == 1, ⟨#[]⟩, wrap64 (m : Int), (n / 4294967296 : Nat)⟩
def seekC (s : CS) (n : Nat) : CS := if n ≤ 2147483647 then seekS s n else seekS (failS s) (IntKind.i64.wrap (n : Int))
def WN (B : List UInt8) (p k : Nat) : Nat := leNum ((B.drop p).take k)
def cs (B : List UInt8) (p : Nat) : CS := ⟨B, p, false, false⟩
theorem canT {B : List UInt8} {p k : Nat} (h : p + k ≤ B.length) : canTake (cs B p) k = true := canTake_of rfl (by omega) (by show (k : Int) ≤ (B.length : Int) - (p : Int); omega)
theorem numV {B : List UInt8} {p k : Nat} (hk : okSize k = true) (h : p + k ≤ B.length) : numberV (cs B p) k = WN B p k := by
 unfold numberV
 rw [hk, if_pos rfl, takeL_list (canT h)]
 rfl
theorem numS {B : List UInt8} {p k : Nat} (hk : okSize k = true) (h : p + k ≤ B.length) : numberS (cs B p) k = cs B (p + k) := by
 unfold numberS takeS
 rw [hk, if_pos rfl, canT h, if_pos rfl]
 rfl
theorem sekC {B : List UInt8} {p q : Nat} (h : q ≤ B.length) (h2 : q ≤ 2147483647) : seekC (cs B p) q = cs B q := by
 unfold seekC seekS
 rw [if_pos h2, if_pos (by show (0 : Int) ≤ q ∧ (q : Int) ≤ (B.length : Int); omega)]
 rfl
def isz (fm : Int) : Nat := if fm = 3 then 16 else if fm = 2 then 8 else 4
def rawS (fm : Int) (s : CS) : Raw := if fm = 3 then wideR (numberV s 8) (numberV (numberS s 8) 8) else if fm = 2 then longR (numberV s 4) (numberV (numberS s 4) 4) else shortR (numberV s 4)
def rawE (fm : Int) (s : CS) : CS := if fm = 3 then numberS (numberS s 8) 8 else if fm = 2 then numberS (numberS s 4) 4 else numberS s 4
theorem rawE_cs (fm : Int) (B : List UInt8) (p : Nat) (h : p + isz fm ≤ B.length) : rawE fm (cs B p) = cs B (p + isz fm) := by
 unfold rawE isz at *
 split
 ·rename_i h3; rw [if_pos h3] at h
  rw [show ((8 : Int)) = ((8 : Nat) : Int) from rfl, numS (by decide) (by omega), numS (by decide) (by omega)]
 ·rename_i h3; rw [if_neg h3] at h
  split
  ·rename_i h2; rw [if_pos h2] at h
   rw [show ((4 : Int)) = ((4 : Nat) : Int) from rfl, numS (by decide) (by omega), numS (by decide) (by omega)]
  ·rename_i h2; rw [if_neg h2] at h
   rw [show ((4 : Int)) = ((4 : Nat) : Int) from rfl, numS (by decide) h]
structure Imp where
 ord : Int
 weak : Bool
 sym : ByteArray
 add : Int
def Imp.cells (s : Imp) : List Value := [.int .i64 s.ord, .bool s.weak, .string s.sym, .int .i64 s.add]
abbrev Imp.v (s : Imp) : Value := .agg #[.int .i64 s.ord, .bool s.weak, .string s.sym, .int .i64 s.add]
def Imp.wf (s : Imp) : Prop := (Lit.int .i64 s.ord).wf = true ∧ (Lit.int .i64 s.add).wf = true
def Imp.zero : Imp := ⟨0, false, ⟨#[]⟩, 0⟩
def impL : Lay Imp := ⟨4, Imp.cells, Imp.zero, fun _ => rfl, by decide, fun x u hu => by
 simp only [Imp.cells, List.mem_cons, List.not_mem_nil, or_false] at hu
 rcases hu with rfl | rfl | rfl | rfl <;> rfl⟩
theorem Imp.at {w : World} {b o : Nat} {s : Imp} (h : impL.In w b o s) : w.cell? ⟨b, o, none⟩ = some (.int .i64 s.ord) ∧ w.cell? ⟨b, o + 1, none⟩ = some (.bool s.weak) ∧ w.cell? ⟨b, o + 2, none⟩ = some (.string s.sym) ∧ w.cell? ⟨b, o + 3, none⟩ = some (.int .i64 s.add) :=
 ⟨h 0 (by decide), h 1 (by decide), h 2 (by decide), h 3 (by decide)⟩
theorem Imp.box (w : World) (s : Imp) (T : TypeId) : impL.Box (w.alloc (.cells #[.int .i64 s.ord, .bool s.weak, .string s.sym, .int .i64 s.add] T)) w.heap.size s := Lay.Box.of_alloc (L := impL) w s T
theorem Imp.set_sym {w : World} {g : Nat} {s : Imp} (h : impL.Box w g s) (x : ByteArray) : impL.Box (w.setCell ⟨g, 2, none⟩ (.string x)) g { s with sym := x } := Lay.Box.set h 2 _ _ rfl
theorem Imp.set_add {w : World} {g : Nat} {s : Imp} (h : impL.Box w g s) (x : Int) : impL.Box (w.setCell ⟨g, 3, none⟩ (.int .i64 x)) g { s with add := x } := Lay.Box.set h 3 _ _ rfl
theorem Imp.c_ord {w : World} {b : Nat} {s : Imp} (h : impL.Box w b s) : w.cell? ⟨b, 0, none⟩ = some (.int .i64 s.ord) := by have := h.in 0 (by decide); rw [Nat.zero_add] at this; exact this
theorem Imp.c_sym {w : World} {b : Nat} {s : Imp} (h : impL.Box w b s) : w.cell? ⟨b, 2, none⟩ = some (.string s.sym) := by have := h.in 2 (by decide); rw [Nat.zero_add] at this; exact this
theorem Imp.c_add {w : World} {b : Nat} {s : Imp} (h : impL.Box w b s) : w.cell? ⟨b, 3, none⟩ = some (.int .i64 s.add) := by have := h.in 3 (by decide); rw [Nat.zero_add] at this; exact this
end Go.Proofs.YtiljokmkiolpgaaGreatDoor
namespace Go.Proofs.YtiljokmkiolpgaaGreatDoor
open Go.RowKit Go.MapKept
set_option maxRecDepth 100000
namespace Map
structure Key (κ : Type) where
 of : κ → Value
 d : TypeDesc
 key : ∀ k, IsKey d (of k)
 inj : ∀ a b, of a = of b → a = b
 all : ∀ v, IsKey d v → ∃ k, v = of k
def intK (q : IntKind) : Key Int := ⟨.int q, .int q, fun _ => rfl, fun a b h => by cases h; rfl, fun v h => by
 cases v with
 | int q' a => exact ⟨a, by rw [show q' = q from h]⟩
 | _ => exact h.elim⟩
def strK : Key ByteArray := ⟨.string, .string, fun _ => trivial, fun a b h => by cases h; rfl, fun v h => by
 cases v with
 | string s => exact ⟨s, rfl⟩
 | _ => exact h.elim⟩
variable {κ : Type} {K : Key κ}
def Is (K : Key κ) (w : World) (b : Nat) (f : κ → Option Value) : Prop :=
 ∃ es clock, w.heap[b]? = some (.map es clock) ∧ (∀ x ∈ es.toList, IsKey K.d x.key) ∧ (∀ (i j : Nat) (x y : MapEntry), es[i]? = some x → es[j]? = some y → x.key = y.key → i = j) ∧ ∀ k v, f k = some v ↔ ∃ e ∈ es.toList, e.key = K.of k ∧ e.val = v
theorem Is.frameS {w w' : World} {b : Nat} {f : κ → Option Value} (h : Is K w b f) {S : List Nat} (k : Chg S w w') (hn : b ∉ S) : Is K w' b f := by
 obtain ⟨es, clock, h1, h2⟩ := h
 exact ⟨es, clock, k.heap h1 hn, h2⟩
theorem Is.frame {w w' : World} {b : Nat} {f : κ → Option Value} (h : Is K w b f) (k : Chg [] w w') : Is K w' b f := h.frameS k (by simp)
theorem Is.lt {w : World} {b : Nat} {f : κ → Option Value} (h : Is K w b f) : b < w.heap.size := by
 obtain ⟨es, clock, h1, _⟩ := h
 exact lt_of_heap h1
theorem Is.made (K : Key κ) (w : World) : Is K (w.alloc (.map #[] 0)) w.heap.size (fun _ => none) := ⟨#[], 0, heap_alloc_eq w _, by simp, by simp, by simp⟩
def put [DecidableEq κ] (f : κ → Option Value) (k : κ) (v : Value) : κ → Option Value := fun j => if j = k then some v else f j
theorem Is.find {P : Program} {kt : TypeId} (hd : P.underlying kt = some K.d) {w : World} {es : Array MapEntry} {f : κ → Option Value} (hk : ∀ x ∈ es.toList, IsKey K.d x.key) (hf : ∀ k v, f k = some v ↔ ∃ e ∈ es.toList, e.key = K.of k ∧ e.val = v) (k : κ) :
  (f k = none ∧ (Instr.findKey kt (K.of k) es.toList).run P w = .ok none w ∧ ∀ x ∈ es.toList, x.key ≠ K.of k) ∨ ∃ j e, f k = some e.val ∧ (Instr.findKey kt (K.of k) es.toList).run P w = .ok (some (j, e.val)) w ∧ es[j]? = some e ∧ e.key = K.of k := by
 rcases findNow_spec (K.key k) es.toList 0 hk with ⟨h1, h2⟩ | ⟨j, e, h1, h2, h3⟩
 ·refine .inl ⟨?_, run_findKey hd h1, h2⟩
  cases hfk : f k with
  | none => rfl
  | some v =>
   obtain ⟨e, he, hek, _⟩ := (hf k v).1 hfk
   exact absurd hek (h2 e he)
 ·rw [Nat.zero_add] at h1
  rw [Array.getElem?_toList] at h2
  exact .inr ⟨j, e, (hf k e.val).2 ⟨e, Array.mem_toList_iff.2 (Array.mem_of_getElem? h2), h3, rfl⟩, run_findKey hd h1, h2, h3⟩
theorem run_put [DecidableEq κ] {P : Program} {T kt et : TypeId} (hT : P.underlying T = some (.map kt et)) (hd : P.underlying kt = some K.d) {w : World} {b : Nat} {f : κ → Option Value} (h : Is K w b f) (k : κ) (v : Value) :
  ∃ W, (Instr.mapUpdate T (.map (some b)) (K.of k) v).run P w = .ok () W ∧ Chg [b] w W ∧ Is K W b (put f k v) := by
 obtain ⟨es, clock, hb, hk, hnd, hf⟩ := h
 have hchg : ∀ o : Obj, Chg [b] w { w with heap := w.heap.setIfInBounds b o } := fun o => ⟨rfl, rfl, rfl, by simp, fun i _ hn => by
  simp only [List.mem_singleton] at hn
  exact (heap_set (o' := o) hb).2 i hn⟩
 rcases Is.find (P := P) (w := w) hd hk hf k with ⟨h1, h2, h3⟩ | ⟨j, e, h1, h2, h3, h4⟩
 ·refine ⟨{ w with heap := w.heap.setIfInBounds b (.map (es.push { key := K.of k, val := v, born := clock }) (clock + 1)) }, ?_, hchg _, ?_⟩
  ·simp [Instr.mapUpdate, run_underlying hT, MapKept.run_getObj_map hb, run_checkKey hd (K.key k), h2, run_setObj_map _ hb]
  ·refine ⟨_, _, (heap_set hb).1, ?_, ?_, ?_⟩
   ·intro x hx
    simp only [Array.toList_push, List.mem_append, List.mem_singleton] at hx
    rcases hx with hx | rfl
    ·exact hk x hx
    ·exact K.key k
   ·intro i j x y hx hy hxy
    rw [Array.getElem?_push] at hx hy
    split at hx
    ·cases hx
     split at hy
     ·omega
     ·exact absurd hxy.symm (h3 y (Array.mem_toList_iff.2 (Array.mem_of_getElem? hy)))
    ·split at hy
     ·cases hy
      exact absurd hxy (h3 x (Array.mem_toList_iff.2 (Array.mem_of_getElem? hx)))
     ·exact hnd i j x y hx hy hxy
   ·intro k' v'
    unfold put
    simp only [Array.toList_push, List.mem_append, List.mem_singleton]
    by_cases e : k' = k
    ·subst e
     rw [if_pos rfl]
     constructor
     ·intro hh; cases hh; exact ⟨_, .inr rfl, rfl, rfl⟩
     ·rintro ⟨e, (he | rfl), hek, hev⟩
      ·exact absurd hek (h3 e he)
      ·simp only at hev; rw [hev]
    ·rw [if_neg e, hf]
     constructor
     ·rintro ⟨x, hx, h5⟩; exact ⟨x, .inl hx, h5⟩
     ·rintro ⟨x, (hx | rfl), h5, h6⟩
      ·exact ⟨x, hx, h5, h6⟩
      ·exact absurd (K.inj _ _ h5).symm e
 ·refine ⟨{ w with heap := w.heap.setIfInBounds b (.map (es.modify j fun e => { e with key := K.of k, val := v }) clock) }, ?_, hchg _, ?_⟩
  ·have hks : (Instr.keyThatStays (K.of k) (K.of k)).run P w = .ok (K.of k) w := run_keyThatStays (K.key k)
   simp [Instr.mapUpdate, run_underlying hT, MapKept.run_getObj_map hb, run_checkKey hd (K.key k), h2, h3, h4, hks, run_setObj_map _ hb]
  ·have hget : ∀ i, (es.modify j fun e => { e with key := K.of k, val := v })[i]? = if j = i then (es[i]?).map (fun e => { e with key := K.of k, val := v }) else es[i]? := fun i => Array.getElem?_modify
   refine ⟨_, _, (heap_set hb).1, ?_, ?_, ?_⟩
   ·intro x hx
    obtain ⟨i, hi⟩ := Array.getElem?_of_mem (Array.mem_toList_iff.1 hx)
    rw [hget] at hi
    split at hi
    ·cases he : es[i]? with
     | none => rw [he] at hi; cases hi
     | some y => rw [he] at hi; cases hi; exact K.key k
    ·exact hk x (Array.mem_toList_iff.2 (Array.mem_of_getElem? hi))
   ·have hkey : ∀ (i : Nat) (x : MapEntry), (es.modify j fun e => { e with key := K.of k, val := v })[i]? = some x → ∃ y : MapEntry, es[i]? = some y ∧ y.key = x.key := by
     intro i x hx
     rw [hget] at hx
     split at hx
     ·rename_i hij
      subst hij
      rw [h3] at hx
      cases hx
      exact ⟨e, h3, h4⟩
     ·exact ⟨x, hx, rfl⟩
    intro i i' x y hx hy hxy
    obtain ⟨x', hx', ex⟩ := hkey i x hx
    obtain ⟨y', hy', ey⟩ := hkey i' y hy
    exact hnd i i' x' y' hx' hy' (by rw [ex, ey, hxy])
   ·intro k' v'
    unfold put
    by_cases ek : k' = k
    ·subst ek
     rw [if_pos rfl]
     constructor
     ·intro hh
      cases hh
      refine ⟨{ e with key := K.of k', val := v }, Array.mem_toList_iff.2 (Array.mem_of_getElem? (i := j) ?_), rfl, rfl⟩
      rw [hget, if_pos rfl, h3]
      rfl
     ·rintro ⟨x, hx, hxk, hxv⟩
      obtain ⟨i, hi⟩ := Array.getElem?_of_mem (Array.mem_toList_iff.1 hx)
      rw [hget] at hi
      split at hi
      ·rename_i hij
       subst hij
       rw [h3] at hi
       cases hi
       simp only at hxv
       rw [hxv]
      ·rename_i hij
       exact absurd (hnd j i e x h3 hi (by rw [h4, hxk])) hij
    ·rw [if_neg ek, hf]
     constructor
     ·rintro ⟨x, hx, hxk, hxv⟩
      obtain ⟨i, hi⟩ := Array.getElem?_of_mem (Array.mem_toList_iff.1 hx)
      refine ⟨x, Array.mem_toList_iff.2 (Array.mem_of_getElem? (i := i) ?_), hxk, hxv⟩
      rw [hget, if_neg]
      ·exact hi
      ·rintro rfl
       rw [h3] at hi
       cases hi
       exact ek (K.inj _ _ (by rw [← hxk, h4]))
     ·rintro ⟨x, hx, hxk, hxv⟩
      obtain ⟨i, hi⟩ := Array.getElem?_of_mem (Array.mem_toList_iff.1 hx)
      rw [hget] at hi
      split at hi
      ·rename_i hij
       subst hij
       rw [h3] at hi
       cases hi
       exact absurd (K.inj _ _ hxk).symm ek
      ·exact ⟨x, Array.mem_toList_iff.2 (Array.mem_of_getElem? hi), hxk, hxv⟩
theorem run_get {P : Program} {T kt et : TypeId} (hT : P.underlying T = some (.map kt et)) (hd : P.underlying kt = some K.d) {w : World} {z : Value} (hz : (zeroValue et).run P w = .ok z w) {b : Nat} {f : κ → Option Value} (h : Is K w b f) (k : κ) :
  (Instr.lookup T (.map (some b)) (K.of k) false).run P w = .ok ((f k).getD z) w ∧ (Instr.lookup T (.map (some b)) (K.of k) true).run P w = .ok (.tuple #[(f k).getD z, .bool (f k).isSome]) w := by
 obtain ⟨es, clock, hb, hk, hnd, hf⟩ := h
 rcases Is.find (P := P) (w := w) hd hk hf k with ⟨h1, h2, _⟩ | ⟨j, e, h1, h2, _, _⟩
 ·rw [h1]
  simp [Instr.lookup, run_underlying hT, MapKept.run_getObj_map hb, run_checkKey hd (K.key k), h2, hz]
 ·rw [h1]
  simp [Instr.lookup, run_underlying hT, MapKept.run_getObj_map hb, run_checkKey hd (K.key k), h2]
section
variable {P : Program} {T : TypeId} {ops : Array Oper} {rest : List Oper} {a : Act} {Q : Exit → Act → World → Prop} {w : World}
theorem mkL (K : Key κ) (T : TypeId) {d : Tmp} {ty : TypeId} {pos : String} {after : Array Edge}
  (h : ∀ W b, b = w.heap.size → Chg [] w W → Is K W b (fun _ => none) → wpList P ops Q rest (a.put (some d) (.map (some b))) W) : wpList P ops Q (⟨some d, .makeMap T none, ty, pos, after, none⟩ :: rest) a w := by
 refine wpList_plain rfl fun J hJ => ?_
 unfold Oper.wp execOp
 have := h _ _ rfl ((Chg.refl [] w).alloc _) (Is.made K w)
 simp [Instr.makeMap]
 exact hJ _ _ this
structure Ty (K : Key κ) (P : Program) (T : TypeId) (z : Value) : Prop where
 m : ∃ kt et, P.underlying T = some (.map kt et) ∧ P.underlying kt = some K.d ∧ ∀ w, (zeroValue et).run P w = .ok z w
theorem insL [DecidableEq κ] {z : Value} (hT : Ty K P T z) {m k x : Operand} {ty : TypeId} {pos : String} {after : Array Edge} {b : Nat} {f : κ → Option Value} (hb : Is K w b f) (i : κ) (v : Value) (hm : a.eval m = .map (some b)) (hk : a.eval k = K.of i) (hv : a.eval x = v)
  (h : ∀ W, Chg [b] w W → Is K W b (put f i v) → wpList P ops Q rest a W) : wpList P ops Q (⟨none, .insert T m k x, ty, pos, after, none⟩ :: rest) a w := by
 refine wpList_plain rfl fun J hJ => ?_
 obtain ⟨kt, et, h1, h2, _⟩ := hT.m
 obtain ⟨W, hr, hc, hi⟩ := run_put h1 h2 hb i v
 unfold Oper.wp execOp
 simp [hm, hk, hv, hr]
 exact hJ _ _ (h W hc hi)
theorem setL [DecidableEq κ] {z : Value} (hT : Ty K P T z) {m k x : Operand} {ty : TypeId} {pos : String} {after : Array Edge} {b : Nat} {f : κ → Option Value} (hb : Is K w b f) (i : κ) (v : Value) (hm : a.eval m = .map (some b)) (hk : a.eval k = K.of i) (hv : a.eval x = v)
  (h : ∀ W, Chg [b] w W → Is K W b (put f i v) → wpList P ops Q rest a W) : wpList P ops Q (⟨none, .mapUpdate T m k x, ty, pos, after, none⟩ :: rest) a w := by
 refine wpList_plain rfl fun J hJ => ?_
 obtain ⟨kt, et, h1, h2, _⟩ := hT.m
 obtain ⟨W, hr, hc, hi⟩ := run_put h1 h2 hb i v
 unfold Oper.wp execOp
 simp [hm, hk, hv, hr]
 exact hJ _ _ (h W hc hi)
theorem getL {z : Value} (hT : Ty K P T z) {m k : Operand} {d : Tmp} {ty : TypeId} {pos : String} {after : Array Edge} {b : Nat} {f : κ → Option Value} (hb : Is K w b f) (i : κ) (hm : a.eval m = .map (some b)) (hk : a.eval k = K.of i)
  (h : wpList P ops Q rest (a.put (some d) ((f i).getD z)) w) : wpList P ops Q (⟨some d, .lookup T m k false, ty, pos, after, none⟩ :: rest) a w := by
 refine wpList_plain rfl fun J hJ => ?_
 obtain ⟨kt, et, h1, h2, h3⟩ := hT.m
 have hr := (run_get h1 h2 (h3 w) hb i).1
 unfold Oper.wp execOp
 simp [hm, hk, hr]
 exact hJ _ _ h
end
end Map
end Go.Proofs.YtiljokmkiolpgaaGreatDoor
namespace Go.Proofs.YtiljokmkiolpgaaGreatDoor
open Go.RowKit
set_option maxRecDepth 100000
def strideF (n : Int) : Int := if n = 12 then 8 else if n = 6 then 4 else if n = 2 then 4 else if n = 1 then 8 else 0
theorem Tryz.tStr : Map.Ty (Map.intK .i64) Tryz.prog 171 (.int .i64 0) := ⟨3, 3, by kernel_rfl, by kernel_rfl, fun w => by kernel_rfl⟩
theorem stride_any (n : Int) (w : World) : Calls Tryz.prog 56 #[.int .i64 n] w fun e w' => e = .returned (.int .i64 (strideF n)) ∧ Chg [] w w' := by
 go_enter Tryz.func56, Tryz.ntmps56
 go_wp2_with ((with_reducible refine Map.mkL (Map.intK .i64) 171 ?_); intro W2 bq ebq cbq mbq; replace ebq := hY ebq; replace cbq := hY cbq; replace mbq := hY mbq; refine Hid.out ?_)
 refine hY ?_
 go_wp2_with ((with_reducible refine Map.insL Tryz.tStr (mbq.out) 1 (.int .i64 8) ?_ ?_ ?_ ?_); exact rfl; exact rfl; exact rfl; intro W3 cW3 mW3; replace cW3 := hY cW3; replace mW3 := hY mW3; refine Hid.out ?_)
 refine hY ?_
 go_wp2_with ((with_reducible refine Map.insL Tryz.tStr (mW3.out) 2 (.int .i64 4) ?_ ?_ ?_ ?_); exact rfl; exact rfl; exact rfl; intro W4 cW4 mW4; replace cW4 := hY cW4; replace mW4 := hY mW4; refine Hid.out ?_)
 refine hY ?_
 go_wp2_with ((with_reducible refine Map.insL Tryz.tStr (mW4.out) 6 (.int .i64 4) ?_ ?_ ?_ ?_); exact rfl; exact rfl; exact rfl; intro W5 cW5 mW5; replace cW5 := hY cW5; replace mW5 := hY mW5; refine Hid.out ?_)
 refine hY ?_
 go_wp2_with ((with_reducible refine Map.insL Tryz.tStr (mW5.out) 12 (.int .i64 8) ?_ ?_ ?_ ?_); exact rfl; exact rfl; exact rfl; intro W6 cW6 mW6; replace cW6 := hY cW6; replace mW6 := hY mW6; refine Hid.out ?_)
 refine hY ?_
 go_wp2_with ((with_reducible refine Map.getL Tryz.tStr (mW6.out) n ?_ ?_ ?_); exact rfl; exact rfl; refine Hid.out ?_)
 refine hY ?_
 go_wp2
 go_ret
 refine ⟨?_, ?_⟩
 ·show Ending.returned (Option.getD _ _) = _
  congr 1
  simp only [Map.put, strideF]
  by_cases h1 : n = 12
  ·simp [h1]
  by_cases h2 : n = 6
  ·simp [h2]
  by_cases h3 : n = 2
  ·simp [h3]
  by_cases h4 : n = 1
  ·simp [h4]
  simp [h1, h2, h3, h4]
 ·have hsz : w.heap.size ≤ bq := by rw [ebq.out]; exact Nat.le_refl _
  exact ((((cbq.out.new cW3.out hsz).new cW4.out hsz).new cW5.out hsz).new cW6.out hsz)
theorem rstride_any (n : Int) (w : World) : Calls Tryz.prog 24 #[.int .i64 n] w fun e w' => e = .returned (.int .i64 (strideF n)) ∧ Chg [] w w' := by
 unfold strideF
 by_cases h1 : n = 12
 ·subst h1
  go_enter Tryz.func24, Tryz.ntmps24
  go_wp2
  go_ret
  exact ⟨rfl, Chg.refl _ _⟩
 by_cases h2 : n = 6
 ·subst h2
  go_enter Tryz.func24, Tryz.ntmps24
  go_wp2
  go_ret
  exact ⟨rfl, Chg.refl _ _⟩
 by_cases h3 : n = 2
 ·subst h3
  go_enter Tryz.func24, Tryz.ntmps24
  go_wp2
  go_ret
  exact ⟨rfl, Chg.refl _ _⟩
 by_cases h4 : n = 1
 ·subst h4
  go_enter Tryz.func24, Tryz.ntmps24
  go_wp2
  go_ret
  exact ⟨rfl, Chg.refl _ _⟩
 rw [if_neg h1, if_neg h2, if_neg h3, if_neg h4]
 have d1 : (n == 12) = false := by simpa using h1
 have d2 : (n == 6) = false := by simpa using h2
 have d3 : (n == 2) = false := by simpa using h3
 have d4 : (n == 1) = false := by simpa using h4
 clear h1 h2 h3 h4
 go_enter Tryz.func24, Tryz.ntmps24
 go_wp2
 go_ret
 exact ⟨rfl, Chg.refl _ _⟩
def u64N (z : Int) : Nat := (z % 18446744073709551616).toNat
def impW (x : Imp) (name : Nat) : Nat := u64N x.ord % 256 + (if x.weak then 256 else 0) + name * 512
def impB (x : Imp) (name : Nat) (fmt : Int) : List UInt8 := leB (impW x name) 4 ++ (if fmt = 2 then leB (u64N x.add) 4 else [])
theorem byte_vals (l : List UInt8) : byteL.vals l = l.map fun b => Value.int .u8 b.toNat := by
 induction l with
 | nil => rfl
 | cons b r ih => rw [Lay.vals_cons, ih]; rfl
theorem str_len (s : ByteArray) : s.data.toList.length = s.size := by rw [Array.length_toList]; rfl
end Go.Proofs.YtiljokmkiolpgaaGreatDoor
