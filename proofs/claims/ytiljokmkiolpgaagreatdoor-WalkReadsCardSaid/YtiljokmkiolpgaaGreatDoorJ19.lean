/- Lemmas, laid together: part 19 of 42. Conditions: none but each lemma's own. -/
import Derived.Test.YtiljokmkiolpgaaGreatDoorJ4
import Derived.Lib.Strings
import Derived.Test.YtiljokmkiolpgaaGreatDoorJ10
import Derived.Test.YtiljokmkiolpgaaGreatDoorJ3
import Derived.Test.YtiljokmkiolpgaaGreatDoorJ12
import Derived.Test.YtiljokmkiolpgaaGreatDoorJ2
import Derived.StillTailTactics
import Derived.BigRegion
import Derived.Test.YtiljokmkiolpgaaGreatDoorJ1
import Derived.Maps.AppendAt
import Derived.Handy
import Derived.Test.YtiljokmkiolpgaaGreatDoorJ11
import Derived.Deep.CutRange
import Derived.Lib.IfaceEq
import Derived.RangeFuncNested
import Derived.RangeFuncBound
import Derived.RangeFuncCalls
import Derived.RangeFuncLeaves
import Derived.Shelf.Abstract
import Derived.Shelf.RegionOpen
import Derived.OwnWalkIn
import Derived.TacticsInMore
import Derived.LoopNIn
import Derived.LoopIn
namespace Go.Proofs.YtiljokmkiolpgaaGreatDoor
open Go.RowKit
set_option maxRecDepth 100000
def withinI (off size all : Int) : Bool := decide (off ≤ all) && decide (size ≤ all - off)
def placeB (n : Int) (s : Seg) : Bool :=
 decide (0 ≤ s.prot) && (decide (s.prot ≤ 7) && (!(decide (s.prot = 0) && decide (0 < s.fsize)) && (decide (s.addr % 4096 = 0) && (decide (s.size % 4096 = 0) && (decide (0 < s.size) && (decide (s.fsize ≤ s.size) && (withinI s.off s.fsize n && withinI s.addr s.size 140737488355328)))))))
def goesB (n : Int) (at_ : Int) (names : ByteArray → Bool) : List Seg → Bool
 | [] => true
 | s :: r => placeB n s && (!names s.name && (decide (at_ ≤ s.addr) && goesB n (s.addr + s.size) (fun x => if x = s.name then true else names x) r))
def eachB (n : Int) (prev : List Seg) : List Seg → Bool
 | [] => true
 | s :: r => placeB n s && (prev.all (fun o => !decide (o.name = s.name) && decide (o.addr + o.size ≤ s.addr)) && eachB n (prev ++ [s]) r)
structure Along (at_ : Int) (names : ByteArray → Bool) (prev : List Seg) : Prop where
 ends : ∀ o ∈ prev, o.addr + o.size ≤ at_
 last : at_ = 0 ∨ ∃ o ∈ prev, o.addr + o.size = at_
 nm : ∀ x, names x = true ↔ ∃ o ∈ prev, o.name = x
theorem placeB_size {n : Int} {s : Seg} (h : placeB n s = true) : 0 < s.size := by
 unfold placeB at h
 simp only [Bool.and_eq_true, decide_eq_true_eq] at h
 exact h.2.2.2.2.2.1
theorem goes_each (n : Int) : ∀ (l : List Seg) (at_ : Int) (names : ByteArray → Bool) (prev : List Seg), Along at_ names prev → (∀ s ∈ l, 0 ≤ s.addr) → goesB n at_ names l = eachB n prev l
 | [], _, _, _, _, _ => rfl
 | s :: r, at_, names, prev, h, ha => by
  unfold goesB eachB
  cases hp : placeB n s with
  | false => rfl
  | true =>
   have hs := placeB_size hp
   have ha0 := ha s (List.mem_cons_self ..)
   simp only [Bool.true_and]
   have key : (!names s.name && decide (at_ ≤ s.addr)) = prev.all (fun o => !decide (o.name = s.name) && decide (o.addr + o.size ≤ s.addr)) := by
    rw [Bool.eq_iff_iff]
    simp only [Bool.and_eq_true, Bool.not_eq_true', decide_eq_false_iff_not, decide_eq_true_eq, List.all_eq_true]
    constructor
    ·rintro ⟨h1, h2⟩ o ho
     refine ⟨fun e => ?_, Int.le_trans (h.ends o ho) h2⟩
     rw [(h.nm _).2 ⟨o, ho, e⟩] at h1
     exact absurd h1 (by decide)
    ·intro h1
     refine ⟨?_, ?_⟩
     ·cases hm : names s.name with
      | false => rfl
      | true =>
       obtain ⟨o, ho, e⟩ := (h.nm _).1 hm
       exact absurd e (h1 o ho).1
     ·rcases h.last with e | ⟨o, ho, e⟩
      ·rw [e]; exact ha0
      ·rw [← e]; exact (h1 o ho).2
   rw [← key, Bool.and_assoc]
   cases h1 : names s.name with
   | true => rfl
   | false =>
    cases h2 : decide (at_ ≤ s.addr) with
    | false => rfl
    | true =>
     have h2' := of_decide_eq_true h2
     simp only [Bool.not_false, Bool.true_and]
     refine goes_each n r _ _ _ ⟨fun o ho => ?_, .inr ⟨s, by simp, rfl⟩, fun x => ?_⟩ (fun q hq => ha q (List.mem_cons_of_mem _ hq))
     ·rcases List.mem_append.1 ho with ho | ho
      ·have := h.ends o ho; omega
      ·rw [List.mem_singleton.1 ho]; exact Int.le_refl _
     ·by_cases ex : x = s.name
      ·rw [if_pos ex]
       exact ⟨fun _ => ⟨s, by simp, ex.symm⟩, fun _ => rfl⟩
      ·rw [if_neg ex, h.nm x]
       constructor
       ·rintro ⟨o, ho, e⟩
        exact ⟨o, List.mem_append_left _ ho, e⟩
       ·rintro ⟨o, ho, e⟩
        rcases List.mem_append.1 ho with ho | ho
        ·exact ⟨o, ho, e⟩
        ·rw [List.mem_singleton.1 ho] at e
         exact absurd e.symm ex
theorem goes_all (n : Int) (l : List Seg) (ha : ∀ s ∈ l, 0 ≤ s.addr) : goesB n 0 (fun _ => false) l = eachB n [] l :=
 goes_each n l 0 (fun _ => false) [] ⟨(fun _ h => by cases h), .inl rfl, (fun x => ⟨(fun h => by cases h), (fun ⟨_, h, _⟩ => by cases h)⟩)⟩ ha
theorem rwithinI_any (off size all : Int) (ho : 0 ≤ off) (hs : 0 ≤ size) (ha : all < 18446744073709551616) (w : World) :
  Calls Tryz.prog 39 #[.int .u64 off, .int .u64 size, .int .u64 all] w fun e w' => e = .returned (.bool (withinI off size all)) ∧ Chg [] w w' := by
 by_cases h1 : size ≤ all
 ·have hw : IntKind.u64.wrap (all - size) = all - size := by rw [IntKind.wrap_u64]; omega
  have d1 : decide (size ≤ all) = true := decide_eq_true h1
  have hr : withinI off size all = decide (off ≤ all - size) := by
   unfold withinI
   rw [Bool.eq_iff_iff]
   simp only [Bool.and_eq_true, decide_eq_true_eq]
   omega
  rw [hr]
  clear ha ho hs hr
  have Hw := hY hw
  clear hw
  go_enter Tryz.func39, Tryz.ntmps39
  go_wp2
  go_ret
  exact ⟨congrArg (fun z => Ending.returned (.bool (decide (off ≤ z)))) Hw.out, Chg.refl _ _⟩
 ·have d1 : decide (size ≤ all) = false := decide_eq_false h1
  have hr : withinI off size all = false := by
   unfold withinI
   rw [Bool.eq_false_iff]
   simp only [ne_eq, Bool.and_eq_true, decide_eq_true_eq]
   omega
  rw [hr]
  clear ha ho hs hr
  go_enter Tryz.func39, Tryz.ntmps39
  go_wp2
  go_ret
  exact ⟨rfl, Chg.refl _ _⟩
def seeN (p : TP) (c : Int) : TP := { p with seen := fun k => if k = c then true else p.seen k }
theorem Tryz.infoDep : Lay.Info Tryz.prog 27 84 depL.n 24 := Lay.Info.mk' (z := .agg (depL.f depL.d).toArray) (by kernel_rfl) (by kernel_rfl) rfl
theorem dep_built (x : Dep) (w : World) : (Instr.buildSlice 27 1 #[(0, depL.val x)]).run Tryz.prog w = .ok (.slice (some ⟨w.heap.size, 0, none⟩) 1 1) (w.alloc (.cells (depL.f x).toArray 84)) := by
 show (Instr.buildSlice 27 1 #[(0, .agg #[.string x.name, .int .i64 x.kind])]).run Tryz.prog w = .ok (.slice (some ⟨w.heap.size, 0, none⟩) 1 1) (w.alloc (.cells #[.string x.name, .int .i64 x.kind] 84))
 go_simp
theorem grown_ne {w : World} {base : Nat} {α : Type} {L : Lay α} {E : TypeId} {v : Value} {ls : List α} (h : L.Buf E w base v ls) : ∀ i ∈ v.ownBlock.toList, base ≤ i := fun i hi => (h.lt i (by simpa using hi)).1
structure TMid (w1 : World) (base bt bs : Nat) (p : TP) (t : Tel) (w : World) : Prop where
 box : telL.Box w bt t
 seen : t.seen = some bs
 secs : t.secs = p.n
 m : t.m.bare = p.m
 mp : Map.Is (Map.intK .u32) w bs (seenF p.seen)
 o1 : bs < base
 o2 : bt < base
 o3 : bs ≠ bt
 o4 : base ≤ w.heap.size
 o5 : w1.heap.size ≤ bs
 o6 : w1.heap.size ≤ bt
 l1 : p.segs.length ≤ 16
 l2 : p.deps.length ≤ 64
 l3 : p.n ≤ 64
 chg : Chg [] w1 w
theorem TMid.seg {w1 w0 w : World} {base bt bs : Nat} {p : TP} {t : Tel} {xs ys : List Seg} (h : TMid w1 base bt bs p t w) (h0 : TInv w1 base bt bs p t xs w0) (k : Chg (Value.slice t.m.segs.a t.m.segs.n t.m.segs.cap).ownBlock.toList w0 w) {a : Option Addr} {n cap : Nat} {q : List SegP} (hv : segL.Buf 73 w base (.slice a n cap) ys) (hq : SecsIn w base ys q) (hl : q.length ≤ 16) :
  TInv w1 base bt bs { p with segs := q } { t with m := { t.m with segs := ⟨a, n, cap⟩ } } ys (w.setCell ⟨bt, 4, none⟩ (.slice a n cap)) := by
 have c : Chg [bt] w (w.setCell ⟨bt, 4, none⟩ (.slice a n cap)) := (Chg.refl _ _).setCell _ _ (.inl (by simp))
 have o1 := h.o1
 have o2 := h.o2
 have o3 := h.o3
 exact ⟨Tel.set_segs h.box ⟨a, n, cap⟩, h.seen, h.secs, h.m, hv.frame c (fun i hi hm => by have := (hv.lt i hi).1; simp at hm; omega), hq.low c (by simp; omega), (h0.dp.frame k (rows_ne h0.dp h0.sg (by decide))).frame c (fun i hi hm => by have := (h0.dp.lt i hi).1; simp at hm; omega), h.mp.frameS c (by simpa using o3), h.o1, h.o2, h.o3, Nat.le_trans h.o4 c.size, h.o5, h.o6, hl, h.l2, h.l3, h.chg.new c h.o6⟩
def depE (p : TP) (l : List UInt8) : Int := if nameE l = 0 then (if p.deps.length = 64 then 11 else 0) else nameE l
namespace Lay
variable {α : Type} {L : Lay α} {E : TypeId}
theorem run_app1 {P : Program} {T : TypeId} {bytes : Nat} (hI : Info P T E L.n bytes) (w : World) (ty : TypeId) (base : Nat) (v : Value) (ls : List α) (hown : L.Buf E w base v ls) (ad : Addr) (n c : Nat) (ms : List α) (hrd : L.Rd w (.slice (some ad) n c) ms)
  (hle : (ls.length + ms.length) * bytes ≤ 140737488355328) (hle2 : ls.length + ms.length ≤ 9223372036854775807) (hbase : base ≤ w.heap.size) :
  ∃ v' w', (Builtin.append_ #[T, T] ty #[v, .slice (some ad) n c]).run P w = .ok v' w' ∧ L.Buf E w' base v' (ls ++ ms) ∧ w.grownBy w' v.ownBlock ∧ (v'.ownBlock = v.ownBlock ∨ v'.ownBlock = some w.heap.size) := by
 obtain ⟨i0, z, hi, hz0, hz1, hz2, hz3⟩ := hI.i
 obtain ⟨hl, hc⟩ := Rd.cells hrd
 subst hl
 obtain ⟨v', w', hr, h2, h3, h4, h5⟩ := run_append_own_at (P := P) w base T ty E i0 z L.n bytes hI.u hi hz0 hz1 hz2 hz3 L.pos v ls.length (L.vals ls) hown ad ms.length c (L.vals ms) (vals_len ms) hc (vals_one _) (by unfold maxLen; exact hle2) hle hbase
 refine ⟨v', w', hr, ?_, h3, h5⟩
 unfold Buf
 rw [vals_append, List.length_append]
 exact h2
theorem armApp {P : Program} {T : TypeId} {bytes : Nat} (hI : Info P T E L.n bytes) {o : Oper} {a : Act} {w : World} {K : Act → World → Prop} {Q : Exit → Act → World → Prop} {tm : Nat → Option Bool} (hgd : o.guard = none) (s x : Operand) (ho : o.op = .call { callee := .builtin .append, args := #[s, x], argTypes := #[T, T] })
  (base : Nat) (v : Value) (ls : List α) (hs : a.eval s = v) (hown : L.Buf E w base v ls) (ad : Addr) (n c : Nat) (hx : a.eval x = .slice (some ad) n c) (ms : List α) (hrd : L.Rd w (.slice (some ad) n c) ms)
  (hle : (ls.length + ms.length) * bytes ≤ 140737488355328) (hle2 : ls.length + ms.length ≤ 9223372036854775807) (hbase : base ≤ w.heap.size)
  (h : ∀ v' w', L.Buf E w' base v' (ls ++ ms) → w.grownBy w' v.ownBlock → (v'.ownBlock = v.ownBlock ∨ v'.ownBlock = some w.heap.size) → K (a.put o.dst v') w') : if Region.wanted o tm = true then Oper.wp P o a w K Q else K (a.put o.dst undef) w := by
 rw [if_pos (by simp [Region.wanted, hgd])]
 obtain ⟨v', w', hr, h1, h2, h3⟩ := run_app1 hI w o.type base v ls hown ad n c ms hrd hle hle2 hbase
 unfold Oper.wp execOp
 simp only [ho, resolve, invoke, builtin, Sem.run_bind, Sem.run_pure, Result.andThen_ok, List.map_toArray, List.map_cons, List.map_nil, hs, hx, hr]
 exact h _ _ h1 h2 h3
theorem armBs1 {P : Program} {T : TypeId} {o : Oper} {a : Act} {w : World} {K : Act → World → Prop} {Q : Exit → Act → World → Prop} {tm : Nat → Option Bool} (hgd : o.guard = none) (s : Operand) (ho : o.op = .buildSlice T 1 #[(0, s)]) (x : α)
  (hr : ∀ w, (Instr.buildSlice T 1 #[(0, L.val x)]).run P w = .ok (.slice (some ⟨w.heap.size, 0, none⟩) 1 1) (w.alloc (.cells (L.f x).toArray E))) (hs : a.eval s = L.val x)
  (h : ∀ W g, Chg [] w W → L.Rd W (.slice (some ⟨g, 0, none⟩) 1 1) [x] → K (a.put o.dst (.slice (some ⟨g, 0, none⟩) 1 1)) W) : if Region.wanted o tm = true then Oper.wp P o a w K Q else K (a.put o.dst undef) w := by
 rw [if_pos (by simp [Region.wanted, hgd])]
 have hrw := hr w
 unfold Oper.wp execOp
 simp only [ho, List.map_toArray, List.map_cons, List.map_nil, hs, Sem.run_bind, hrw, Result.andThen_ok, Sem.run_pure]
 exact h _ _ ((Chg.refl _ _).alloc _) (Lay.Rd.of_heap (heap_alloc_eq _ _) (Lay.vals_single x).symm rfl (show 1 ≤ maxLen by decide))
end Lay
namespace Lay
variable {α : Type} {L : Lay α}
end Lay
theorem with_exitT {Q : World → Prop} {W : World} (R : World → Prop) (hR : R W) (k : ∀ W', R W' → Q W') : Q W := k W hR
theorem segE_ok {l : List UInt8} (h : segE l = 0) : n4 l 64 ≤ 64 := by
 unfold segE at h
 by_cases h0 : opE l = 0
 ·rw [if_neg (by simp [h0])] at h
  split at h
  ·exact absurd h (by decide)
  ·split at h
   ·exact absurd h (by decide)
   ·split at h
    ·exact absurd h (by decide)
    ·split at h
     ·exact absurd h (by decide)
     ·omega
 ·rw [if_pos h0] at h
  exact absurd h (by decide)
def segP (l : List UInt8) : SegP := ⟨segX l ⟨none, 0, 0⟩, secsN l (n4 l 64)⟩
def sgtE (p : TP) (l : List UInt8) : Int := if segE l = 0 then (if p.segs.length = 16 ∨ 64 < p.n + n4 l 64 then 11 else 0) else segE l
theorem Tryz.infoSeg : Lay.Info Tryz.prog 26 73 segL.n 80 := Lay.Info.mk' (z := .agg (segL.f segL.d).toArray) (by kernel_rfl) (by kernel_rfl) rfl
theorem seg_built (x : Seg) (w : World) : (Instr.buildSlice 26 1 #[(0, segL.val x)]).run Tryz.prog w = .ok (.slice (some ⟨w.heap.size, 0, none⟩) 1 1) (w.alloc (.cells (segL.f x).toArray 73)) := by
 show (Instr.buildSlice 26 1 #[(0, .agg #[.string x.name, .int .u64 x.addr, .int .u64 x.size, .int .u64 x.off, .int .u64 x.fsize, .int .i64 x.prot, .slice x.secs.a x.secs.n x.secs.cap])]).run Tryz.prog w = .ok (.slice (some ⟨w.heap.size, 0, none⟩) 1 1) (w.alloc (.cells #[.string x.name, .int .u64 x.addr, .int .u64 x.size, .int .u64 x.off, .int .u64 x.fsize, .int .i64 x.prot, .slice x.secs.a x.secs.n x.secs.cap] 73))
 go_simp
def SegOk (l : List UInt8) (w : World) (e : Ending) (w' : World) : Prop := ∃ s : Seg, e = .returned (.tuple #[segL.val s, .int .i64 0]) ∧ Chg [] w w' ∧ s = segX l s.secs ∧ secL.Buf 157 w' w.heap.size (.slice s.secs.a s.secs.n s.secs.cap) (secsN l (n4 l 64))
section
variable {α : Type} {L : Lay α} {P : Program} {T : TypeId} {ops : Array Oper} {rest : List Oper} {a : Act} {Q : Exit → Act → World → Prop} {w : World}
theorem stAt (hT : Lay.Ty L P T) {p s : Operand} {ty : TypeId} {pos : String} {after : Array Edge} {b off : Nat} {y : α} (x : α) (hb : L.In w b off y) (hf : ∀ j, w.frozen? ⟨b, j, none⟩ = false) (hp : a.eval p = .pointer (some ⟨b, off, none⟩)) (hs : a.eval s = .agg (L.f x).toArray)
  (h : ∀ W, W = Lay.setW w b off (L.f x) → wpList P ops Q rest a W) : wpList P ops Q (⟨none, .store T p s, ty, pos, after, none⟩ :: rest) a w := by
 refine wpList_plain rfl fun K hK => ?_
 unfold Oper.wp execOp
 have := h _ rfl
 have hr := Lay.run_storeCells (P := P) (g := b) (L.f x) w off 0 (L.one x) (fun c hc => by
  rw [Nat.add_zero]
  have := hb c (by rw [← L.len x]; exact hc)
  rw [this]
  exact ⟨_, List.getElem?_eq_getElem (by rw [L.len]; rw [L.len] at hc; exact hc)⟩) hf
 simp [Instr.storeAt, Instr.sureAddr, hp, hs, storeVar, Lay.run_size hT, Value.cells, L.len, hr]
 exact hK _ _ this
end
def trE (p : TP) (x : Spn) : Int := if x.size = 0 then 0 else if 0 < p.m.trS then 21 else 0
def trQ (p : TP) (x : Spn) : TP := if x.size = 0 then p else { p with m := { p.m with trO := x.off, trS := x.size } }
def SpQ (w : World) (ls : List Spn) (e : Ending) (w' : World) : Prop := ∃ g cap, e = .returned (.tuple #[.slice (some ⟨g, 0, none⟩) ls.length cap, .int .i64 0]) ∧ Chg [] w w' ∧ w.heap.size ≤ g ∧ ∀ j, j < ls.length → spnL.In w' g (j * 2) (ls.getD j .zero)
theorem sp_q {w w' : World} {ls : List Spn} {e : Ending} (hne : ls.length ≠ 0) (h : SpP w ls e w') : SpQ w ls e w' := by
 obtain ⟨⟨a, n, cap⟩, rfl, hb, hc⟩ := h
 obtain ⟨g, cap', hsl, hge, _, _, _, _, _, hIn⟩ := hb.at hne
 have hsl' : Value.slice a n cap = .slice (some ⟨g, 0, none⟩) ls.length cap' := hsl
 exact ⟨g, cap', by rw [← hsl'], hc, hge, hIn⟩
theorem Spn.both {w : World} {g o : Nat} {x : Spn} (h : spnL.In w g o x) : w.cell? ⟨g, o, none⟩ = some (.int .u64 x.off) ∧ w.cell? ⟨g, o + 1, none⟩ = some (.int .u64 x.size) := Spn.at h
def fourQ (p : TP) (a b c d : Spn) : TP := { p with m := { p.m with rbO := a.off, rbS := a.size, bdO := b.off, bdS := b.size, wkO := c.off, wkS := c.size, lzO := d.off, lzS := d.size } }
structure Cmr where
 cmd : Int
 bytes : SlV
def Cmr.cells (s : Cmr) : List Value := [.int .u32 s.cmd, .slice s.bytes.a s.bytes.n s.bytes.cap]
abbrev Cmr.v (s : Cmr) : Value := .agg #[.int .u32 s.cmd, .slice s.bytes.a s.bytes.n s.bytes.cap]
def Cmr.wf (s : Cmr) : Prop := (Lit.int .u32 s.cmd).wf = true
def Cmr.zero : Cmr := ⟨0, ⟨none, 0, 0⟩⟩
def cmrL : Lay Cmr := ⟨2, Cmr.cells, Cmr.zero, fun _ => rfl, by decide, fun x u hu => by
 simp only [Cmr.cells, List.mem_cons, List.not_mem_nil, or_false] at hu
 rcases hu with rfl | rfl <;> rfl⟩
theorem Cmr.at {w : World} {b o : Nat} {s : Cmr} (h : cmrL.In w b o s) : w.cell? ⟨b, o, none⟩ = some (.int .u32 s.cmd) ∧ w.cell? ⟨b, o + 1, none⟩ = some (.slice s.bytes.a s.bytes.n s.bytes.cap) :=
 ⟨h 0 (by decide), h 1 (by decide)⟩
theorem Cmr.box (w : World) (s : Cmr) (T : TypeId) : cmrL.Box (w.alloc (.cells #[.int .u32 s.cmd, .slice s.bytes.a s.bytes.n s.bytes.cap] T)) w.heap.size s := Lay.Box.of_alloc (L := cmrL) w s T
def depK (c : Int) : Int := if c = 12 then 1 else if c = 2147483672 then 2 else if c = 2147483679 then 3 else if c = 2147483683 then 4 else 0
def keyC (c : Int) : Int := if c = 2147483682 then 34 else c
def tE (p : TP) (l : List UInt8) : Int :=
 if ¬ opE l = 0 then 3
 else if leastF (n4 l 0) = 0 then (if 2147483648 ≤ n4 l 0 then 7 else 0)
 else if n4 l 0 = 25 then sgtE p l
 else if ¬ depK (n4 l 0) = 0 then depE p l
 else if n4 l 0 = 13 then (if nameE l = 0 then (if p.seen 13 = true then 21 else 0) else nameE l)
 else if n4 l 0 = 2147483699 then trE p (spAt l 0)
 else if p.seen (keyC (n4 l 0)) = true then 21
 else if n4 l 0 = 34 ∨ n4 l 0 = 2147483682 then trE p (spAt l 4)
 else 0
def tS (p : TP) (l : List UInt8) : TP :=
 if leastF (n4 l 0) = 0 then p
 else if n4 l 0 = 25 then { p with segs := p.segs ++ [segP l], n := p.n + n4 l 64 }
 else if ¬ depK (n4 l 0) = 0 then { p with deps := p.deps ++ [⟨nameV l, depK (n4 l 0)⟩] }
 else if n4 l 0 = 13 then { seeN p 13 with m := { p.m with name := nameV l } }
 else if n4 l 0 = 2147483699 then trQ p (spAt l 0)
 else if n4 l 0 = 2147483688 then { seeN p 2147483688 with m := { p.m with entry := n8 l 8, has := true } }
 else if n4 l 0 = 2 then { seeN p 2 with m := { p.m with syO := n4 l 8, syS := (n4 l 12 : Int) * 16, stO := n4 l 16, stS := n4 l 20 } }
 else if n4 l 0 = 2147483700 then { seeN p 2147483700 with m := { p.m with chO := n4 l 8, chS := n4 l 12 } }
 else trQ (fourQ (seeN p 34) (spAt l 0) (spAt l 1) (spAt l 2) (spAt l 3)) (spAt l 4)
theorem known_cases {c : Int} (h : ¬ leastF c = 0) : c = 25 ∨ c = 12 ∨ c = 2147483672 ∨ c = 2147483679 ∨ c = 2147483683 ∨ c = 13 ∨ c = 2147483699 ∨ c = 2147483688 ∨ c = 2 ∨ c = 2147483700 ∨ c = 34 ∨ c = 2147483682 := by
 unfold leastF at h
 by_cases h1 : c = 25
 ·exact .inl h1
 rw [if_neg h1] at h
 by_cases h2 : c = 34 ∨ c = 2147483682
 ·omega
 rw [if_neg h2] at h
 by_cases h3 : c = 2 ∨ c = 12 ∨ c = 13 ∨ c = 2147483672 ∨ c = 2147483679 ∨ c = 2147483683 ∨ c = 2147483688
 ·omega
 rw [if_neg h3] at h
 by_cases h4 : c = 2147483699 ∨ c = 2147483700
 ·omega
 rw [if_neg h4] at h
 exact absurd rfl h
section
variable {P : Program}
end
structure Grew (w : World) (base : Nat) (v : Value) (l : List UInt8) (w' : World) (v' : Value) (new : List UInt8) : Prop where
 buf : Buf w' base v' (l ++ new)
 chg : Chg v.ownBlock.toList w w'
 own : v'.ownBlock = v.ownBlock ∨ ∃ k, v'.ownBlock = some k ∧ w.heap.size ≤ k
theorem Grew.trans {w w1 w2 : World} {base : Nat} {v v1 v2 : Value} {l n1 n2 : List UInt8} (h : Grew w base v l w1 v1 n1) (k : Grew w1 base v1 (l ++ n1) w2 v2 n2) : Grew w base v l w2 v2 (n1 ++ n2) := by
 refine ⟨by rw [← List.append_assoc]; exact k.buf, h.chg.trans k.chg (fun i hm hi => ?_), ?_⟩
 ·rcases h.own with e | ⟨j, e, hj⟩
  ·rw [e] at hm; exact hm
  ·rw [e] at hm; simp at hm; omega
 ·rcases k.own with e | ⟨j, e, hj⟩
  ·rcases h.own with e' | ⟨j, e', hj⟩
   ·exact .inl (e.trans e')
   ·exact .inr ⟨j, e.trans e', hj⟩
  ·exact .inr ⟨j, e, Nat.le_trans h.chg.size hj⟩
theorem Buf.form {w : World} {base : Nat} {v : Value} {l : List UInt8} (h : Buf w base v l) : ∃ a cap, v = .slice a l.length cap := by
 obtain ⟨a, n, cap, rfl, hn, _⟩ := h.rd
 rw [bytesV_length] at hn
 subst hn
 exact ⟨a, cap, rfl⟩
theorem Buf.mono {w : World} {base base' : Nat} {v : Value} {l : List UInt8} (h : Buf w base v l) (hb : base' ≤ base) : Buf w base' v l := owned_base h hb
def kindB (sub kind : Int) : Bool := (sub = 0 ∨ sub = 2) ∧ (kind = 2 ∨ kind = 6)
theorem leNum4_lt (l : List UInt8) (p : Nat) : leNum ((l.drop p).take 4) < 4294967296 := by
 have h := leNum_lt ((l.drop p).take 4)
 have h2 : ((l.drop p).take 4).length ≤ 4 := List.length_take_le _ _
 exact Nat.lt_of_lt_of_le h (Nat.pow_le_pow_right (by decide) h2)
abbrev Cmd := Nat × List UInt8
def CmdRd (w : World) (v : Value) (cs : List Cmd) : Prop :=
 ∃ a n cap, v = .slice a n cap ∧ n = cs.length ∧ n ≤ cap ∧ cap ≤ maxLen ∧
  (cs ≠ [] → ∃ b off, a = some ⟨b, off, none⟩ ∧ b < w.heap.size ∧ ∀ j, j < cs.length → w.cell? ⟨b, off + j * 2, none⟩ = some (.int .u32 (cs.getD j (0, [])).1) ∧
   ∃ a' cap', w.cell? ⟨b, off + j * 2 + 1, none⟩ = some (.slice a' (cs.getD j (0, [])).2.length cap') ∧ Rd w (.slice a' (cs.getD j (0, [])).2.length cap') (bytesV (cs.getD j (0, [])).2))
theorem CmdRd.frame {w w' : World} {v : Value} {cs : List Cmd} (h : CmdRd w v cs) (k : Chg [] w w') : CmdRd w' v cs := by
 obtain ⟨a, n, cap, rfl, hn, hc, hm, hx⟩ := h
 refine ⟨a, n, cap, rfl, hn, hc, hm, fun hne => ?_⟩
 obtain ⟨b, off, rfl, hb, hcell⟩ := hx hne
 refine ⟨b, off, rfl, Nat.lt_of_lt_of_le hb k.size, fun j hj => ?_⟩
 obtain ⟨h1, a', cap', h2, h3⟩ := hcell j hj
 exact ⟨k.cell h1 (by simp), a', cap', k.cell h2 (by simp), h3.frame k (fun _ _ hm => by cases hm)⟩
end Go.Proofs.YtiljokmkiolpgaaGreatDoor
namespace Go.Proofs.YtiljokmkiolpgaaGreatDoor
open Go.RowKit Go.Extern.Stop Go.Stop Go.Extern
end Go.Proofs.YtiljokmkiolpgaaGreatDoor
namespace Go.Proofs.YtiljokmkiolpgaaGreatDoor
open Go.RowKit
set_option maxRecDepth 100000
def nL (l : List UInt8) (p : Nat) : Nat := leNum ((l.drop p).take 4)
theorem nL_lt (l : List UInt8) (p : Nat) : nL l p < 4294967296 := leNum4_lt l p
def hdSub (l : List UInt8) : Nat := nL l 8 % 16777216
def headE (l : List UInt8) : Int :=
 if l.length < 32 then 3 else if nL l 0 ≠ 4277009103 then 5 else if nL l 4 ≠ 16777228 then 6
 else if kindB (hdSub l) (nL l 12) = false then (if hdSub l = 0 ∨ hdSub l = 2 then 7 else 6)
 else if 256 < nL l 16 then 11 else if l.length - 32 < nL l 20 then 3 else 0
section
variable {w0 w w' : World} {c r p s k f m z : Nat} {l : List UInt8}
end
end Go.Proofs.YtiljokmkiolpgaaGreatDoor
namespace Go.Proofs.YtiljokmkiolpgaaGreatDoor
open Go.RowKit Go.Extern.Stop Go.Stop Go.Extern
set_option maxRecDepth 100000
def stC (l : List UInt8) (z0 : Nat) : Nat → Nat × Nat
 | 0 => (32, z0)
 | k + 1 => ((stC l z0 k).1 + nL l ((stC l z0 k).1 + 4), (stC l z0 k).2 - nL l ((stC l z0 k).1 + 4))
def szC (l : List UInt8) (z0 k : Nat) : Nat := nL l ((stC l z0 k).1 + 4)
def okC (l : List UInt8) (z0 k : Nat) : Bool := decide (8 ≤ (stC l z0 k).2) && decide (8 ≤ szC l z0 k) && decide (szC l z0 k % 8 = 0) && decide (szC l z0 k ≤ (stC l z0 k).2)
def allC (l : List UInt8) (z0 k : Nat) : Bool := (List.range k).all (okC l z0)
def cmdC (l : List UInt8) (z0 k : Nat) : Cmd := (nL l (stC l z0 k).1, (l.drop (stC l z0 k).1).take (szC l z0 k))
def cmdsC (l : List UInt8) (z0 k : Nat) : List Cmd := (List.range k).map (cmdC l z0)
theorem allC_succ (l : List UInt8) (z0 k : Nat) : allC l z0 (k + 1) = (allC l z0 k && okC l z0 k) := by simp [allC, List.range_succ]
theorem cmdsC_succ (l : List UInt8) (z0 k : Nat) : cmdsC l z0 (k + 1) = cmdsC l z0 k ++ [cmdC l z0 k] := by simp [cmdsC, List.range_succ]
theorem cmdsC_len (l : List UInt8) (z0 k : Nat) : (cmdsC l z0 k).length = k := by simp [cmdsC]
theorem okC_eq (l : List UInt8) (z0 k : Nat) : okC l z0 k = true ↔ 8 ≤ (stC l z0 k).2 ∧ 8 ≤ szC l z0 k ∧ szC l z0 k % 8 = 0 ∧ szC l z0 k ≤ (stC l z0 k).2 := by simp [okC, and_assoc]
theorem allC_mono {l : List UInt8} {z0 k n : Nat} (h : allC l z0 n = true) (hk : k ≤ n) : allC l z0 k = true := by
 unfold allC at *
 rw [List.all_eq_true] at *
 intro x hx
 exact h x (List.mem_range.2 (Nat.lt_of_lt_of_le (List.mem_range.1 hx) hk))
theorem stC_sum (l : List UInt8) (z0 : Nat) : ∀ k, allC l z0 k = true → (stC l z0 k).1 + (stC l z0 k).2 = 32 + z0
 | 0, _ => rfl
 | k + 1, h => by
  rw [allC_succ, Bool.and_eq_true] at h
  have ih := stC_sum l z0 k h.1
  have := ((okC_eq l z0 k).1 h.2).2.2.2
  unfold szC at this
  show (stC l z0 k).1 + nL l ((stC l z0 k).1 + 4) + ((stC l z0 k).2 - nL l ((stC l z0 k).1 + 4)) = 32 + z0
  omega
structure ItS (w : World) (c bm bl bc : Nat) (l : List UInt8) (many p z : Nat) : Prop where
 cur : CurB w c ⟨l, p, false, false⟩
 m : w.heap[bm]? = some (.cells #[.int .i64 (many : Int)] 3 (0, 0))
 l : w.heap[bl]? = some (.cells #[.int .i64 (z : Int)] 3 (0, 0))
 c : w.heap[bc]? = some (.cells #[.pointer (some ⟨c, 0, none⟩)] 109 (0, 0))
theorem ItS.step {w w' : World} {c bm bl bc many p z p' : Nat} {l : List UInt8} (h : ItS w c bm bl bc l many p z) (hd : c < bm ∧ c < bl ∧ c < bc) (k : Chg [c] w w') (hc : CurB w' c ⟨l, p', false, false⟩) : ItS w' c bm bl bc l many p' z :=
 ⟨hc, k.heap h.m (by simp; omega), k.heap h.l (by simp; omega), k.heap h.c (by simp; omega)⟩
end Go.Proofs.YtiljokmkiolpgaaGreatDoor
namespace Go.Proofs.YtiljokmkiolpgaaGreatDoor
open Go.RowKit Go.Shelf
attribute [local go_sem] Oper.semAt_some
set_option maxRecDepth 100000
def cmdV (ps : List (Cmd × Value)) : List Value := ps.flatMap fun p => [.int .u32 (p.1.1 : Nat), p.2]
theorem cmdV_snoc (ps : List (Cmd × Value)) (p : Cmd × Value) : cmdV (ps ++ [p]) = cmdV ps ++ [.int .u32 (p.1.1 : Nat), p.2] := by simp [cmdV]
structure OutC (W : World) (base : Nat) (v : Value) (ps : List (Cmd × Value)) : Prop where
 own : W.ownsRow base 104 2 v ps.length (cmdV ps)
 each : ∀ p ∈ ps, Buf W base p.2 p.1.2
 sep : ps.Pairwise fun a b => a.2.ownBlock ≠ b.2.ownBlock
theorem OutC.frame {W W' : World} {base : Nat} {v : Value} {ps : List (Cmd × Value)} (h : OutC W base v ps) {S : List Nat} (k : Chg S W W') (hS : ∀ i ∈ S, i < base) : OutC W' base v ps := by
 have hb : ∀ {u : Value}, (∀ j, u.ownBlock = some j → base ≤ j) → ∀ b, u.ownBlock = some b → b ∉ S := fun hu b hb hm => by have := hu b hb; have := hS b hm; omega
 refine ⟨owned_frame h.own k (hb fun j hj => (World.ownsRow.lt h.own j hj).1), fun p hp => (h.each p hp).frame k (hb fun j hj => (World.ownsRow.lt (h.each p hp) j hj).1), h.sep⟩
theorem OutC.nil (W : World) (base : Nat) : OutC W base (.slice none 0 0) [] := ⟨World.ownsRow_nil W base _ 2, fun _ h => (by cases h), List.Pairwise.nil⟩
theorem Tryz.infoCmd : (Tryz.prog.info? 104).map (fun i => (i.zero, i.size, i.bytes)) = some (some (.agg #[.int .u32 0, .slice none 0 0]), 2, 32) := by kernel_rfl
theorem Tryz.uCmdsF : Tryz.prog.underlying 64 = some (.slice 104) := by kernel_rfl
theorem own_form {w : World} {base size n : Nat} {e : TypeId} {v : Value} {xs : List Value} (h : w.ownsRow base e size v n xs) : ∃ a m c, v = .slice a m c := by
 rcases h.2 with ⟨h, _⟩ | ⟨g, cap, cur, h, _⟩
 ·exact ⟨_, _, _, h⟩
 ·exact ⟨_, _, _, h⟩
end Go.Proofs.YtiljokmkiolpgaaGreatDoor
namespace Go.Proofs.YtiljokmkiolpgaaGreatDoor
open Go.RowKit Go.Extern.Stop Go.Stop Go.Extern
set_option maxRecDepth 100000
def readE (l : List UInt8) : Int := if headE l = 0 then (if allC l (nL l 20) (nL l 16) = true then 0 else 7) else headE l
def rN (l : List UInt8) (n : Nat) : Nat := if readE l = 0 then n else 0
def readCs (l : List UInt8) : List Cmd := if readE l = 0 then cmdsC l (nL l 20) (nL l 16) else []
end Go.Proofs.YtiljokmkiolpgaaGreatDoor
namespace Go.Proofs.YtiljokmkiolpgaaGreatDoor
open Go.RowKit
set_option maxRecDepth 100000
structure Hdr where
 sub : Int
 kind : Int
 flags : Int
def Hdr.cells (s : Hdr) : List Value := [.int .i64 s.sub, .int .i64 s.kind, .int .u32 s.flags]
abbrev Hdr.v (s : Hdr) : Value := .agg #[.int .i64 s.sub, .int .i64 s.kind, .int .u32 s.flags]
def Hdr.wf (s : Hdr) : Prop := (Lit.int .i64 s.sub).wf = true ∧ (Lit.int .i64 s.kind).wf = true ∧ (Lit.int .u32 s.flags).wf = true
def Hdr.zero : Hdr := ⟨0, 0, 0⟩
def hdrL : Lay Hdr := ⟨3, Hdr.cells, Hdr.zero, fun _ => rfl, by decide, fun x u hu => by
 simp only [Hdr.cells, List.mem_cons, List.not_mem_nil, or_false] at hu
 rcases hu with rfl | rfl | rfl <;> rfl⟩
theorem Hdr.at {w : World} {b o : Nat} {s : Hdr} (h : hdrL.In w b o s) : w.cell? ⟨b, o, none⟩ = some (.int .i64 s.sub) ∧ w.cell? ⟨b, o + 1, none⟩ = some (.int .i64 s.kind) ∧ w.cell? ⟨b, o + 2, none⟩ = some (.int .u32 s.flags) :=
 ⟨h 0 (by decide), h 1 (by decide), h 2 (by decide)⟩
theorem Hdr.box (w : World) (s : Hdr) (T : TypeId) : hdrL.Box (w.alloc (.cells #[.int .i64 s.sub, .int .i64 s.kind, .int .u32 s.flags] T)) w.heap.size s := Lay.Box.of_alloc (L := hdrL) w s T
theorem Hdr.c_sub {w : World} {b : Nat} {s : Hdr} (h : hdrL.Box w b s) : w.cell? ⟨b, 0, none⟩ = some (.int .i64 s.sub) := by have := h.in 0 (by decide); rw [Nat.zero_add] at this; exact this
theorem Hdr.c_kind {w : World} {b : Nat} {s : Hdr} (h : hdrL.Box w b s) : w.cell? ⟨b, 1, none⟩ = some (.int .i64 s.kind) := by have := h.in 1 (by decide); rw [Nat.zero_add] at this; exact this
theorem Hdr.c_flags {w : World} {b : Nat} {s : Hdr} (h : hdrL.Box w b s) : w.cell? ⟨b, 2, none⟩ = some (.int .u32 s.flags) := by have := h.in 2 (by decide); rw [Nat.zero_add] at this; exact this
theorem Tryz.tIm : Lay.Ty imgL Tryz.prog 32 := Lay.Ty.mk' (by kernel_rfl) (by kernel_rfl)
theorem Tryz.tHdr : Lay.Ty hdrL Tryz.prog 63 := Lay.Ty.mk' (by kernel_rfl) (by kernel_rfl)
def tellE (p : TP) : List (List UInt8) → Int
 | [] => 0
 | l :: r => if tE p l = 0 then tellE (tS p l) r else tE p l
def tellS (p : TP) : List (List UInt8) → TP
 | [] => p
 | l :: r => tellS (tS p l) r
def slOf : Value → SlV
 | .slice a n c => ⟨a, n, c⟩
 | _ => ⟨none, 0, 0⟩
def DImg (w : World) (base : Nat) (m : Img) (p : TP) : Prop := ∃ xs, m.bare = p.m ∧ segL.Buf 73 w base (.slice m.segs.a m.segs.n m.segs.cap) xs ∧ SecsIn w base xs p.segs ∧ depL.Buf 84 w base (.slice m.deps.a m.deps.n m.deps.cap) p.deps
theorem DImg.frame {w w' : World} {base : Nat} {m : Img} {p : TP} (h : DImg w base m p) (k : Chg [] w w') : DImg w' base m p := by
 obtain ⟨xs, h1, h2, h3, h4⟩ := h
 exact ⟨xs, h1, h2.pure k, h3.pure k, h4.pure k⟩
theorem DImg.mono {w : World} {base base' : Nat} {m : Img} {p : TP} (h : DImg w base m p) (hb : base' ≤ base) : DImg w base' m p := by
 obtain ⟨xs, h1, h2, h3, h4⟩ := h
 exact ⟨xs, h1, h2.mono hb, ⟨h3.1, fun i hi => ⟨(h3.2 i hi).1, (h3.2 i hi).2.mono hb⟩⟩, h4.mono hb⟩
def tp0 (l : List UInt8) : TP := ⟨{ Img.zero with kind := (nL l 12 : Nat), sub := (hdSub l : Nat), flags := (nL l 24 : Nat) }, [], [], fun _ => false, 0⟩
def cmdLs (l : List UInt8) : List (List UInt8) := (readCs l).map Prod.snd
def imgE (l : List UInt8) : Int := if readE l = 0 then tellE (tp0 l) (cmdLs l) else readE l
def imgP (l : List UInt8) : TP := tellS (tp0 l) (cmdLs l)
def ImgSays (l : List UInt8) (w : World) (e : Ending) (w' : World) : Prop := ∃ m : Img, e = .returned (.tuple #[imgL.val m, .int .i64 (imgE l)]) ∧ Chg [] w w' ∧ (imgE l = 0 → DImg w' w.heap.size m (imgP l)) ∧ (¬ imgE l = 0 → m = .zero)
structure ImR (w1 : World) (base bt bs : Nat) (ls : List (List UInt8)) (p0 : TP) (k : Nat) (pk : TP) (wr : World) : Prop where
 e : tellE pk (ls.drop k) = tellE p0 ls
 s : tellS pk (ls.drop k) = tellS p0 ls
 i : ∃ t xs, TInv w1 base bt bs pk t xs wr
theorem DImg.low {w w' : World} {base : Nat} {m : Img} {p : TP} {S : List Nat} (h : DImg w base m p) (k : Chg S w w') (hS : ∀ i ∈ S, i < base) : DImg w' base m p := by
 obtain ⟨xs, h1, h2, h3, h4⟩ := h
 exact ⟨xs, h1, h2.frame k (fun b hb hm => by have := (h2.lt b hb).1; have := hS b hm; omega), h3.low k hS, h4.frame k (fun b hb hm => by have := (h4.lt b hb).1; have := hS b hm; omega)⟩
theorem drop_getD {α : Type} (l : List α) (k : Nat) (d : α) (h : k < l.length) : l.drop k = l.getD k d :: l.drop (k + 1) := by
 rw [List.drop_eq_getElem_cons h]
 simp [List.getD_eq_getElem?_getD, h]
def firstB (h : Int) (s : Seg) : Bool := decide (s.off = 0) && (!decide (s.fsize < h) && (!(bits BinOp.and IntKind.i64 s.prot 1 == 0) && !(bits BinOp.and IntKind.i64 s.prot 2 != 0)))
def segsB (n h : Int) (ls : List Seg) : Bool := match idx (fun s => !holeS s) ls with
 | none => false
 | some f => goesB n 0 (fun _ => false) ls && firstB h (ls.getD f .zero)
def segsE (n h : Int) (ls : List Seg) : Int := if segsB n h ls = true then 0 else 8
def nmF (N : ByteArray → Bool) : ByteArray → Option Value := fun q => if N q then some (.agg #[.bool true]) else none
structure MsR (Wm : World) (n : Int) (ls : List Seg) (bq : Nat) (k : Nat) (at_ : Int) (N : ByteArray → Bool) (wr : World) : Prop where
 chg : Chg [] Wm wr
 mp : Map.Is Map.strK wr bq (nmF N)
 go : goesB n at_ N (ls.drop k) = goesB n 0 (fun _ => false) ls
theorem goes_cons (n at_ : Int) (N : ByteArray → Bool) (s : Seg) (r : List Seg) : goesB n at_ N (s :: r) = (placeB n s && (!N s.name && (decide (at_ ≤ s.addr) && goesB n (s.addr + s.size) (fun x => if x = s.name then true else N x) r))) := rfl
theorem placeB_end {n : Int} {s : Seg} (h : placeB n s = true) : s.addr + s.size ≤ 140737488355328 := by
 unfold placeB withinI at h
 simp only [Bool.and_eq_true, decide_eq_true_eq] at h
 omega
end Go.Proofs.YtiljokmkiolpgaaGreatDoor
