/- Lemmas, laid together: part 10 of 42. Conditions: none but each lemma's own. -/
import Derived.Test.YtiljokmkiolpgaaGreatDoorJ9
import Derived.Shelf.Strings.Builder1
import Derived.Shelf.Strings.Builder2
import Derived.Shelf.Strings.OnBuilder
import Derived.Shelf.Strconv.Itoa1
import Derived.Shelf.LaysM
import Derived.Shelf.Strconv.Itoa2
import Derived.Shelf.Strconv.Itoa3
import Derived.Shelf.Strconv.Itoa4
import Derived.Shelf.Strings.Search1
import Derived.Shelf.Strings.Search2
import Derived.Shelf.Strings.Search3
import Derived.Test.YtiljokmkiolpgaaGreatDoorProg
import Derived.WalkKit
import Derived.Test.YtiljokmkiolpgaaGreatDoorJ1
import Derived.Test.YtiljokmkiolpgaaGreatDoorJ4
import Derived.LaidEql
import Derived.Stop.Asserts
import Derived.RowKitTokens
import Derived.Maps.AppendAt
import Derived.Handy
import Derived.Laws.BitsLemmas
import Derived.StillTailTactics
import Derived.Laws.Externs
import Derived.Lib.ConvBytes
import Derived.Deep.CutRange
import Derived.Sort.Grow
import Derived.Test.YtiljokmkiolpgaaGreatDoorJ2
import Derived.Test.YtiljokmkiolpgaaGreatDoorJ3
import Derived.Test.YtiljokmkiolpgaaGreatDoorJ7
import Derived.Lib.Strings
import Derived.Laws.CopyRow
namespace Go.Proofs.YtiljokmkiolpgaaGreatDoor
open Go.RowKit
set_option maxRecDepth 100000
set_option maxHeartbeats 2000000 in
theorem rlink_any (n : Nat) (hn : n < 18446744073709551616) (fm : Int) (m : Img) (ls : List Seg) (low : Nat) (hlow : lowS ls = low) (l : List Imp) (v : Value) (w : World) (rd : segL.Rd w m.segs.v ls) (rdI : impL.Rd w v l) :
  Calls Tryz.prog 23 #[.int .u64 n, .int .i64 fm, imgL.val m, v] w fun e w' => e = .returned (.tuple #[fyL.val (linkF low fm n l), .int .i64 (linkN low fm n l), .int .i64 (linkE low fm n l)]) ∧ Chg [] w w' := by
 by_cases h2 : fm = 2
 ·exact rlink_2 n hn m ls low hlow l v w rd rdI fm h2
 by_cases h6 : fm = 6
 ·exact rlink_6 n hn m ls low hlow l v w rd rdI fm h6
 by_cases h1 : fm = 1
 ·exact rlink_1 n hn m ls low hlow l v w rd rdI fm h1
 by_cases h12 : fm = 12
 ·exact rlink_12 n hn m ls low hlow l v w rd rdI fm h12
 have hS : linkS low fm n = none := by simp [linkS, h2, h6, h1, h12]
 have e1 : linkF low fm n l = .zero := by simp [linkF, hS]
 have e2 : linkN low fm n l = 0 := by simp [linkN, hS]
 have e3 : linkE low fm n l = 2 := by simp [linkE, hS]
 rw [e1, e2, e3]
 have d1 : (fm == 2) = false := by simpa using h2
 have d2 : (fm == 6) = false := by simpa using h6
 have d3 : (fm == 1) = false := by simpa using h1
 have d4 : (fm == 12) = false := by simpa using h12
 clear e1 e2 e3 hS hn rdI h2 h6 h1 h12
 have HL := hY (refLow_any m ls)
 rw [hlow] at HL
 clear hlow
 have Rd := hY rd
 clear rd
 go_enter Tryz.func23, Tryz.ntmps23
 go_wp2_with ((with_reducible refine Lay.bxQ (L := imgL) 32 m ?_ ?_); exact rfl)
 refine hY fun W1 bm ebm cbm xbm => ?_
 go_wp2_with (with_reducible refine Lay.alQ Tryz.tFy ?_)
 refine hY fun W2 br ebr cbr xbr => ?_
 go_wp2_with ((with_reducible refine Lay.ldQ Tryz.tImg m ((xbm.out.frame cbr.out).in) ?_ ?_); exact rfl)
 refine hY ?_
 go_wp2_with fail
 refine (HL.out _ ((Rd.out.frame cbm.out).frame cbr.out)).mono ?_
 rintro e W3 ⟨rfl, hc⟩
 have C3 := hY ((cbm.out.then cbr.out).then hc)
 have XR3 := hY (xbr.out.frame hc)
 clear hc
 go_wp2_with (with_reducible refine Lay.alQ Tryz.tFy ?_)
 refine hY fun W4 bf ebf cbf xbf => ?_
 have C := hY (C3.out.then cbf.out)
 have XF := hY (xbf.out)
 have XR := hY (XR3.out.frame cbf.out)
 have LB : Hid (w.heap.size ≤ br) := hY (by rw [ebr.out]; exact cbm.out.size)
 have LF : Hid (w.heap.size ≤ bf) := hY (by rw [ebf.out]; exact C3.out.size)
 have NE : Hid (br ≠ bf) := hY (by have := XR3.out.lt; have := ebf.out; omega)
 clear C3 XR3 xbf xbr cbr cbf ebr ebf
 go_wp2_with ((with_reducible refine Lay.stQ Tryz.tFy Fy.zero (XR.out) ?_ ?_ ?_); exact rfl; exact rfl)
 refine hY fun WZ cWZ xWZ => ?_
 go_wp2
 refine Lay.ret3 Tryz.tFy Tryz.results23 xWZ.out rfl rfl ?_
 exact ⟨rfl, C.out.new cWZ.out LB.out⟩
end Go.Proofs.YtiljokmkiolpgaaGreatDoor
namespace Go.Proofs
open Go.Shelf
end Go.Proofs
namespace Go.Proofs.YtiljokmkiolpgaaGreatDoor
open Go.RowKit
open Go.RowKit
theorem Tryz.infoU8 : (Tryz.prog.info? 5).map (fun i => (i.zero, i.size, i.bytes)) = some (some (.int .u8 0), 1, 1) := by kernel_rfl
open Go.RowKit
theorem Addr_add (b off j : Nat) : (⟨b, off, none⟩ : Addr).add j = ⟨b, off + j, none⟩ := by
 unfold Addr.add; split <;> simp_all
open Go.RowKit
set_option maxRecDepth 100000
theorem owned_frame12 {w w' : World} {base : Nat} {e : TypeId} {size : Nat} {v : Value} {n : Nat} {xs : List Value} (h : w.ownsRow base e size v n xs) {S : List Nat} (k : Chg S w w') (hn : ∀ b, v.ownBlock = some b → b ∉ S) : w'.ownsRow base e size v n xs := by
 refine ⟨h.1, ?_⟩
 rcases h.2 with hn' | ⟨g, cap, cur, rfl, hb, hgg, rest⟩
 ·exact .inl hn'
 ·exact .inr ⟨g, cap, cur, rfl, hb, k.heap hgg (hn g rfl), rest⟩
theorem owned_base12 {w : World} {base base' : Nat} {e : TypeId} {size : Nat} {v : Value} {n : Nat} {xs : List Value} (h : w.ownsRow base e size v n xs) (hb : base' ≤ base) : w.ownsRow base' e size v n xs := by
 refine ⟨h.1, ?_⟩
 rcases h.2 with hn' | ⟨g, cap, cur, rfl, hb', hgg, rest⟩
 ·exact .inl hn'
 ·exact .inr ⟨g, cap, cur, rfl, by omega, hgg, rest⟩
def Buf12 (w : World) (base : Nat) (v : Value) (l : List UInt8) : Prop := w.ownsRow base 5 1 v l.length (bytesV l)
theorem Buf12.nil (w : World) (base : Nat) : Buf12 w base (.slice none 0 0) [] := World.ownsRow_nil w base 5 1
theorem Buf12.frame {w w' : World} {base : Nat} {v : Value} {l : List UInt8} (h : Buf12 w base v l) {S : List Nat} (k : Chg S w w') (hn : ∀ b, v.ownBlock = some b → b ∉ S) : Buf12 w' base v l := owned_frame12 h k hn
theorem Buf12.pure {w w' : World} {base : Nat} {v : Value} {l : List UInt8} (h : Buf12 w base v l) (k : Chg [] w w') : Buf12 w' base v l := h.frame k (fun _ _ hm => by cases hm)
theorem Buf12.rd {w : World} {base : Nat} {v : Value} {l : List UInt8} (h : Buf12 w base v l) : Rd w v (bytesV l) := Rd.owned h
section
variable {w w' : World} {base : Nat} {v1 v2 : Value} {l1 l2 : List UInt8}
end
set_option maxRecDepth 100000
theorem Chg.of_grown {a b : World} {row : Option Nat} (g : a.grownBy b row) : Chg row.toList a b :=
 ⟨g.os, g.tape, g.output, g.size, fun k hk hn => g.block k hk (fun e => hn (by rw [← e]; simp))⟩
open Go.RowKit
set_option maxRecDepth 100000
open Go.RowKit
set_option maxRecDepth 100000
theorem Buf12.form {w : World} {base : Nat} {v : Value} {l : List UInt8} (h : Buf12 w base v l) : ∃ a cap, v = .slice a l.length cap := by
 obtain ⟨a, n, cap, rfl, hn, _⟩ := h.rd
 rw [bytesV_length] at hn
 subst hn
 exact ⟨a, cap, rfl⟩
theorem Buf12.mono {w : World} {base base' : Nat} {v : Value} {l : List UInt8} (h : Buf12 w base v l) (hb : base' ≤ base) : Buf12 w base' v l := owned_base12 h hb
open Go.RowKit
set_option maxRecDepth 100000
open Go.RowKit
set_option maxRecDepth 100000
open Go.RowKit
set_option maxRecDepth 100000
open Go.RowKit
set_option maxRecDepth 100000
open Go.RowKit
set_option maxRecDepth 100000
section
end
open Go.RowKit
set_option maxRecDepth 100000
section
variable {o : Oper} {a : Act} {w : World} {K : Act → World → Prop} {Q : Exit → Act → World → Prop} {tm : Nat → Option Bool}
end
open Go.RowKit
set_option maxRecDepth 100000
section
variable {w0 w w' : World} {vb vp v' : Value} {lb new : List UInt8} {lp lp' : List Nat}
end
open Go.RowKit
set_option maxRecDepth 100000
def BufQ (w : World) (base : Nat) (v : Value) (l : List UInt8) : Prop :=
 ∃ g cap cur fz, v = .slice (some ⟨g, 0, none⟩) l.length cap ∧ base ≤ g ∧ w.heap[g]? = some (.cells cur 5 fz) ∧ (cap ≤ fz.1 ∨ fz.2 = 0) ∧ l.length ≤ cap ∧ cap ≤ maxLen ∧ cur.size = cap ∧ cur.toList.take l.length = bytesV l
theorem BufQ.lt {w : World} {base : Nat} {v : Value} {l : List UInt8} (h : BufQ w base v l) : ∀ k, v.ownBlock = some k → base ≤ k ∧ k < w.heap.size := by
 obtain ⟨g, cap, cur, fz, rfl, hb, hg, _⟩ := h
 intro k hk
 cases hk
 exact ⟨hb, lt_of_heap hg⟩
theorem BufQ.frame {w w' : World} {base : Nat} {v : Value} {l : List UInt8} (h : BufQ w base v l) {S : List Nat} (k : Chg S w w') (hn : ∀ b, v.ownBlock = some b → b ∉ S) : BufQ w' base v l := by
 obtain ⟨g, cap, cur, fz, rfl, hb, hg, rest⟩ := h
 exact ⟨g, cap, cur, fz, rfl, hb, k.heap hg (hn g rfl), rest⟩
theorem BufQ.pure {w w' : World} {base : Nat} {v : Value} {l : List UInt8} (h : BufQ w base v l) (k : Chg [] w w') : BufQ w' base v l := h.frame k (fun _ _ hm => by cases hm)
theorem BufQ.mono {w : World} {base base' : Nat} {v : Value} {l : List UInt8} (h : BufQ w base v l) (hb : base' ≤ base) : BufQ w base' v l := by
 obtain ⟨g, cap, cur, fz, hv, hg, rest⟩ := h
 exact ⟨g, cap, cur, fz, hv, Nat.le_trans hb hg, rest⟩
theorem BufQ.rd {w : World} {base : Nat} {v : Value} {l : List UInt8} (h : BufQ w base v l) : Rd w v (bytesV l) := by
 obtain ⟨g, cap, cur, fz, rfl, hb, hg, _, hc, hm, hs, ht⟩ := h
 refine ⟨_, _, _, rfl, (bytesV_length l).symm, hc, hm, fun _ => ⟨g, 0, rfl, fun j hj => ?_⟩⟩
 rw [bytesV_length] at hj
 rw [Nat.zero_add, cell_of_heap hg, ← ht, List.getElem?_take, if_pos hj]
 simp
theorem BufQ.form {w : World} {base : Nat} {v : Value} {l : List UInt8} (h : BufQ w base v l) : ∃ a cap, v = .slice a l.length cap := by
 obtain ⟨g, cap, cur, fz, rfl, _⟩ := h
 exact ⟨_, _, rfl⟩
section
variable {w0 w w' : World} {vb vp v' : Value} {lb new : List UInt8} {lp lp' : List Nat}
end
open Go.RowKit
set_option maxRecDepth 100000
open Go.RowKit
set_option maxRecDepth 100000
open Go.RowKit
set_option maxRecDepth 100000
open Go.RowKit
set_option maxRecDepth 100000
end Go.Proofs.YtiljokmkiolpgaaGreatDoor
namespace Go.Proofs.YtiljokmkiolpgaaGreatDoor
open Go.RowKit
set_option maxRecDepth 100000
structure IsCmp {α : Type} (c : α → α → Int) : Prop where
 anti : ∀ a b, c a b = - c b a
 one : ∀ a b, c a b = -1 ∨ c a b = 0 ∨ c a b = 1
 left : ∀ a b d, c a b = 0 → c a d = c b d
 trans : ∀ a b d, c a b ≤ 0 → c b d ≤ 0 → c a d ≤ 0
def th (x y : Int) : Int := if x = 0 then y else x
theorem IsCmp.by {α β : Type} {c : β → β → Int} (h : IsCmp c) (f : α → β) : IsCmp fun a b => c (f a) (f b) :=
 ⟨fun _ _ => h.anti _ _, fun _ _ => h.one _ _, fun _ _ _ => h.left _ _ _, fun _ _ _ => h.trans _ _ _⟩
def cmpI (x y : Int) : Int := if x < y then -1 else if y < x then 1 else 0
theorem cmpI_eq {x y : Int} : cmpI x y = 0 ↔ x = y := by unfold cmpI; (repeat' split) <;> omega
theorem bl_irrefl : ∀ l : List UInt8, Op.bytesLess l l = false
 | [] => rfl
 | a :: r => by simp [Op.bytesLess, bl_irrefl r]
theorem bl_tri : ∀ l m : List UInt8, Op.bytesLess l m = false → Op.bytesLess m l = false → l = m
  | [], [], _, _ => rfl
  | a :: l, [], _, h => by simp [Op.bytesLess] at h
  | [], _ :: _, h, _ => by simp [Op.bytesLess] at h
  | a :: l, b :: m, h, k => by
    simp only [Op.bytesLess, Bool.or_eq_false_iff, decide_eq_false_iff_not, Bool.and_eq_false_iff, beq_eq_false_iff_ne] at h k
    simp only [UInt8.lt_iff_toNat_lt, ← UInt8.toNat_inj, ne_eq] at h k
    have hab : a = b := UInt8.toNat_inj.1 (by omega)
    subst hab
    have h2 : Op.bytesLess l m = false := by rcases h.2 with h | h; · exact absurd rfl h
                                             · exact h
    have k2 : Op.bytesLess m l = false := by rcases k.2 with h | h; · exact absurd rfl h
                                             · exact h
    rw [bl_tri l m h2 k2]
def cmpS (x y : ByteArray) : Int := if Op.bytesLess x.toList y.toList then -1 else if Op.bytesLess y.toList x.toList then 1 else 0
theorem cmpS_eq {x y : ByteArray} : cmpS x y = 0 ↔ x = y := by
 constructor
 ·intro h
  have : x.toList = y.toList := by
   refine bl_tri _ _ ?_ ?_ <;> unfold cmpS at h
   ·cases e1 : Op.bytesLess x.toList y.toList <;> simp_all
   ·cases e1 : Op.bytesLess x.toList y.toList <;> cases e2 : Op.bytesLess y.toList x.toList <;> simp_all
  rw [Lib.toList_data, Lib.toList_data] at this
  exact ByteArray.ext (Array.toList_inj.1 this)
 ·rintro rfl
  unfold cmpS
  simp [bl_irrefl]
structure Fx where
 at_ : Int
 kind : Int
 tgt : Int
 ord : Int
 sym : ByteArray
 add : Int
 weak : Bool
def Fx.v (f : Fx) : Value := .agg #[.int .u64 f.at_, .int .i64 f.kind, .int .u64 f.tgt, .int .i64 f.ord, .string f.sym, .int .i64 f.add, .bool f.weak]
def wt (b : Bool) : Int := if b then 1 else 0
def ordF (a b : Fx) : Int := th (cmpI a.at_ b.at_) (th (cmpI a.kind b.kind) (th (cmpI a.tgt b.tgt) (th (cmpI a.ord b.ord) (th (cmpS a.sym b.sym) (th (cmpI a.add b.add) (cmpI (wt a.weak) (wt b.weak)))))))
theorem th_eq {x y : Int} : th x y = 0 ↔ x = 0 ∧ y = 0 := by unfold th; split <;> omega
theorem wt_eq {x y : Bool} : wt x = wt y ↔ x = y := by cases x <;> cases y <;> decide
theorem ordF_eq {a b : Fx} : ordF a b = 0 ↔ a = b := by
 unfold ordF
 rw [th_eq, th_eq, th_eq, th_eq, th_eq, th_eq, cmpI_eq, cmpI_eq, cmpI_eq, cmpI_eq, cmpS_eq, cmpI_eq, cmpI_eq, wt_eq]
 cases a; cases b
 simp
def Gr (a b : World) : Prop := ∃ q os, b = Go.Sort.grow (a.drewN q) os
theorem Gr.refl (a : World) : Gr a a := ⟨0, #[], by rw [Go.Sort.grow_empty]; rfl⟩
theorem Gr.trans {a b c : World} (h : Gr a b) (k : Gr b c) : Gr a c := by
 obtain ⟨q, os, rfl⟩ := h
 obtain ⟨r, os', rfl⟩ := k
 refine ⟨q + r, os ++ os', ?_⟩
 rw [show (Go.Sort.grow (a.drewN q) os).drewN r = Go.Sort.grow (a.drewN (q + r)) os from by simp [Go.Sort.grow, World.drewN, Nat.add_assoc], Go.Sort.grow_grow]
theorem Gr.alloc {a b : World} (h : Gr a b) (o : Obj) : Gr a (b.alloc o) := h.trans ⟨0, #[o], by rw [Go.Sort.alloc_eq_grow]; rfl⟩
theorem Gr.chg {a b : World} (h : Gr a b) : Chg [] a b := by
 obtain ⟨q, os, rfl⟩ := h
 refine ⟨rfl, rfl, rfl, ?_, fun k hk _ => ?_⟩
 ·simp [Go.Sort.grow, World.drewN]
 ·show (a.heap ++ os)[k]? = _
  rw [Array.getElem?_append_left hk]
theorem Gr.drew {a b : World} (h : Gr a b) : Gr a b.drew := h.trans ⟨1, #[], by rw [Go.Sort.grow_empty]; rfl⟩
end Go.Proofs.YtiljokmkiolpgaaGreatDoor
namespace Go.Proofs.YtiljokmkiolpgaaGreatDoor
set_option maxRecDepth 100000
instance : DecidableEq Fx := fun a b => decidable_of_iff (ordF a b = 0) ordF_eq
def SS (l : List Fx) : Prop := l.Pairwise fun a b => ordF a b < 0
end Go.Proofs.YtiljokmkiolpgaaGreatDoor
namespace Go.Proofs.YtiljokmkiolpgaaGreatDoor
open Go.RowKit
set_option maxRecDepth 100000
def Fx.zero : Fx := ⟨0, 0, 0, 0, ⟨#[]⟩, 0, false⟩
def Fx.cells (f : Fx) : List Value := [.int .u64 f.at_, .int .i64 f.kind, .int .u64 f.tgt, .int .i64 f.ord, .string f.sym, .int .i64 f.add, .bool f.weak]
def FxRd (w : World) (v : Value) (ls : List Fx) : Prop :=
 ∃ a n cap, v = .slice a n cap ∧ n = ls.length ∧ n ≤ cap ∧ cap ≤ maxLen ∧
  (ls ≠ [] → ∃ b off, a = some ⟨b, off, none⟩ ∧ b < w.heap.size ∧ ∀ j, j < ls.length → ∀ c, c < 7 → w.cell? ⟨b, off + j * 7 + c, none⟩ = (ls.getD j .zero).cells[c]?)
theorem FxRd.frame {w w' : World} {v : Value} {ls : List Fx} (h : FxRd w v ls) (k : Chg [] w w') : FxRd w' v ls := by
 obtain ⟨a, n, cap, rfl, hn, hc, hm, hx⟩ := h
 refine ⟨a, n, cap, rfl, hn, hc, hm, fun hne => ?_⟩
 obtain ⟨b, off, rfl, hb, hcell⟩ := hx hne
 refine ⟨b, off, rfl, Nat.lt_of_lt_of_le hb k.size, fun j hj c hc => ?_⟩
 have h1 := hcell j hj c hc
 cases hv : (ls.getD j .zero).cells[c]? with
 | none => have : c < (ls.getD j .zero).cells.length := hc; rw [List.getElem?_eq_getElem this] at hv; cases hv
 | some u => rw [hv] at h1; exact k.cell h1 (by simp)
theorem FxRd.at {w : World} {b off j : Nat} {f : Fx} (h : ∀ c, c < 7 → w.cell? ⟨b, off + j * 7 + c, none⟩ = f.cells[c]?) :
  w.cell? ⟨b, off + j * 7, none⟩ = some (.int .u64 f.at_) ∧ w.cell? ⟨b, off + j * 7 + 1, none⟩ = some (.int .i64 f.kind) ∧ w.cell? ⟨b, off + j * 7 + 2, none⟩ = some (.int .u64 f.tgt) ∧ w.cell? ⟨b, off + j * 7 + 3, none⟩ = some (.int .i64 f.ord) ∧ w.cell? ⟨b, off + j * 7 + 4, none⟩ = some (.string f.sym) ∧ w.cell? ⟨b, off + j * 7 + 5, none⟩ = some (.int .i64 f.add) ∧ w.cell? ⟨b, off + j * 7 + 6, none⟩ = some (.bool f.weak) :=
 ⟨h 0 (by decide), h 1 (by decide), h 2 (by decide), h 3 (by decide), h 4 (by decide), h 5 (by decide), h 6 (by decide)⟩
def fxV (ls : List Fx) : List Value := ls.flatMap Fx.cells
theorem fxV_get : ∀ (ls : List Fx) (j c : Nat), j < ls.length → c < 7 → (fxV ls)[j * 7 + c]? = (ls.getD j .zero).cells[c]?
 | [], j, c, hj, _ => by simp at hj
 | s :: r, 0, c, _, hc => by
  show (s.cells ++ fxV r)[0 * 7 + c]? = _
  rw [Nat.zero_mul, Nat.zero_add, List.getElem?_append_left (by show c < 7; exact hc)]
  rfl
 | s :: r, j + 1, c, hj, hc => by
  show (s.cells ++ fxV r)[(j + 1) * 7 + c]? = _
  rw [List.getElem?_append_right (by show 7 ≤ _; omega)]
  have := fxV_get r j c (by simpa using hj) hc
  show (fxV r)[(j + 1) * 7 + c - 7]? = _
  rw [show (j + 1) * 7 + c - 7 = j * 7 + c by omega, this]
  simp
def FxBuf (w : World) (base : Nat) (v : Value) (ls : List Fx) : Prop := w.ownsRow base 44 7 v ls.length (fxV ls)
theorem FxBuf.nil (w : World) (base : Nat) : FxBuf w base (.slice none 0 0) [] := ⟨rfl, .inl ⟨rfl, rfl⟩⟩
theorem FxBuf.rd {w : World} {base : Nat} {v : Value} {ls : List Fx} (h : FxBuf w base v ls) : FxRd w v ls := by
 obtain ⟨hl, hv⟩ := h
 rcases hv with ⟨rfl, h0⟩ | ⟨g, cap, cur, rfl, hb, hg, hnc, hcm, hcs, htake⟩
 ·have : ls = [] := List.eq_nil_of_length_eq_zero h0
  subst this
  exact ⟨_, _, _, rfl, rfl, Nat.le_refl _, Nat.zero_le _, fun h => absurd rfl h⟩
 ·refine ⟨_, _, _, rfl, rfl, hnc, hcm, fun _ => ⟨g, 0, rfl, lt_of_heap hg, fun j hj c hc => ?_⟩⟩
  rw [cell_of_heap hg, ← fxV_get ls j c hj hc, ← htake, List.getElem?_take, if_pos (by omega), Nat.zero_add]
  simp
theorem FxBuf.pure {w w' : World} {base : Nat} {v : Value} {ls : List Fx} (h : FxBuf w base v ls) (k : Chg [] w w') : FxBuf w' base v ls := owned_frame12 h k (fun _ _ hm => by cases hm)
theorem FxBuf.frame {w w' : World} {base : Nat} {v : Value} {ls : List Fx} (h : FxBuf w base v ls) {S : List Nat} (k : Chg S w w') (hn : ∀ b, v.ownBlock = some b → b ∉ S) : FxBuf w' base v ls := owned_frame12 h k hn
theorem FxBuf.mono {w : World} {base base' : Nat} {v : Value} {ls : List Fx} (h : FxBuf w base v ls) (hb : base' ≤ base) : FxBuf w base' v ls := owned_base12 h hb
theorem fx_eqv (a b : Fx) : decide (a = b) = (decide (a.at_ = b.at_) && (decide (a.kind = b.kind) && (decide (a.tgt = b.tgt) && (decide (a.ord = b.ord) && (decide (a.sym.toList = b.sym.toList) && (decide (a.add = b.add) && decide (a.weak = b.weak))))))) := by
 obtain ⟨a1, a2, a3, a4, a5, a6, a7⟩ := a
 obtain ⟨b1, b2, b3, b4, b5, b6, b7⟩ := b
 have h5 : decide (a5.toList = b5.toList) = decide (a5 = b5) := decide_eq_decide.2 ⟨fun e => by rw [Lib.toList_data, Lib.toList_data] at e; exact ByteArray.ext (Array.toList_inj.1 e), fun e => by rw [e]⟩
 simp only [h5]
 simp [Bool.decide_and]
set_option maxHeartbeats 2000000 in
theorem fx_neq (a b : Fx) (W : World) : (binOp .neq 44 (.agg #[.int .u64 a.at_, .int .i64 a.kind, .int .u64 a.tgt, .int .i64 a.ord, .string a.sym, .int .i64 a.add, .bool a.weak]) (.agg #[.int .u64 b.at_, .int .i64 b.kind, .int .u64 b.tgt, .int .i64 b.ord, .string b.sym, .int .i64 b.add, .bool b.weak])).run Tryz.prog W = .ok (.bool (!decide (a = b))) W := by
 rw [fx_eqv]
 go_simp
 (repeat' split) <;> simp [*]
set_option maxHeartbeats 4000000 in
theorem REqual_any (ls ms : List Fx) (v v' : Value) (w : World) (rd : FxRd w v ls) (rd' : FxRd w v' ms) :
  Calls Tryz.prog 9 #[v, v'] w fun e w' => e = .returned (.bool (decide (ls = ms))) ∧ Chg [] w w' := by
 obtain ⟨a, n, cap, rfl, rfl, hc1, hc2, hx⟩ := rd
 obtain ⟨a', n', cap', rfl, rfl, hc1', hc2', hx'⟩ := rd'
 unfold maxLen at hc2 hc2'
 have Hx := hY hx
 have HY := hY hx'
 clear hx hx'
 by_cases hlen : ls.length = ms.length
 case neg =>
  have d1 : ((ls.length : Int) != (ms.length : Int)) = true := by simp; omega
  have HF : Hid (decide (ls = ms) = false) := hY (by rw [decide_eq_false_iff_not]; rintro rfl; exact hlen rfl)
  clear hlen
  go_enter Tryz.func9, Tryz.ntmps9
  go_wp2
  go_ret
  exact ⟨by rw [HF.out]; rfl, Chg.refl _ _⟩
 have d1 : ((ls.length : Int) != (ms.length : Int)) = false := by simp; omega
 have HLEN := hY (hlen)
 have hlen' : ms.length = ls.length := hlen.symm
 clear hlen
 go_enter Tryz.func9, Tryz.ntmps9
 go_wp2_with fail
 go_loopw [5] (fun s5 wr => ∃ k : Nat, k ≤ ls.length ∧ s5 = .int .i64 (k : Int) ∧ (∀ j, j < k → ls.getD j .zero = ms.getD j .zero) ∧ Chg [] w wr) (fun s5 _ => ls.length - (intOf s5).toNat)
 case atStart => exact ⟨0, Nat.zero_le _, rfl, fun _ h => absurd h (Nat.not_lt_zero _), Chg.refl _ _⟩
 case round =>
  obtain ⟨k, hk, rfl, heq, hch⟩ := hrel
  have Hch := hY hch
  have Heq := hY heq
  clear hch heq
  by_cases hlt : k < ls.length
  ·obtain ⟨b, off, rfl, _, hcell⟩ := Hx.out (by rintro rfl; simp at hlt)
   obtain ⟨b', off', rfl, _, hcell'⟩ := HY.out (by rintro rfl; have := HLEN.out; rw [this] at hlt; simp at hlt)
   obtain ⟨h0, h1, h2, h3, h4, h5, h6⟩ := FxRd.at (hcell k hlt)
   obtain ⟨j0, j1, j2, j3, j4, j5, j6⟩ := FxRd.at (hcell' k (by omega))
   obtain ⟨f, hf⟩ : ∃ f, f = ls.getD k .zero := ⟨_, rfl⟩
   obtain ⟨g, hg⟩ : ∃ g, g = ms.getD k .zero := ⟨_, rfl⟩
   rw [← hf] at h0 h1 h2 h3 h4 h5 h6
   rw [← hg] at j0 j1 j2 j3 j4 j5 j6
   replace h0 := Hch.out.cell h0 (by simp)
   replace h1 := Hch.out.cell h1 (by simp)
   replace h2 := Hch.out.cell h2 (by simp)
   replace h3 := Hch.out.cell h3 (by simp)
   replace h4 := Hch.out.cell h4 (by simp)
   replace h5 := Hch.out.cell h5 (by simp)
   replace h6 := Hch.out.cell h6 (by simp)
   replace j0 := Hch.out.cell j0 (by simp)
   replace j1 := Hch.out.cell j1 (by simp)
   replace j2 := Hch.out.cell j2 (by simp)
   replace j3 := Hch.out.cell j3 (by simp)
   replace j4 := Hch.out.cell j4 (by simp)
   replace j5 := Hch.out.cell j5 (by simp)
   replace j6 := Hch.out.cell j6 (by simp)
   have Hf := hY hf
   have Hg := hY hg
   clear hf hg
   clear hcell hcell'
   have q := fx_neq f g
   by_cases hfg : f = g
   ·have e : decide (f = g) = true := by simpa using hfg
    rw [e] at q
    have Hfg := hY hfg
    clear hfg
    clear e
    go_wp2_with fail
    go_quiet (fail)
    go_wp2
    go_roundw
    case rel =>
     refine ⟨k + 1, hlt, by go_num, fun j hj => ?_, Hch.out.drewN _⟩
     by_cases e : j = k
     ·subst e; rw [← Hf.out, ← Hg.out]; exact Hfg.out
     ·exact Heq.out j (by omega)
    case measure => simp [intOf]; omega
   ·have e : decide (f = g) = false := by simpa using hfg
    rw [e] at q
    have HF : Hid (decide (ls = ms) = false) := by
     refine hY ?_
     rw [decide_eq_false_iff_not]
     rintro rfl
     exact hfg (by rw [Hf.out, Hg.out])
    clear e hfg
    go_wp2_with fail
    go_quiet (fail)
    go_wp2
    go_ret
    exact ⟨by rw [HF.out]; rfl, Hch.out.drewN _⟩
  ·obtain rfl : k = ls.length := by omega
   have HF : Hid (decide (ls = ms) = true) := by
    refine hY ?_
    rw [decide_eq_true_eq]
    refine List.ext_getElem HLEN.out (fun j h1 h2 => ?_)
    have := Heq.out j h1
    simpa [List.getD_eq_getElem?_getD, h1, h2] using this
   go_wp2
   go_ret
   exact ⟨by rw [HF.out]; rfl, Hch.out⟩
def fxl : Lay Fx := ⟨7, Fx.cells, Fx.zero, fun _ => rfl, by decide, fun x u hu => by
 simp only [Fx.cells, List.mem_cons, List.not_mem_nil, or_false] at hu
 rcases hu with rfl | rfl | rfl | rfl | rfl | rfl | rfl <;> rfl⟩
theorem Tryz.tFx : Lay.Ty fxl Tryz.prog 44 := Lay.Ty.mk' (by kernel_rfl) (by kernel_rfl)
theorem Tryz.infoFxL : Lay.Info Tryz.prog 35 44 fxl.n 64 := Lay.Info.mk' (z := .agg #[.int .u64 0, .int .i64 0, .int .u64 0, .int .i64 0, .string ⟨#[]⟩, .int .i64 0, .bool false]) (by kernel_rfl) (by kernel_rfl) rfl
theorem fx_ofL {w : World} {v : Value} {ls : List Fx} (h : fxl.Rd w v ls) : FxRd w v ls := h
abbrev FB (w : World) (base : Nat) (v : Value) (ls : List Fx) : Prop := fxl.Buf 44 w base v ls
def toFx (y : Fy) : Fx := ⟨y.at_, y.kind, y.tgt, y.ord, y.sym, y.add, y.weak⟩
theorem toFx_val (y : Fy) : fyL.val y = fxl.val (toFx y) := rfl
def linkX (low : Nat) (fmt : Int) (n : Nat) (l : List Imp) : Fx := toFx (linkF low fmt n l)
def inS (addr : Int) (s : Seg) : Bool := !holeS s && (decide (s.addr ≤ addr) && decide (addr - s.addr < s.size))
def atS (ls : List Seg) (addr : Int) : Option Nat := idx (inS addr) ls
theorem Tryz.tSeg : Lay.Ty segL Tryz.prog 73 := Lay.Ty.mk' (by kernel_rfl) (by kernel_rfl)
theorem at1_any (s : Seg) (hs : 0 ≤ s.addr) (addr : Int) (ha : addr < 18446744073709551616) (p : Nat) (w : World) (hp : w.cell? ⟨p, 0, none⟩ = some (.int .u64 addr)) :
  Calls Tryz.prog 111 #[s.v, .pointer (some ⟨p, 0, none⟩)] w fun e w' => e = .returned (.bool (inS addr s)) ∧ Chg [] w w' := by
 have HH := hY (hole_any s)
 unfold inS
 generalize holeS s = b at *
 have Hp := hY hp
 clear hp
 cases b with
 | true =>
  go_enter Tryz.func111, Tryz.ntmps111
  go_wp2_with ((with_reducible refine Lay.bxQ (L := segL) 73 s ?_ ?_); exact rfl)
  refine hY fun W1 bs ebs cbs xbs => ?_
  go_wp2_with ((with_reducible refine Lay.ldQ Tryz.tSeg s (xbs.out.in) ?_ ?_); exact rfl)
  refine hY ?_
  go_wp2_with fail
  refine (HH.out _).mono ?_
  rintro e w' ⟨rfl, hc⟩
  have Hc := hY hc
  clear hc
  have p2 := (cbs.out.then Hc.out).cell Hp.out (by simp)
  have x1 := Seg.c_addr (xbs.out.frame Hc.out)
  have x2 := Seg.c_size (xbs.out.frame Hc.out)
  go_wp2
  go_ret
  exact ⟨rfl, cbs.out.then Hc.out⟩
 | false =>
  by_cases h1 : s.addr ≤ addr
  ·have d1 : decide (s.addr ≤ addr) = true := by simpa using h1
   have hw : IntKind.u64.wrap (addr - s.addr) = addr - s.addr := by rw [IntKind.wrap_u64]; omega
   go_enter Tryz.func111, Tryz.ntmps111
   go_wp2_with ((with_reducible refine Lay.bxQ (L := segL) 73 s ?_ ?_); exact rfl)
   refine hY fun W1 bs ebs cbs xbs => ?_
   go_wp2_with ((with_reducible refine Lay.ldQ Tryz.tSeg s (xbs.out.in) ?_ ?_); exact rfl)
   refine hY ?_
   go_wp2_with fail
   refine (HH.out _).mono ?_
   rintro e w' ⟨rfl, hc⟩
   have Hc := hY hc
   clear hc
   have p2 := (cbs.out.then Hc.out).cell Hp.out (by simp)
   have x1 := Seg.c_addr (xbs.out.frame Hc.out)
   have x2 := Seg.c_size (xbs.out.frame Hc.out)
   go_wp2
   go_ret
   exact ⟨by rw [d1]; rfl, cbs.out.then Hc.out⟩
  ·have d1 : decide (s.addr ≤ addr) = false := by simpa using h1
   go_enter Tryz.func111, Tryz.ntmps111
   go_wp2_with ((with_reducible refine Lay.bxQ (L := segL) 73 s ?_ ?_); exact rfl)
   refine hY fun W1 bs ebs cbs xbs => ?_
   go_wp2_with ((with_reducible refine Lay.ldQ Tryz.tSeg s (xbs.out.in) ?_ ?_); exact rfl)
   refine hY ?_
   go_wp2_with fail
   refine (HH.out _).mono ?_
   rintro e w' ⟨rfl, hc⟩
   have Hc := hY hc
   clear hc
   have p2 := (cbs.out.then Hc.out).cell Hp.out (by simp)
   have x1 := Seg.c_addr (xbs.out.frame Hc.out)
   have x2 := Seg.c_size (xbs.out.frame Hc.out)
   go_wp2
   go_ret
   exact ⟨by rw [d1]; rfl, cbs.out.then Hc.out⟩
def SegB (s : Seg) : Prop := (0 ≤ s.addr ∧ s.addr < 18446744073709551616) ∧ (0 ≤ s.size ∧ s.size < 18446744073709551616) ∧ (0 ≤ s.off ∧ s.off < 18446744073709551616) ∧ (0 ≤ s.fsize ∧ s.fsize < 18446744073709551616)
def SegsB (ls : List Seg) : Prop := ∀ k, k < ls.length → SegB (ls.getD k .zero)
set_option maxHeartbeats 1000000 in
theorem idxAt_any (ls : List Seg) (hls : SegsB ls) (addr : Int) (ha : addr < 18446744073709551616) (p : Nat) (v : Value) (w : World) (rd : segL.Rd w v ls) (hp : w.cell? ⟨p, 0, none⟩ = some (.int .u64 addr)) :
  Calls Tryz.prog 110 #[v, .func (.func 111) #[] #[.pointer (some ⟨p, 0, none⟩)]] w fun e w' => e = .returned (.int .i64 (idxI (atS ls addr))) ∧ Chg [] w w' := by
 obtain ⟨a, cap, rfl, hc1, hc2⟩ := rd.shape
 have HCL : Hid (∀ k, k < ls.length → ∀ W, Chg [] w W → Calls Tryz.prog 111 #[(ls.getD k .zero).v, .pointer (some ⟨p, 0, none⟩)] W fun e w' => e = .returned (.bool (inS addr (ls.getD k .zero))) ∧ Chg [] W w') := by
  refine hY ?_
  intro k hk W hW
  exact at1_any _ (hls k hk).1.1 addr ha p W (hW.cell hp (by simp))
 unfold atS
 generalize inS addr = P at *
 have HR := hY rd
 have Hls := hY hls
 have Ha := hY ha
 have Hp := hY hp
 clear rd hls ha hp
 go_enter Tryz.func110, Tryz.ntmps110
 go_wp2_with fail
 go_loopw [8] (fun s8 wr => ∃ k : Nat, k ≤ ls.length ∧ s8 = .int .i64 (k : Int) ∧ (∀ j, j < k → P (ls.getD j .zero) = false) ∧ Chg [] w wr) (fun s8 _ => ls.length - (intOf s8).toNat)
 case atStart => exact ⟨0, Nat.zero_le _, rfl, fun _ h => absurd h (Nat.not_lt_zero _), Chg.refl _ _⟩
 case round =>
  obtain ⟨k, hk, rfl, hno, hch⟩ := hrel
  have Hno := hY hno
  have Hch := hY hch
  clear hno hch
  by_cases hlt : k < ls.length
  ·obtain ⟨b, off, rfl, hb, hcell⟩ := HR.out.at (by omega)
   have hI : segL.In w b (off + k * 7) (ls.getD k .zero) := hcell k hlt
   have HF := hY (HCL.out k hlt wr Hch.out)
   obtain ⟨s, hs⟩ : ∃ s, s = ls.getD k .zero := ⟨_, rfl⟩
   rw [← hs] at hI HF
   have hI2 := hI.frame Hch.out
   clear hI hcell hb
   have Hs := hY hs
   have HI := hY hI2
   clear hs hI2
   obtain ⟨q, hq⟩ : ∃ q, q = P s := ⟨_, rfl⟩
   rw [← hq] at HF
   go_wp2_with ((with_reducible refine Lay.ldQ Tryz.tSeg s (HI.out) ?_ ?_); exact rfl)
   refine hY ?_
   go_wp2_with fail
   refine HF.out.mono ?_
   rintro e w' ⟨rfl, hc⟩
   have HC := hY (Hch.out.then hc)
   clear hc
   cases q with
   | true =>
    have HE : Hid (idx P ls = some k) := hY (by rw [Hs.out] at hq; exact idx_some hlt hq.symm (fun j hj => Hno.out j hj))
    clear hq
    go_wp2
    go_ret
    exact ⟨by rw [HE.out]; rfl, HC.out⟩
   | false =>
    have Hq := hY hq
    clear hq
    go_wp2
    go_roundw
    case rel =>
     refine ⟨k + 1, hlt, by go_num, fun j hj => ?_, HC.out⟩
     by_cases e : j = k
     ·subst e; rw [← Hs.out]; exact Hq.out.symm
     ·exact Hno.out j (by omega)
    case measure => simp [intOf]; omega
  ·have HE : Hid (idx P ls = none) := hY (idx_none (fun j hj => Hno.out j (by omega)))
   go_wp2
   go_ret
   exact ⟨by rw [HE.out]; rfl, Hch.out⟩
theorem At_img (m : Img) (ls : List Seg) (hls : SegsB ls) (addr : Int) (ha : addr < 18446744073709551616) (w : World) (rd : segL.Rd w m.segs.v ls) :
  Calls Tryz.prog 94 #[imgL.val m, .int .u64 addr] w fun e w' => e = .returned (.int .i64 (idxI (atS ls addr))) ∧ Chg [] w w' := by
 have HX := hY (fun p v w => idxAt_any ls hls addr ha p v w)
 have hmf : ∀ (fn : Fn) (first cap : Array Value) (w : World), (Instr.makeFunc fn first cap).run Tryz.prog w = .ok (.func fn first cap) w := fun _ _ _ _ => rfl
 have Rd := hY rd
 have Ha := hY ha
 have Hls := hY hls
 clear rd ha hls
 go_enter Tryz.func94, Tryz.ntmps94
 go_wp2_with ((with_reducible refine Lay.bxQ (L := imgL) 32 m ?_ ?_); exact rfl)
 refine hY fun W bm ebm cbm xbm => ?_
 have x4 := fun o => Img.c_segs (xbm.out.alloc o)
 go_wp2_with fail
 refine (HX.out W.heap.size _ _ ((Rd.out.frame cbm.out).frame ((Chg.refl _ _).alloc _)) ?_).mono ?_
 ·rw [cell_of_heap (heap_alloc_eq _ _)]; rfl
 rintro e w' ⟨rfl, hc⟩
 have Hc := hY hc
 clear hc
 go_wp2
 go_ret
 exact ⟨rfl, (cbm.out.alloc _).then Hc.out⟩
namespace Lay
theorem read_ld {α : Type} {L : Lay α} {P : Program} {T : TypeId} (hT : Ty L P T) {d : Tmp} {s : Operand} {ty : TypeId} {pos : String} {after : Array Edge} {g : Option (Nat × Bool)} {ev : Operand → Value} {y : Nat → Option Bool} {w : World} {b off : Nat} {x : α} (hx : L.In w b off x) (hw : Region.wanted ⟨some d, .load T s, ty, pos, after, g⟩ y = true) (hs : ev s = .pointer (some ⟨b, off, none⟩)) :
  if Region.wanted ⟨some d, .load T s, ty, pos, after, g⟩ y = true then (execOp ev ⟨some d, .load T s, ty, pos, after, g⟩).run P w = .ok (.value (L.val x)) w else L.val x = undef := by
 rw [if_pos hw]
 unfold execOp
 simp only [Instr.loadAt, Instr.sureAddr, Sem.run_bind, Sem.run_pure, hs, Result.andThen_ok, run_load_rec hT hx]
theorem ldG2 {α : Type} {L : Lay α} {P : Program} {T : TypeId} {ops : Array Oper} {rest : List Oper} {a : Act} {Q : Exit → Act → World → Prop} {w : World} (hT : Ty L P T) {d : Tmp} {s : Operand} {ty : TypeId} {pos : String} {after : Array Edge} {g : Nat × Bool} {b off : Nat} (x : α) (hx : L.In w b off x) (hw : Region.wanted ⟨some d, .load T s, ty, pos, after, some g⟩ (yielded ops a.tmps) = true) (hs : a.eval s = .pointer (some ⟨b, off, none⟩))
  (h : wpList P ops Q rest (a.put (some d) (.agg (L.f x).toArray)) w) : wpList P ops Q (⟨some d, .load T s, ty, pos, after, some g⟩ :: rest) a w := by
 refine wpList_step fun K hK => ?_
 rw [if_pos hw]
 unfold Oper.wp execOp
 simp only [Instr.loadAt, Instr.sureAddr, Sem.run_bind, Sem.run_pure, hs, Result.andThen_ok, run_load_rec hT hx]
 exact hK _ _ h
end Lay
theorem idx_true {α : Type} {p : α → Bool} (d : α) : ∀ {l : List α} {k : Nat}, idx p l = some k → p (l.getD k d) = true
 | [], _, h => by cases h
 | x :: r, k, h => by
  unfold idx at h
  split at h
  ·cases h; simpa
  ·cases hi : idx p r with
   | none => rw [hi] at h; cases h
   | some m =>
    rw [hi] at h
    cases h
    simpa using idx_true d hi
def withinS (off size all : Nat) : Bool := decide (off ≤ all) && decide (size ≤ all - off)
theorem within_any2 (off size all : Nat) (ha : all < 18446744073709551616) (w : World) :
  Calls Tryz.prog 53 #[.int .u64 off, .int .u64 size, .int .u64 all] w fun e w' => e = .returned (.bool (withinS off size all)) ∧ Chg [] w w' := by
 unfold withinS
 by_cases h1 : off ≤ all
 ·have hw : IntKind.u64.wrap ((all : Int) - (off : Int)) = ((all - off : Nat) : Int) := by rw [IntKind.wrap_u64]; omega
  have d1 : decide (off ≤ all) = true := by simpa using h1
  clear ha
  rw [d1, Bool.true_and]
  generalize all - off = q at *
  go_enter Tryz.func53, Tryz.ntmps53
  go_wp2
  go_ret
  exact ⟨rfl, Chg.refl _ _⟩
 ·have d1 : decide (off ≤ all) = false := by simpa using h1
  rw [d1, Bool.false_and]
  clear ha
  go_enter Tryz.func53, Tryz.ntmps53
  go_wp2
  go_ret
  exact ⟨rfl, Chg.refl _ _⟩
theorem Rd_cutI {w : World} {b off n cap : Nat} {l : List UInt8} (rd : byteL.Rd w (.slice (some ⟨b, off, none⟩) n cap) l) (p m c : Nat) (h : p + m ≤ l.length) (hc : m ≤ c) (hc2 : c ≤ maxLen) :
  byteL.Rd w (.slice (some ⟨b, off + p, none⟩) m c) ((l.drop p).take m) := by
 obtain ⟨a', n', cap', he, hn, h1, h2, h3⟩ := rd
 cases he
 have hl : ((l.drop p).take m).length = m := by simp; omega
 refine ⟨_, m, c, rfl, hl.symm, hc, hc2, fun hne => ?_⟩
 have hl0 : l ≠ [] := by rintro rfl; simp at hne
 obtain ⟨b', off', hb, hlt, hcell⟩ := h3 hl0
 cases hb
 refine ⟨b, off + p, rfl, hlt, fun j hj k hk => ?_⟩
 rw [hl] at hj
 have := hcell (p + j) (by omega) k hk
 rw [show byteL.n = 1 from rfl] at this ⊢
 rw [show off + p + j * 1 + k = off + (p + j) * 1 + k by omega, this]
 congr 2
 simp only [List.getD_eq_getElem?_getD, List.getElem?_take, List.getElem?_drop]
 rw [if_pos hj]
set_option maxHeartbeats 1000000 in
theorem sclone_any (l : List UInt8) (v : Value) (w : World) (rd : byteL.Rd w v l) (hlen : l.length ≤ 100000000) :
  Calls Tryz.prog 54 #[v] w fun e w' => ∃ v', e = .returned v' ∧ BB w' w.heap.size v' l ∧ Chg [] w w' := by
 obtain ⟨a, n, cap, rfl, rfl, hc1, hc2, hx⟩ := id rd
 have HR := hY rd
 have Hc2 := hY hc2
 clear rd hc2
 clear hc1
 have q1 : ∀ W : World, (binOp .eql 22 (.slice a l.length cap) (.slice none 0 0)).run Tryz.prog W = .ok (.bool a.isNone) W := fun W => Lib.run_eql_slice_nil W _ _ a l.length cap 0 0 Tryz.infoByte.u
 cases a with
 | none =>
  have hl : l = [] := by
   cases l with
   | nil => rfl
   | cons b l => obtain ⟨_, _, h, _⟩ := hx (by simp); cases h
  subst hl
  clear hx
  simp only [Option.isNone_none, List.length_nil] at q1
  go_enter Tryz.func54, Tryz.ntmps54
  go_wp2
  go_ret
  exact ⟨_, rfl, Lay.Buf.nil _ _, Chg.refl _ _⟩
 | some ad =>
  simp only [Option.isNone_some] at q1
  have Hx := hY hx
  clear hx
  obtain ⟨w1, hw1⟩ : ∃ x, x = w.alloc (.cells #[] 5) := ⟨_, rfl⟩
  have B1 : Hid (BB w1 w.heap.size (.slice (some ⟨w.heap.size, 0, none⟩) 0 0) []) := by
   refine hY ?_
   rw [hw1]
   exact ⟨rfl, .inr ⟨w.heap.size, 0, #[], rfl, Nat.le_refl _, heap_alloc_eq _ _, Nat.le_refl _, Nat.zero_le _, rfl, rfl⟩⟩
  have C1 : Hid (Chg [] w w1) := hY (by rw [hw1]; exact (Chg.refl _ _).alloc _)
  have HW1 := hY (hw1)
  clear hw1
  go_enter Tryz.func54, Tryz.ntmps54
  go_wp2_with (at_builtin; rw [← HW1.out]; refine Lay.app (L := byteL) Tryz.infoByte rfl _ _ rfl w.heap.size (.slice (some ⟨w.heap.size, 0, none⟩) 0 0) [] rfl B1.out _ rfl l (HR.out.frame C1.out) (by simp; omega) (by simp; omega) C1.out.size ?_; intro va wa hoa hga hla; refine Hid.out ?_)
  refine hY ?_
  have BA : Hid (BB wa w.heap.size va l) := hY (hoa)
  have CA : Hid (Chg [] w wa) := hY (C1.out.trans (Lay.chg_grown hga) (fun i hm hw => by simp [Value.ownBlock] at hm; omega))
  clear hoa hga
  go_wp2
  go_ret
  exact ⟨_, rfl, BA.out, CA.out⟩
def partS (l : List UInt8) (off size : Nat) : List UInt8 := if size = 0 then [] else if withinS off size l.length then (l.drop off).take size else []
set_option maxHeartbeats 1000000 in
theorem Part_any (l : List UInt8) (v : Value) (off size : Nat) (ho : off < 18446744073709551616) (hz : size < 18446744073709551616) (w : World) (rd : byteL.Rd w v l) (hlen : l.length ≤ 100000000) :
  Calls Tryz.prog 18 #[v, .agg #[.int .u64 off, .int .u64 size]] w fun e w' => (∃ v', e = .returned v' ∧ byteL.Rd w' v' (partS l off size)) ∧ Chg [] w w' := by
 obtain ⟨a, cap, rfl, hc1, hc2⟩ := rd.shape
 have hwl : IntKind.u64.wrap (l.length : Int) = (l.length : Int) := by rw [IntKind.wrap_u64]; omega
 have Rd := hY rd
 clear rd
 by_cases h0 : size = 0
 ·subst h0
  rw [show partS l off 0 = [] from rfl]
  clear ho hz hc2
  go_enter Tryz.func18, Tryz.ntmps18
  go_wp2
  go_ret
  exact ⟨⟨_, rfl, Lay.Rd.nil _⟩, (Chg.refl _ _).alloc _⟩
 have z0 : ((size : Int) == 0) = false := by simp; omega
 have HW := hY (within_any2 off size l.length (by omega))
 cases hw : withinS off size l.length with
 | false =>
  rw [hw] at HW
  rw [show partS l off size = [] by unfold partS; rw [if_neg h0, hw]; rfl]
  clear ho hz hc2 hw
  go_enter Tryz.func18, Tryz.ntmps18
  go_wp2_with fail
  refine (HW.out _).mono ?_
  rintro e W2 ⟨rfl, hc⟩
  have C2 : Hid (Chg [] w W2) := hY (((Chg.refl _ _).alloc _).then hc)
  have y0 : W2.cell? ⟨w.heap.size, 0, none⟩ = some (.int .u64 off) := by refine hc.cell ?_ (by simp); rw [cell_of_heap (heap_alloc_eq _ _)]; rfl
  have y1 : W2.cell? ⟨w.heap.size, 1, none⟩ = some (.int .u64 size) := by refine hc.cell ?_ (by simp); rw [cell_of_heap (heap_alloc_eq _ _)]; rfl
  clear hc
  go_wp2
  go_ret
  exact ⟨⟨_, rfl, Lay.Rd.nil _⟩, C2.out⟩
 | true =>
  rw [hw] at HW
  rw [show partS l off size = (l.drop off).take size by unfold partS; rw [if_neg h0, hw]; rfl]
  have hin : off ≤ l.length ∧ size ≤ l.length - off := by
   unfold withinS at hw
   simpa only [Bool.and_eq_true, decide_eq_true_eq] using hw
  have hs : IntKind.u64.wrap ((off : Int) + (size : Int)) = ((off + size : Nat) : Int) := by rw [IntKind.wrap_u64]; omega
  obtain ⟨b, o, rfl, _, _⟩ := Rd.out.at (by omega)
  have HCL : Hid (∀ W, Chg [] w W → Calls Tryz.prog 54 #[.slice (some ⟨b, o + off, none⟩) size size] W fun e w' => ∃ v', e = .returned v' ∧ BB w' W.heap.size v' ((l.drop off).take size) ∧ Chg [] W w') := by
   refine hY ?_
   intro W hW
   exact sclone_any _ _ W (Rd_cutI (Rd.out.frame hW) off size size (by omega) (Nat.le_refl _) (by unfold maxLen; omega)) (by simp; omega)
  have k1 : off + size ≤ cap := by omega
  have k2 : off + size - off = size := by omega
  clear ho hz hw
  go_enter Tryz.func18, Tryz.ntmps18
  go_wp2_with fail
  refine (HW.out _).mono ?_
  rintro e W2 ⟨rfl, hc⟩
  have C2 : Hid (Chg [] w W2) := hY (((Chg.refl _ _).alloc _).then hc)
  have y0 : W2.cell? ⟨w.heap.size, 0, none⟩ = some (.int .u64 off) := by refine hc.cell ?_ (by simp); rw [cell_of_heap (heap_alloc_eq _ _)]; rfl
  have y1 : W2.cell? ⟨w.heap.size, 1, none⟩ = some (.int .u64 size) := by refine hc.cell ?_ (by simp); rw [cell_of_heap (heap_alloc_eq _ _)]; rfl
  clear hc
  go_wp2_with fail
  refine (HCL.out _ C2.out).mono ?_
  rintro e W3 ⟨v3, rfl, hb, hc⟩
  have B3 := hY (hb)
  have C3 := hY (C2.out.then hc)
  clear hb hc
  go_wp2
  go_ret
  exact ⟨⟨_, rfl, B3.out.rd⟩, C3.out⟩
end Go.Proofs.YtiljokmkiolpgaaGreatDoor
