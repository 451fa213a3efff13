/- Lemmas, laid together: part 13 of 38. Conditions: none but each lemma's own. -/
import Derived.Test.YtgjlgamlmmjdpaaDoorJ3
import Derived.Test.YtgjlgamlmmjdpaaDoorProg
import Derived.Lib.Strings
import Derived.Test.YtgjlgamlmmjdpaaDoorJ10
import Derived.Test.YtgjlgamlmmjdpaaDoorJ11
import Derived.Test.YtgjlgamlmmjdpaaDoorJ12
import Derived.Test.YtgjlgamlmmjdpaaDoorJ6
/- Records: sections (printed by mkrecs.sh). -/
namespace Go.Proofs.YtgjlgamlmmjdpaaDoor
open Go.RowKit
set_option maxRecDepth 100000

/-- A record Sec. -/
structure Sec where
  name : ByteArray
  seg : ByteArray
  addr : Int
  size : Int
  off : Int
  kind : Int
def Sec.cells (s : Sec) : List Value := [.string s.name, .string s.seg, .int .u64 s.addr, .int .u64 s.size, .int .u64 s.off, .int .i64 s.kind]
abbrev Sec.v (s : Sec) : Value := .agg #[.string s.name, .string s.seg, .int .u64 s.addr, .int .u64 s.size, .int .u64 s.off, .int .i64 s.kind]
/-- Its numbers are of their kinds. -/
def Sec.wf (s : Sec) : Prop := (Lit.int .u64 s.addr).wf = true ∧ (Lit.int .u64 s.size).wf = true ∧ (Lit.int .u64 s.off).wf = true ∧ (Lit.int .i64 s.kind).wf = true
def Sec.zero : Sec := ⟨⟨#[]⟩, ⟨#[]⟩, 0, 0, 0, 0⟩
def secL : Lay Sec := ⟨6, Sec.cells, Sec.zero, fun _ => rfl, by decide, fun x u hu => by
  simp only [Sec.cells, List.mem_cons, List.not_mem_nil, or_false] at hu
  rcases hu with rfl | rfl | rfl | rfl | rfl | rfl <;> rfl⟩
theorem Sec.at {w : World} {b o : Nat} {s : Sec} (h : secL.In w b o s) : w.cell? ⟨b, o, none⟩ = some (.string s.name) ∧ w.cell? ⟨b, o + 1, none⟩ = some (.string s.seg) ∧ w.cell? ⟨b, o + 2, none⟩ = some (.int .u64 s.addr) ∧ w.cell? ⟨b, o + 3, none⟩ = some (.int .u64 s.size) ∧ w.cell? ⟨b, o + 4, none⟩ = some (.int .u64 s.off) ∧ w.cell? ⟨b, o + 5, none⟩ = some (.int .i64 s.kind) :=
  ⟨h 0 (by decide), h 1 (by decide), h 2 (by decide), h 3 (by decide), h 4 (by decide), h 5 (by decide)⟩
theorem Sec.at0 {w : World} {b : Nat} {s : Sec} (h : secL.In w b 0 s) : w.cell? ⟨b, 0, none⟩ = some (.string s.name) ∧ w.cell? ⟨b, 1, none⟩ = some (.string s.seg) ∧ w.cell? ⟨b, 2, none⟩ = some (.int .u64 s.addr) ∧ w.cell? ⟨b, 3, none⟩ = some (.int .u64 s.size) ∧ w.cell? ⟨b, 4, none⟩ = some (.int .u64 s.off) ∧ w.cell? ⟨b, 5, none⟩ = some (.int .i64 s.kind) := by
  obtain ⟨h0, h1, h2, h3, h4, h5⟩ := Sec.at h
  simp only [Nat.zero_add] at h1 h2 h3 h4 h5
  exact ⟨h0, h1, h2, h3, h4, h5⟩
theorem Sec.boxed (w : World) (s : Sec) (T : TypeId) : secL.In (w.alloc (.cells #[.string s.name, .string s.seg, .int .u64 s.addr, .int .u64 s.size, .int .u64 s.off, .int .i64 s.kind] T)) w.heap.size 0 s := fun c _ => by
  rw [cell_of_heap (heap_alloc_eq w _), Nat.zero_add]
  exact List.getElem?_toArray ..
/-- A record in a block of its own: made, written, a field written. -/
theorem Sec.box (w : World) (s : Sec) (T : TypeId) : secL.Box (w.alloc (.cells #[.string s.name, .string s.seg, .int .u64 s.addr, .int .u64 s.size, .int .u64 s.off, .int .i64 s.kind] T)) w.heap.size s := Lay.Box.of_alloc (L := secL) w s T
theorem Sec.boxAt (w : World) (s : Sec) (T : TypeId) {b : Nat} (hb : b = w.heap.size) : secL.Box (w.alloc (.cells #[.string s.name, .string s.seg, .int .u64 s.addr, .int .u64 s.size, .int .u64 s.off, .int .i64 s.kind] T)) b s := by rw [hb]; exact Sec.box w s T
theorem Sec.put0 {w : World} {g : Nat} {y : Sec} (h : secL.Box w g y) (s : Sec) : secL.Box ((((((w.setCell ⟨g, 0, none⟩ (.string s.name)).setCell ⟨g, 1, none⟩ (.string s.seg)).setCell ⟨g, 2, none⟩ (.int .u64 s.addr)).setCell ⟨g, 3, none⟩ (.int .u64 s.size)).setCell ⟨g, 4, none⟩ (.int .u64 s.off)).setCell ⟨g, 5, none⟩ (.int .i64 s.kind)) g s := Lay.Box.put h s
theorem Sec.chg0 (w : World) (g : Nat) (s : Sec) : Chg [g] w ((((((w.setCell ⟨g, 0, none⟩ (.string s.name)).setCell ⟨g, 1, none⟩ (.string s.seg)).setCell ⟨g, 2, none⟩ (.int .u64 s.addr)).setCell ⟨g, 3, none⟩ (.int .u64 s.size)).setCell ⟨g, 4, none⟩ (.int .u64 s.off)).setCell ⟨g, 5, none⟩ (.int .i64 s.kind)) := Lay.setW_chg g s.cells w 0
theorem Sec.set_name {w : World} {g : Nat} {s : Sec} (h : secL.Box w g s) (x : ByteArray) : secL.Box (w.setCell ⟨g, 0, none⟩ (.string x)) g { s with name := x } := Lay.Box.set h 0 _ _ rfl
theorem Sec.set_seg {w : World} {g : Nat} {s : Sec} (h : secL.Box w g s) (x : ByteArray) : secL.Box (w.setCell ⟨g, 1, none⟩ (.string x)) g { s with seg := x } := Lay.Box.set h 1 _ _ rfl
theorem Sec.set_addr {w : World} {g : Nat} {s : Sec} (h : secL.Box w g s) (x : Int) : secL.Box (w.setCell ⟨g, 2, none⟩ (.int .u64 x)) g { s with addr := x } := Lay.Box.set h 2 _ _ rfl
theorem Sec.set_size {w : World} {g : Nat} {s : Sec} (h : secL.Box w g s) (x : Int) : secL.Box (w.setCell ⟨g, 3, none⟩ (.int .u64 x)) g { s with size := x } := Lay.Box.set h 3 _ _ rfl
theorem Sec.set_off {w : World} {g : Nat} {s : Sec} (h : secL.Box w g s) (x : Int) : secL.Box (w.setCell ⟨g, 4, none⟩ (.int .u64 x)) g { s with off := x } := Lay.Box.set h 4 _ _ rfl
theorem Sec.set_kind {w : World} {g : Nat} {s : Sec} (h : secL.Box w g s) (x : Int) : secL.Box (w.setCell ⟨g, 5, none⟩ (.int .i64 x)) g { s with kind := x } := Lay.Box.set h 5 _ _ rfl
theorem Sec.c_name {w : World} {b : Nat} {s : Sec} (h : secL.Box w b s) : w.cell? ⟨b, 0, none⟩ = some (.string s.name) := by have := h.in 0 (by decide); rw [Nat.zero_add] at this; exact this
theorem Sec.c_seg {w : World} {b : Nat} {s : Sec} (h : secL.Box w b s) : w.cell? ⟨b, 1, none⟩ = some (.string s.seg) := by have := h.in 1 (by decide); rw [Nat.zero_add] at this; exact this
theorem Sec.c_addr {w : World} {b : Nat} {s : Sec} (h : secL.Box w b s) : w.cell? ⟨b, 2, none⟩ = some (.int .u64 s.addr) := by have := h.in 2 (by decide); rw [Nat.zero_add] at this; exact this
theorem Sec.c_size {w : World} {b : Nat} {s : Sec} (h : secL.Box w b s) : w.cell? ⟨b, 3, none⟩ = some (.int .u64 s.size) := by have := h.in 3 (by decide); rw [Nat.zero_add] at this; exact this
theorem Sec.c_off {w : World} {b : Nat} {s : Sec} (h : secL.Box w b s) : w.cell? ⟨b, 4, none⟩ = some (.int .u64 s.off) := by have := h.in 4 (by decide); rw [Nat.zero_add] at this; exact this
theorem Sec.c_kind {w : World} {b : Nat} {s : Sec} (h : secL.Box w b s) : w.cell? ⟨b, 5, none⟩ = some (.int .i64 s.kind) := by have := h.in 5 (by decide); rw [Nat.zero_add] at this; exact this
theorem Sec.at0B {w : World} {b : Nat} {s : Sec} (h : secL.Box w b s) : w.cell? ⟨b, 0, none⟩ = some (.string s.name) ∧ w.cell? ⟨b, 1, none⟩ = some (.string s.seg) ∧ w.cell? ⟨b, 2, none⟩ = some (.int .u64 s.addr) ∧ w.cell? ⟨b, 3, none⟩ = some (.int .u64 s.size) ∧ w.cell? ⟨b, 4, none⟩ = some (.int .u64 s.off) ∧ w.cell? ⟨b, 5, none⟩ = some (.int .i64 s.kind) := Sec.at0 h.in
theorem Sec.ext' {s r : Sec} (h0 : s.name = r.name) (h1 : s.seg = r.seg) (h2 : s.addr = r.addr) (h3 : s.size = r.size) (h4 : s.off = r.off) (h5 : s.kind = r.kind) : s = r := by
  cases s; cases r; simp only at h0 h1 h2 h3 h4 h5; subst h0 h1 h2 h3 h4 h5; rfl
instance : DecidableEq Sec := fun s r => decidable_of_iff (s.name = r.name ∧ s.seg = r.seg ∧ s.addr = r.addr ∧ s.size = r.size ∧ s.off = r.off ∧ s.kind = r.kind) ⟨fun h => Sec.ext' h.1 h.2.1 h.2.2.1 h.2.2.2.1 h.2.2.2.2.1 h.2.2.2.2.2, fun h => by rw [h]; exact ⟨rfl, rfl, rfl, rfl, rfl, rfl⟩⟩
theorem Sec.eqv (s r : Sec) : decide (s = r) = (decide (s.name.toList = r.name.toList) && (decide (s.seg.toList = r.seg.toList) && (decide (s.addr = r.addr) && (decide (s.size = r.size) && (decide (s.off = r.off) && (decide (s.kind = r.kind))))))) := by
  have e : s = r ↔ (s.name = r.name ∧ s.seg = r.seg ∧ s.addr = r.addr ∧ s.size = r.size ∧ s.off = r.off ∧ s.kind = r.kind) := ⟨fun h => by rw [h]; exact ⟨rfl, rfl, rfl, rfl, rfl, rfl⟩, fun h => Sec.ext' h.1 h.2.1 h.2.2.1 h.2.2.2.1 h.2.2.2.2.1 h.2.2.2.2.2⟩
  have hname : (s.name.toList = r.name.toList) = (s.name = r.name) := by rw [Lib.toList_data, Lib.toList_data]; exact propext ⟨fun e => ByteArray.ext (Array.toList_inj.1 e), fun e => by rw [e]⟩
  have hseg : (s.seg.toList = r.seg.toList) = (s.seg = r.seg) := by rw [Lib.toList_data, Lib.toList_data]; exact propext ⟨fun e => ByteArray.ext (Array.toList_inj.1 e), fun e => by rw [e]⟩
  simp only [hname, hseg, ← Bool.decide_and]
  exact decide_eq_decide.2 e
set_option maxHeartbeats 2000000 in
theorem Sec.eql (s r : Sec) (W : World) : (binOp .eql 96 (.agg #[.string s.name, .string s.seg, .int .u64 s.addr, .int .u64 s.size, .int .u64 s.off, .int .i64 s.kind]) (.agg #[.string r.name, .string r.seg, .int .u64 r.addr, .int .u64 r.size, .int .u64 r.off, .int .i64 r.kind])).run Tryd.prog W = .ok (.bool (decide (s = r))) W := by
  rw [Sec.eqv]
  go_simp
  (repeat' split) <;> simp [*]
set_option maxHeartbeats 2000000 in
theorem Sec.neq (s r : Sec) (W : World) : (binOp .neq 96 (.agg #[.string s.name, .string s.seg, .int .u64 s.addr, .int .u64 s.size, .int .u64 s.off, .int .i64 s.kind]) (.agg #[.string r.name, .string r.seg, .int .u64 r.addr, .int .u64 r.size, .int .u64 r.off, .int .i64 r.kind])).run Tryd.prog W = .ok (.bool (!decide (s = r))) W := by
  rw [Sec.eqv]
  go_simp
  (repeat' split) <;> simp [*]
end Go.Proofs.YtgjlgamlmmjdpaaDoor
/- load.section. -/
namespace Go.Proofs.YtgjlgamlmmjdpaaDoor
open Go.RowKit
set_option maxRecDepth 100000

/-- A number of eight bytes that stands at a place. -/
def n8 (l : List UInt8) (p : Nat) : Nat := leNum ((l.drop p).take 8)
theorem n8_lt (l : List UInt8) (p : Nat) : n8 l p < 18446744073709551616 := by
  have h := leNum_lt ((l.drop p).take 8)
  have h2 : ((l.drop p).take 8).length ≤ 8 := by rw [List.length_take]; omega
  have h3 : 256 ^ ((l.drop p).take 8).length ≤ 256 ^ 8 := Nat.pow_le_pow_right (by decide) h2
  unfold n8
  omega
/-- A text of sixteen bytes that stands at a place. -/
def tx (l : List UInt8) (p : Nat) : ByteArray := ⟨(cutZ ((l.drop p).take 16)).toArray⟩
/-- A cursor's state at a place. -/
abbrev cAt (l : List UInt8) (p : Nat) : CS := ⟨l, p, false, false⟩
theorem tk (l : List UInt8) (p m q : Nat) (h : q ≤ l.length) (hq : q = p + m) : takeS (cAt l p) m = cAt l q ∧ takeL (cAt l p) m = (l.drop p).take m := by
  subst hq
  have hc : canTake (cAt l p) m = true := canTake_of rfl (by omega) (by dsimp only; omega)
  constructor
  · unfold takeS; rw [hc]; rfl
  · unfold takeL; rw [hc]; rfl
theorem num8 (l : List UInt8) (p q : Nat) (h : q ≤ l.length) (hq : q = p + 8) : numberV (cAt l p) 8 = n8 l p ∧ numberS (cAt l p) 8 = cAt l q := by
  subst hq
  have hc : canTake (cAt l p) 8 = true := canTake_of rfl (by decide) (by dsimp only; omega)
  constructor
  · unfold numberV n8
    rw [show okSize 8 = true from rfl, if_pos rfl]
    unfold takeL numOf
    rw [hc, if_pos rfl]
    rfl
  · unfold numberS
    rw [show okSize 8 = true from rfl, if_pos rfl]
    unfold takeS
    rw [hc]
    rfl
theorem num4q (l : List UInt8) (p q : Nat) (h : q ≤ l.length) (hq : q = p + 4) : numberV (cAt l p) 4 = n4 l p ∧ numberS (cAt l p) 4 = cAt l q := by
  subst hq
  exact num4 l p h
/-- A cursor at a place, and what was changed. -/
structure CAt (w : World) (b : Nat) (l : List UInt8) (p : Nat) : Prop where
  cur : CurB w b (cAt l p)
theorem num4_at (b : Nat) (l : List UInt8) (p q : Nat) (w : World) (h : CurB w b (cAt l p)) (hl : q ≤ l.length) (hq : q = p + 4) :
    Calls Tryd.prog 17 #[.pointer (some ⟨b, 0, none⟩), .int .i64 4] w fun e w' => e = .returned (.int .u64 (n4 l p)) ∧ CurB w' b (cAt l q) ∧ Chg [b] w w' := by
  have := Number_cur b (cAt l p) 4 w h
  rw [(num4q l p q hl hq).1, (num4q l p q hl hq).2] at this
  exact this
theorem num8_at (b : Nat) (l : List UInt8) (p q : Nat) (w : World) (h : CurB w b (cAt l p)) (hl : q ≤ l.length) (hq : q = p + 8) :
    Calls Tryd.prog 17 #[.pointer (some ⟨b, 0, none⟩), .int .i64 8] w fun e w' => e = .returned (.int .u64 (n8 l p)) ∧ CurB w' b (cAt l q) ∧ Chg [b] w w' := by
  have := Number_cur b (cAt l p) 8 w h
  rw [(num8 l p q hl hq).1, (num8 l p q hl hq).2] at this
  exact this
theorem fld_at (b : Nat) (l : List UInt8) (p q : Nat) (w : World) (h : CurB w b (cAt l p)) (hl : q ≤ l.length) (hq : q = p + 16) :
    Calls Tryd.prog 57 #[.pointer (some ⟨b, 0, none⟩), .int .i64 16] w fun e w' => e = .returned (.string (tx l p)) ∧ CurB w' b (cAt l q) ∧ Chg [b] w w' := by
  have := Field_cur b (cAt l p) 16 w h
  rw [show (16 : Int) = ((16 : Nat) : Int) from rfl, (tk l p 16 q hl hq).1, (tk l p 16 q hl hq).2] at this
  exact this
theorem bytes_at (b : Nat) (l : List UInt8) (p m q : Nat) (w : World) (h : CurB w b (cAt l p)) (hl : q ≤ l.length) (hq : q = p + m) :
    Calls Tryd.prog 50 #[.pointer (some ⟨b, 0, none⟩), .int .i64 m] w fun e w' => (∃ v, e = .returned v) ∧ CurB w' b (cAt l q) ∧ Chg [b] w w' := by
  have := Bytes_cur b (cAt l p) m w h
  rw [(tk l p m q hl hq).1] at this
  exact this.mono fun e w' ⟨v, h1, h2, _, h3⟩ => ⟨⟨v, h1⟩, h2, h3⟩
/-- The section that stands at a place. -/
def secAt (l : List UInt8) (p : Nat) : Sec := ⟨tx l p, tx l (p + 16), n8 l (p + 32), n8 l (p + 40), n4 l (p + 48), ((n4 l (p + 64) % 256 : Nat) : Int)⟩
theorem Tryd.tSec : Lay.Ty secL Tryd.prog 96 := Lay.Ty.mk' (by kernel_rfl) (by kernel_rfl)
theorem and255 (a : Nat) (ha : a < 4294967296) : wrap64 (bits .and .u64 (a : Int) 255) = ((a % 256 : Nat) : Int) := by
  have h : bits .and .u64 (a : Int) 255 = ((a % 256 : Nat) : Int) := by
    have := Go.bits_mask .u64 64 (by decide) (fun n h1 h2 => by rw [IntKind.wrap_u64]; omega) 8 (by decide) (a : Int) (by omega) (by omega)
    rw [Int.natCast_emod]
    simpa using this
  rw [h]
  unfold wrap64
  omega
theorem Lay.with_calls {P : Program} {f : Nat} {args : Array Value} {R : Ending → World → Prop} {W : World} (S : World → Prop) (hS : S W) (k : ∀ W', S W' → Calls P f args W' R) : Calls P f args W R := k W hS
set_option maxHeartbeats 4000000 in
theorem section_any (b : Nat) (l : List UInt8) (p : Nat) (w : World) (h : CurB w b (cAt l p)) (hl : p + 80 ≤ l.length) :
    Calls Tryd.prog 58 #[.pointer (some ⟨b, 0, none⟩)] w fun e w' => e = .returned (secL.val (secAt l p)) ∧ CurB w' b (cAt l (p + 80)) ∧ Chg [b] w w' := by
  have hbw := h.lt
  have H := Lib.hid h
  have Hl := Lib.hid hl
  clear h hl
  go_enter Tryd.func58, Tryd.ntmps58
  go_wp2_with ((with_reducible refine Lay.alL Tryd.tSec ?_); intro Wa ba eba cba xba; replace eba := Lib.hid eba; replace cba := Lib.hid cba; replace xba := Lib.hid xba; refine Hid.out ?_)
  refine Lib.hid ?_
  have CU0 := Lib.hid (H.out.frame cba.out)
  have C0 : Hid (Chg [b] Wa Wa) := Lib.hid (Chg.refl _ _)
  have hba : ba ≠ b := by rw [eba.out]; omega
  have hbl : b < Wa.heap.size := CU0.out.lt
  have Hba := Lib.hid hba
  have Hbl := Lib.hid hbl
  clear hba hbl
  go_wp2_with fail
  refine (fld_at b l (p) (p + 16) _ CU0.out (by have := Hl.out; omega) (by omega)).mono ?_
  rintro e W1 ⟨rfl, hcu, hch⟩
  have C1 := Lib.hid (C0.out.same hch)
  have CU1 := Lib.hid hcu
  clear hcu
  clear hch
  go_wp2_with fail
  refine (fld_at b l (p + 16) (p + 32) _ CU1.out (by have := Hl.out; omega) (by omega)).mono ?_
  rintro e W2 ⟨rfl, hcu, hch⟩
  have C2 := Lib.hid (C1.out.same hch)
  have CU2 := Lib.hid hcu
  clear hcu
  clear hch
  go_wp2_with fail
  refine (num8_at b l (p + 32) (p + 40) _ CU2.out (by have := Hl.out; omega) (by omega)).mono ?_
  rintro e W3 ⟨rfl, hcu, hch⟩
  have C3 := Lib.hid (C2.out.same hch)
  have CU3 := Lib.hid hcu
  clear hcu
  clear hch
  go_wp2_with fail
  refine (num8_at b l (p + 40) (p + 48) _ CU3.out (by have := Hl.out; omega) (by omega)).mono ?_
  rintro e W4 ⟨rfl, hcu, hch⟩
  have C4 := Lib.hid (C3.out.same hch)
  have CU4 := Lib.hid hcu
  clear hcu
  clear hch
  go_wp2_with fail
  refine (num4_at b l (p + 48) (p + 52) _ CU4.out (by have := Hl.out; omega) (by omega)).mono ?_
  rintro e W5 ⟨rfl, hcu, hch⟩
  have C5 := Lib.hid (C4.out.same hch)
  have CU5 := Lib.hid hcu
  clear hcu
  clear hch
  go_wp2_with ((with_reducible refine Lay.alL Tryd.tSec ?_); intro Wb bb ebb cbb xbb; replace ebb := Lib.hid ebb; replace cbb := Lib.hid cbb; replace xbb := Lib.hid xbb; refine Hid.out ?_)
  refine Lib.hid ?_
  go_wp2_with ((with_reducible refine Lay.stL Tryd.tSec ({ secAt l p with kind := 0 } : Sec) (xbb.out) ?_ ?_ ?_); exact rfl; exact rfl; intro V6 cV6 xV6; replace cV6 := Lib.hid cV6; replace xV6 := Lib.hid xV6; refine Hid.out ?_)
  refine Lib.hid ?_
  have hs5 := C5.out.size
  have hbb : bb ≠ b ∧ Wa.heap.size ≤ bb ∧ bb ≠ ba := by rw [ebb.out]; have h1 := Hbl.out; have h2 := xba.out.lt; omega
  have hbb2 : b < bb := by have := Hbl.out; omega
  have D6 : Hid (Chg [b] Wa V6) := Lib.hid ((C5.out.then cbb.out).new cV6.out hbb.2.1)
  have C6 : Hid (Chg [b] V6 V6) := Lib.hid (Chg.refl _ _)
  have CU6 := Lib.hid ((CU5.out.frame cbb.out).far cV6.out (by simp; exact hbb2))
  have Hbb := Lib.hid hbb
  have Hbb2 := Lib.hid hbb2
  clear hbb hbb2
  clear hs5
  go_wp2_with fail
  refine (bytes_at b l (p + 52) 12 (p + 64) _ CU6.out (by have := Hl.out; omega) (by omega)).mono ?_
  rintro e W7 ⟨⟨v7, rfl⟩, hcu, hch⟩
  have C7 := Lib.hid (C6.out.same hch)
  have CU7 := Lib.hid hcu
  clear hcu
  clear hch
  go_wp2_with fail
  refine (num4_at b l (p + 64) (p + 68) _ CU7.out (by have := Hl.out; omega) (by omega)).mono ?_
  rintro e W8 ⟨rfl, hcu, hch⟩
  have C8 := Lib.hid (C7.out.same hch)
  have CU8 := Lib.hid hcu
  clear hcu
  clear hch
  have X8 := Lib.hid (xV6.out.frameS C8.out (by simp; exact Hbb.out.1))
  have z0 := X8.out.frozen 5
  have z1 := Sec.c_kind X8.out
  have z2 := and255 (n4 l (p + 64)) (n4_lt _ _)
  go_wp2_with fail
  rw [z2]
  refine Lay.with_calls (fun W => secL.Box W bb (secAt l p) ∧ CurB W b (cAt l (p + 68)) ∧ Chg [bb] W8 W) ⟨Sec.set_kind X8.out _, CU8.out.far (S := [bb]) ((Chg.refl _ _).setCell _ _ (.inl (by simp))) (by simp; exact Hbb2.out), (Chg.refl _ _).setCell _ _ (.inl (by simp))⟩ (fun W9 hW => ?_)
  have X9 := Lib.hid hW.1
  have CU9 := Lib.hid hW.2.1
  have C9 : Hid (Chg [b] W9 W9) := Lib.hid (Chg.refl _ _)
  have D9 : Hid (Chg [b] Wa W9) := Lib.hid ((D6.out.same C8.out).new hW.2.2 Hbb.out.2.1)
  clear hW z0 z1 z2
  refine (bytes_at b l (p + 68) 12 (p + 80) _ CU9.out (by have := Hl.out; omega) (by omega)).mono ?_
  rintro e WT ⟨⟨vT, rfl⟩, hcu, hch⟩
  have XT := Lib.hid (X9.out.frameS hch (by simp; exact Hbb.out.1))
  have DT := Lib.hid (D9.out.same hch)
  have XR := Lib.hid (xba.out.frameS DT.out (by simp; exact Hba.out))
  have CUT := Lib.hid hcu
  clear hcu
  clear hch
  go_wp2_with ((with_reducible refine Lay.ldL Tryd.tSec (secAt l p) (XT.out.in) ?_ ?_); exact rfl; refine Hid.out ?_)
  refine Lib.hid ?_
  go_wp2_with ((with_reducible refine Lay.stL Tryd.tSec (secAt l p) (XR.out) ?_ ?_ ?_); exact rfl; exact rfl; intro WU cWU xWU; replace cWU := Lib.hid cWU; replace xWU := Lib.hid xWU; refine Hid.out ?_)
  refine Lib.hid ?_
  go_wp2
  refine Lay.ret1 Tryd.tSec rfl xWU.out rfl rfl ?_
  exact ⟨rfl, CUT.out.far cWU.out (by simp; rw [eba.out]; exact H.out.lt), ((cba.out.add.same DT.out).new cWU.out (by rw [eba.out]; exact Nat.le_refl _))⟩
end Go.Proofs.YtgjlgamlmmjdpaaDoor
/- load.Segment. -/
namespace Go.Proofs.YtgjlgamlmmjdpaaDoor
open Go.RowKit
set_option maxRecDepth 100000

/-- Why a command is not opened (0: it is). -/
def opE (l : List UInt8) : Int := if l.length < 8 then 3 else if (l.length : Int) < leastF (n4 l 0) then 3 else 0
theorem open_bad (l : List UInt8) (h : ¬ opE l = 0) (hl : l.length ≤ 140737488355328) (v : Value) (w : World) (hg : Env w) (rd : byteL.Rd w v l) :
    Calls Tryd.prog 16 #[v] w fun e w' => ∃ k : Nat, k < 4294967296 ∧ e = .returned (.tuple #[.pointer none, .int .u32 k, .int .i64 3]) ∧ Chg [] w w' := by
  refine (open_any l hl v w hg rd).mono ?_
  rintro e W ⟨hc, hp⟩
  unfold opE at h
  by_cases h8 : l.length < 8
  · rw [if_pos h8] at hp
    exact ⟨0, by decide, hp, hc⟩
  · rw [if_neg h8] at hp h
    by_cases h9 : (l.length : Int) < leastF (n4 l 0)
    · rw [if_pos h9] at hp
      exact ⟨n4 l 0, n4_lt _ _, hp, hc⟩
    · rw [if_neg h9] at h
      exact absurd rfl h
theorem open_ok (l : List UInt8) (h : opE l = 0) (hl : l.length ≤ 140737488355328) (v : Value) (w : World) (hg : Env w) (rd : byteL.Rd w v l) :
    Calls Tryd.prog 16 #[v] w fun e w' => ∃ c, e = .returned (.tuple #[.pointer (some ⟨c, 0, none⟩), .int .u32 (n4 l 0), .int .i64 0]) ∧ w.heap.size ≤ c ∧ CurB w' c (cAt l 8) ∧ Chg [] w w' := by
  refine (open_any l hl v w hg rd).mono ?_
  rintro e W ⟨hc, hp⟩
  unfold opE at h
  by_cases h8 : l.length < 8
  · rw [if_pos h8] at h; exact absurd h (by decide)
  · rw [if_neg h8] at hp h
    by_cases h9 : (l.length : Int) < leastF (n4 l 0)
    · rw [if_pos h9] at h; exact absurd h (by decide)
    · rw [if_neg h9] at hp
      obtain ⟨c, h1, h2, h3⟩ := hp
      exact ⟨c, h1, h2, h3, hc⟩
theorem opE_len {l : List UInt8} (h : opE l = 0) : 8 ≤ l.length ∧ leastF (n4 l 0) ≤ l.length := by
  unfold opE at h
  by_cases h8 : l.length < 8
  · rw [if_pos h8] at h; exact absurd h (by decide)
  · rw [if_neg h8] at h
    by_cases h9 : (l.length : Int) < leastF (n4 l 0)
    · rw [if_pos h9] at h; exact absurd h (by decide)
    · omega
/-- The first k sections of a segment's command. -/
def secsN (l : List UInt8) (k : Nat) : List Sec := (List.range k).map fun i => secAt l (72 + 80 * i)
theorem secsN_len (l : List UInt8) (k : Nat) : (secsN l k).length = k := by simp [secsN]
theorem secsN_succ (l : List UInt8) (k : Nat) : secsN l (k + 1) = secsN l k ++ [secAt l (72 + 80 * k)] := by simp [secsN, List.range_succ]
/-- Is all fine with the first k sections, and with the protection? -/
def sgFine (l : List UInt8) (k : Nat) : Bool := decide (n4 l 60 ≤ 7) && (secsN l k).all fun x => decide (x.seg = tx l 8)
theorem sgFine_succ (l : List UInt8) (k : Nat) : sgFine l (k + 1) = (sgFine l k && decide ((secAt l (72 + 80 * k)).seg = tx l 8)) := by
  unfold sgFine
  rw [secsN_succ, List.all_append]
  simp [Bool.and_assoc]
/-- Why a segment's command is none (0: it is one). -/
def segE (l : List UInt8) : Int :=
  if ¬ opE l = 0 then 3 else if n4 l 0 ≠ 25 then 7 else if l.length < 72 + 80 * n4 l 64 then 3 else if sgFine l (n4 l 64) = false then 9 else if 64 < n4 l 64 then 11 else 0
/-- A segment's own fields. -/
def segX (l : List UInt8) (s : SlV) : Seg := ⟨tx l 8, n8 l 24, n8 l 32, n8 l 40, n8 l 48, n4 l 60, s⟩
theorem Tryd.tSg : Lay.Ty segL Tryd.prog 63 := Lay.Ty.mk' (by kernel_rfl) (by kernel_rfl)
theorem Tryd.infoSec : Lay.Info Tryd.prog 61 96 secL.n 64 := Lay.Info.mk' (z := .agg (secL.f secL.d).toArray) (by kernel_rfl) (by kernel_rfl) rfl
theorem sec_built (x : Sec) (w : World) : (Instr.buildSlice 61 1 #[(0, secL.val x)]).run Tryd.prog w = .ok (.slice (some ⟨w.heap.size, 0, none⟩) 1 1) (w.alloc (.cells (secL.f x).toArray 96)) := by
  show (Instr.buildSlice 61 1 #[(0, .agg #[.string x.name, .string x.seg, .int .u64 x.addr, .int .u64 x.size, .int .u64 x.off, .int .i64 x.kind])]).run Tryd.prog w = .ok (.slice (some ⟨w.heap.size, 0, none⟩) 1 1) (w.alloc (.cells #[.string x.name, .string x.seg, .int .u64 x.addr, .int .u64 x.size, .int .u64 x.off, .int .i64 x.kind] 96))
  go_simp
set_option maxHeartbeats 4000000 in
theorem Segment_bad (l : List UInt8) (h : ¬ opE l = 0) (hl : l.length ≤ 140737488355328) (v : Value) (w : World) (hg : Env w) (rd : byteL.Rd w v l) :
    Calls Tryd.prog 41 #[v] w fun e w' => e = .returned (.tuple #[segL.val segL.d, .int .i64 3]) ∧ Chg [] w w' := by
  have H := Lib.hid h
  have Hl := Lib.hid hl
  have Hg := Lib.hid hg
  have Rd := Lib.hid rd
  clear h hl hg rd
  go_enter Tryd.func41, Tryd.ntmps41
  go_wp2_with ((with_reducible refine Lay.alL Tryd.tSg ?_); intro Wa ba eba cba xba; replace eba := Lib.hid eba; replace cba := Lib.hid cba; replace xba := Lib.hid xba; refine Hid.out ?_)
  refine Lib.hid ?_
  go_wp2_with fail
  refine (open_bad l H.out Hl.out v _ (Hg.out.frame cba.out (by simp)) (Rd.out.frame cba.out)).mono ?_
  rintro e W1 ⟨k, hk, rfl, hch⟩
  have X1 := Lib.hid (xba.out.frame hch)
  have C1 := Lib.hid (cba.out.then hch)
  clear hch
  go_wp2_with ((with_reducible refine Lay.stL Tryd.tSg (segL.d) (X1.out) ?_ ?_ ?_); exact rfl; exact rfl; intro W2 cW2 xW2; replace cW2 := Lib.hid cW2; replace xW2 := Lib.hid xW2; refine Hid.out ?_)
  refine Lib.hid ?_
  go_wp2
  refine Lay.ret2 Tryd.tSg rfl xW2.out rfl rfl ?_
  exact ⟨rfl, C1.out.new cW2.out (by rw [eba.out]; exact Nat.le_refl _)⟩
end Go.Proofs.YtgjlgamlmmjdpaaDoor
