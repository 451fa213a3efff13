/- Lemmas, laid together: part 7 of 46. Conditions: none but each lemma's own. -/
import Derived.Test.YtaipelkegemoeaaGreatDoorJ2
import Derived.Test.YtaipelkegemoeaaGreatDoorProg
import Derived.Lib.Strings
import Derived.Test.YtaipelkegemoeaaGreatDoorJ6
import Derived.Test.YtaipelkegemoeaaGreatDoorJ3
/- Records: sections (printed by mkrecs.sh). -/
namespace Go.Proofs.YtaipelkegemoeaaGreatDoor
open Go.RowKit
set_option maxRecDepth 100000

/-- A record Sec. -/
structure Sec where
  name : ByteArray
  seg : ByteArray
  addr : Int
  size : Int
  off : Int
  kind : Int
def Sec.cells (s : Sec) : List Value := [.string s.name, .string s.seg, .int .u64 s.addr, .int .u64 s.size, .int .u64 s.off, .int .i64 s.kind]
abbrev Sec.v (s : Sec) : Value := .agg #[.string s.name, .string s.seg, .int .u64 s.addr, .int .u64 s.size, .int .u64 s.off, .int .i64 s.kind]
/-- Its numbers are of their kinds. -/
def Sec.wf (s : Sec) : Prop := (Lit.int .u64 s.addr).wf = true ∧ (Lit.int .u64 s.size).wf = true ∧ (Lit.int .u64 s.off).wf = true ∧ (Lit.int .i64 s.kind).wf = true
def Sec.zero : Sec := ⟨⟨#[]⟩, ⟨#[]⟩, 0, 0, 0, 0⟩
def secL : Lay Sec := ⟨6, Sec.cells, Sec.zero, fun _ => rfl, by decide, fun x u hu => by
  simp only [Sec.cells, List.mem_cons, List.not_mem_nil, or_false] at hu
  rcases hu with rfl | rfl | rfl | rfl | rfl | rfl <;> rfl⟩
theorem Sec.at {w : World} {b o : Nat} {s : Sec} (h : secL.In w b o s) : w.cell? ⟨b, o, none⟩ = some (.string s.name) ∧ w.cell? ⟨b, o + 1, none⟩ = some (.string s.seg) ∧ w.cell? ⟨b, o + 2, none⟩ = some (.int .u64 s.addr) ∧ w.cell? ⟨b, o + 3, none⟩ = some (.int .u64 s.size) ∧ w.cell? ⟨b, o + 4, none⟩ = some (.int .u64 s.off) ∧ w.cell? ⟨b, o + 5, none⟩ = some (.int .i64 s.kind) :=
  ⟨h 0 (by decide), h 1 (by decide), h 2 (by decide), h 3 (by decide), h 4 (by decide), h 5 (by decide)⟩
/-- A record in a block of its own: made, written, a field written. -/
theorem Sec.box (w : World) (s : Sec) (T : TypeId) : secL.Box (w.alloc (.cells #[.string s.name, .string s.seg, .int .u64 s.addr, .int .u64 s.size, .int .u64 s.off, .int .i64 s.kind] T)) w.heap.size s := Lay.Box.of_alloc (L := secL) w s T
theorem Sec.set_name {w : World} {g : Nat} {s : Sec} (h : secL.Box w g s) (x : ByteArray) : secL.Box (w.setCell ⟨g, 0, none⟩ (.string x)) g { s with name := x } := Lay.Box.set h 0 _ _ rfl
theorem Sec.c_name {w : World} {b : Nat} {s : Sec} (h : secL.Box w b s) : w.cell? ⟨b, 0, none⟩ = some (.string s.name) := by have := h.in 0 (by decide); rw [Nat.zero_add] at this; exact this
theorem Sec.c_seg {w : World} {b : Nat} {s : Sec} (h : secL.Box w b s) : w.cell? ⟨b, 1, none⟩ = some (.string s.seg) := by have := h.in 1 (by decide); rw [Nat.zero_add] at this; exact this
theorem Sec.c_addr {w : World} {b : Nat} {s : Sec} (h : secL.Box w b s) : w.cell? ⟨b, 2, none⟩ = some (.int .u64 s.addr) := by have := h.in 2 (by decide); rw [Nat.zero_add] at this; exact this
theorem Sec.c_size {w : World} {b : Nat} {s : Sec} (h : secL.Box w b s) : w.cell? ⟨b, 3, none⟩ = some (.int .u64 s.size) := by have := h.in 3 (by decide); rw [Nat.zero_add] at this; exact this
theorem Sec.c_off {w : World} {b : Nat} {s : Sec} (h : secL.Box w b s) : w.cell? ⟨b, 4, none⟩ = some (.int .u64 s.off) := by have := h.in 4 (by decide); rw [Nat.zero_add] at this; exact this
theorem Sec.c_kind {w : World} {b : Nat} {s : Sec} (h : secL.Box w b s) : w.cell? ⟨b, 5, none⟩ = some (.int .i64 s.kind) := by have := h.in 5 (by decide); rw [Nat.zero_add] at this; exact this
theorem Sec.ext' {s r : Sec} (h0 : s.name = r.name) (h1 : s.seg = r.seg) (h2 : s.addr = r.addr) (h3 : s.size = r.size) (h4 : s.off = r.off) (h5 : s.kind = r.kind) : s = r := by
  cases s; cases r; simp only at h0 h1 h2 h3 h4 h5; subst h0 h1 h2 h3 h4 h5; rfl
instance : DecidableEq Sec := fun s r => decidable_of_iff (s.name = r.name ∧ s.seg = r.seg ∧ s.addr = r.addr ∧ s.size = r.size ∧ s.off = r.off ∧ s.kind = r.kind) ⟨fun h => Sec.ext' h.1 h.2.1 h.2.2.1 h.2.2.2.1 h.2.2.2.2.1 h.2.2.2.2.2, fun h => by rw [h]; exact ⟨rfl, rfl, rfl, rfl, rfl, rfl⟩⟩
theorem Sec.eqv (s r : Sec) : decide (s = r) = (decide (s.name.toList = r.name.toList) && (decide (s.seg.toList = r.seg.toList) && (decide (s.addr = r.addr) && (decide (s.size = r.size) && (decide (s.off = r.off) && (decide (s.kind = r.kind))))))) := by
  have e : s = r ↔ (s.name = r.name ∧ s.seg = r.seg ∧ s.addr = r.addr ∧ s.size = r.size ∧ s.off = r.off ∧ s.kind = r.kind) := ⟨fun h => by rw [h]; exact ⟨rfl, rfl, rfl, rfl, rfl, rfl⟩, fun h => Sec.ext' h.1 h.2.1 h.2.2.1 h.2.2.2.1 h.2.2.2.2.1 h.2.2.2.2.2⟩
  have hname : (s.name.toList = r.name.toList) = (s.name = r.name) := by rw [Lib.toList_data, Lib.toList_data]; exact propext ⟨fun e => ByteArray.ext (Array.toList_inj.1 e), fun e => by rw [e]⟩
  have hseg : (s.seg.toList = r.seg.toList) = (s.seg = r.seg) := by rw [Lib.toList_data, Lib.toList_data]; exact propext ⟨fun e => ByteArray.ext (Array.toList_inj.1 e), fun e => by rw [e]⟩
  simp only [hname, hseg, ← Bool.decide_and]
  exact decide_eq_decide.2 e
set_option maxHeartbeats 2000000 in
theorem Sec.eql (s r : Sec) (W : World) : (binOp .eql 123 (.agg #[.string s.name, .string s.seg, .int .u64 s.addr, .int .u64 s.size, .int .u64 s.off, .int .i64 s.kind]) (.agg #[.string r.name, .string r.seg, .int .u64 r.addr, .int .u64 r.size, .int .u64 r.off, .int .i64 r.kind])).run Tryz.prog W = .ok (.bool (decide (s = r))) W := by
  rw [Sec.eqv]
  go_simp
  (repeat' split) <;> simp [*]
set_option maxHeartbeats 2000000 in
theorem Sec.neq (s r : Sec) (W : World) : (binOp .neq 123 (.agg #[.string s.name, .string s.seg, .int .u64 s.addr, .int .u64 s.size, .int .u64 s.off, .int .i64 s.kind]) (.agg #[.string r.name, .string r.seg, .int .u64 r.addr, .int .u64 r.size, .int .u64 r.off, .int .i64 r.kind])).run Tryz.prog W = .ok (.bool (!decide (s = r))) W := by
  rw [Sec.eqv]
  go_simp
  (repeat' split) <;> simp [*]
end Go.Proofs.YtaipelkegemoeaaGreatDoor
/- load.section. -/
namespace Go.Proofs.YtaipelkegemoeaaGreatDoor
open Go.RowKit
set_option maxRecDepth 100000

/-- A number of eight bytes that stands at a place. -/
def n8 (l : List UInt8) (p : Nat) : Nat := leNum ((l.drop p).take 8)
theorem n8_lt (l : List UInt8) (p : Nat) : n8 l p < 18446744073709551616 := by
  have h := leNum_lt ((l.drop p).take 8)
  have h2 : ((l.drop p).take 8).length ≤ 8 := by rw [List.length_take]; omega
  have h3 : 256 ^ ((l.drop p).take 8).length ≤ 256 ^ 8 := Nat.pow_le_pow_right (by decide) h2
  unfold n8
  omega
/-- A text of sixteen bytes that stands at a place. -/
def tx (l : List UInt8) (p : Nat) : ByteArray := ⟨(cutZ ((l.drop p).take 16)).toArray⟩
/-- A cursor's state at a place. -/
abbrev cAt (l : List UInt8) (p : Nat) : CS := ⟨l, p, false, false⟩
theorem tk (l : List UInt8) (p m q : Nat) (h : q ≤ l.length) (hq : q = p + m) : takeS (cAt l p) m = cAt l q ∧ takeL (cAt l p) m = (l.drop p).take m := by
  subst hq
  have hc : canTake (cAt l p) m = true := canTake_of rfl (by omega) (by dsimp only; omega)
  constructor
  · unfold takeS; rw [hc]; rfl
  · unfold takeL; rw [hc]; rfl
/-- A cursor at a place, and what was changed. -/
structure CAt (w : World) (b : Nat) (l : List UInt8) (p : Nat) : Prop where
  cur : CurB w b (cAt l p)
/-- The section that stands at a place. -/
def secAt (l : List UInt8) (p : Nat) : Sec := ⟨tx l p, tx l (p + 16), n8 l (p + 32), n8 l (p + 40), n4 l (p + 48), ((n4 l (p + 64) % 256 : Nat) : Int)⟩
theorem Tryz.tSec : Lay.Ty secL Tryz.prog 123 := Lay.Ty.mk' (by kernel_rfl) (by kernel_rfl)
end Go.Proofs.YtaipelkegemoeaaGreatDoor
/- load.Segment. -/
namespace Go.Proofs.YtaipelkegemoeaaGreatDoor
open Go.RowKit
set_option maxRecDepth 100000

/-- Why a command is not opened (0: it is). -/
def opE (l : List UInt8) : Int := if l.length < 8 then 3 else if (l.length : Int) < leastF (n4 l 0) then 3 else 0
theorem opE_len {l : List UInt8} (h : opE l = 0) : 8 ≤ l.length ∧ leastF (n4 l 0) ≤ l.length := by
  unfold opE at h
  by_cases h8 : l.length < 8
  · rw [if_pos h8] at h; exact absurd h (by decide)
  · rw [if_neg h8] at h
    by_cases h9 : (l.length : Int) < leastF (n4 l 0)
    · rw [if_pos h9] at h; exact absurd h (by decide)
    · omega
/-- The first k sections of a segment's command. -/
def secsN (l : List UInt8) (k : Nat) : List Sec := (List.range k).map fun i => secAt l (72 + 80 * i)
theorem secsN_len (l : List UInt8) (k : Nat) : (secsN l k).length = k := by simp [secsN]
theorem secsN_succ (l : List UInt8) (k : Nat) : secsN l (k + 1) = secsN l k ++ [secAt l (72 + 80 * k)] := by simp [secsN, List.range_succ]
/-- Is all fine with the first k sections, and with the protection? -/
def sgFine (l : List UInt8) (k : Nat) : Bool := decide (n4 l 60 ≤ 7) && (secsN l k).all fun x => decide (x.seg = tx l 8)
theorem sgFine_succ (l : List UInt8) (k : Nat) : sgFine l (k + 1) = (sgFine l k && decide ((secAt l (72 + 80 * k)).seg = tx l 8)) := by
  unfold sgFine
  rw [secsN_succ, List.all_append]
  simp [Bool.and_assoc]
/-- Why a segment's command is none (0: it is one). -/
def segE (l : List UInt8) : Int :=
  if ¬ opE l = 0 then 3 else if n4 l 0 ≠ 25 then 7 else if l.length < 72 + 80 * n4 l 64 then 3 else if sgFine l (n4 l 64) = false then 9 else if 64 < n4 l 64 then 11 else 0
/-- A segment's own fields. -/
def segX (l : List UInt8) (s : SlV) : Seg := ⟨tx l 8, n8 l 24, n8 l 32, n8 l 40, n8 l 48, n4 l 60, s⟩
theorem Tryz.tSg : Lay.Ty segL Tryz.prog 64 := Lay.Ty.mk' (by kernel_rfl) (by kernel_rfl)
theorem Tryz.infoSec : Lay.Info Tryz.prog 62 123 secL.n 64 := Lay.Info.mk' (z := .agg (secL.f secL.d).toArray) (by kernel_rfl) (by kernel_rfl) rfl
theorem sec_built (x : Sec) (w : World) : (Instr.buildSlice 62 1 #[(0, secL.val x)]).run Tryz.prog w = .ok (.slice (some ⟨w.heap.size, 0, none⟩) 1 1) (w.alloc (.cells (secL.f x).toArray 123)) := by
  show (Instr.buildSlice 62 1 #[(0, .agg #[.string x.name, .string x.seg, .int .u64 x.addr, .int .u64 x.size, .int .u64 x.off, .int .i64 x.kind])]).run Tryz.prog w = .ok (.slice (some ⟨w.heap.size, 0, none⟩) 1 1) (w.alloc (.cells #[.string x.name, .string x.seg, .int .u64 x.addr, .int .u64 x.size, .int .u64 x.off, .int .i64 x.kind] 123))
  go_simp
end Go.Proofs.YtaipelkegemoeaaGreatDoor
/- load.Segment, where the command is opened. -/
namespace Go.Proofs.YtaipelkegemoeaaGreatDoor
open Go.RowKit
set_option maxRecDepth 100000

end Go.Proofs.YtaipelkegemoeaaGreatDoor
/- load.Segment, the whole. -/
namespace Go.Proofs.YtaipelkegemoeaaGreatDoor
open Go.RowKit
set_option maxRecDepth 100000

/-- The state of a segment's loop. -/
structure SgR (w0 : World) (B ba c bs : Nat) (l : List UInt8) (x : Seg) (p : Nat) (ks : List Sec) (wr : World) : Prop where
  cur : CurB wr c (cAt l p)
  bx : segL.Box wr bs x
  bf : secL.Buf 123 wr B (.slice x.secs.a x.secs.n x.secs.cap) ks
  ra : segL.Box wr ba segL.d
  sz : B ≤ wr.heap.size
  chg : Chg [] w0 wr
theorem SgR.step {w0 : World} {B ba c bs : Nat} {l : List UInt8} {x : Seg} {p q : Nat} {ks : List Sec} {w w' : World} (h : SgR w0 B ba c bs l x p ks w) (hc : CurB w' c (cAt l q)) (k : Chg [c] w w') (h1 : ba < c) (h2 : c < bs) (h3 : bs < B) (h0 : w0.heap.size ≤ ba) : SgR w0 B ba c bs l x q ks w' :=
  ⟨hc, h.bx.frameS k (by simp; omega), h.bf.frame k (fun b hb hm => by have := (h.bf.lt b hb).1; simp at hm; omega), h.ra.frameS k (by simp; omega), Nat.le_trans h.sz k.size, h.chg.new k (by omega)⟩
theorem SgR.pure {w0 : World} {B ba c bs : Nat} {l : List UInt8} {x : Seg} {p : Nat} {ks : List Sec} {w w' : World} (h : SgR w0 B ba c bs l x p ks w) (k : Chg [] w w') : SgR w0 B ba c bs l x p ks w' :=
  ⟨h.cur.frame k, h.bx.frame k, h.bf.pure k, h.ra.frame k, Nat.le_trans h.sz k.size, h.chg.then k⟩
theorem SgR.far {w0 : World} {B ba c bs g : Nat} {l : List UInt8} {x : Seg} {p : Nat} {ks : List Sec} {w w' : World} (h : SgR w0 B ba c bs l x p ks w) (k : Chg [g] w w') (hg : w.heap.size ≤ g) (h1 : ba < c) (h2 : c < bs) (h3 : bs < B) (h0 : w0.heap.size ≤ ba) : SgR w0 B ba c bs l x p ks w' :=
  have hz := h.sz
  ⟨h.cur.far k (by simp; omega), h.bx.frameS k (by simp; omega), h.bf.frame k (fun b hb hm => by have := (h.bf.lt b hb).2; simp at hm; omega), h.ra.frameS k (by simp; omega), Nat.le_trans h.sz k.size, h.chg.new k (by omega)⟩
/-- The state where a row of sections has grown, ahead of its being laid. -/
structure SgG (w0 : World) (B ba c bs : Nat) (l : List UInt8) (x : Seg) (p : Nat) (wr : World) : Prop where
  cur : CurB wr c (cAt l p)
  bx : segL.Box wr bs x
  ra : segL.Box wr ba segL.d
  sz : B ≤ wr.heap.size
  chg : Chg [] w0 wr
theorem SgR.grew {w0 : World} {B ba c bs : Nat} {l : List UInt8} {x : Seg} {p : Nat} {ks : List Sec} {w w' : World} (h : SgR w0 B ba c bs l x p ks w) (g : w.grownBy w' (Value.slice x.secs.a x.secs.n x.secs.cap).ownBlock) (h1 : ba < c) (h2 : c < bs) (h3 : bs < B) (h0 : w0.heap.size ≤ ba) : SgG w0 B ba c bs l x p w' := by
  have k := Lay.chg_grown g
  have hb : ∀ i ∈ (Value.slice x.secs.a x.secs.n x.secs.cap).ownBlock.toList, B ≤ i := fun i hi => (h.bf.lt i (by simpa using hi)).1
  exact ⟨h.cur.far k (fun i hi => by have := hb i hi; omega), h.bx.frameS k (fun hm => by have := hb _ hm; omega), h.ra.frameS k (fun hm => by have := hb _ hm; omega), Nat.le_trans h.sz k.size, h.chg.trans k (fun i hi hw => by have := hb i hi; omega)⟩
theorem SgR.app {w0 : World} {B ba c bs : Nat} {l : List UInt8} {sv : SlV} {p : Nat} {ks : List Sec} {w : World} {a : Option Addr} {n cap : Nat} (h : SgG w0 B ba c bs l (segX l sv) p w) (hv : secL.Buf 123 w B (.slice a n cap) ks) (h1 : ba < c) (h2 : c < bs) (h3 : bs < B) (h0 : w0.heap.size ≤ ba) : SgR w0 B ba c bs l (segX l ⟨a, n, cap⟩) p ks (w.setCell ⟨bs, 6, none⟩ (.slice a n cap)) := by
  have k : Chg [bs] w (w.setCell ⟨bs, 6, none⟩ (.slice a n cap)) := (Chg.refl _ _).setCell _ _ (.inl (by simp))
  exact ⟨h.cur.far k (by simp; omega), Seg.set_secs h.bx ⟨a, n, cap⟩, hv.frame k (fun i hi hm => by have := (hv.lt i hi).1; simp at hm; omega), h.ra.frameS k (by simp; omega), Nat.le_trans h.sz k.size, h.chg.new k (by omega)⟩
theorem str_beq (a b : ByteArray) : (a.toList == b.toList) = decide (a = b) := by
  rw [Lib.toList_data, Lib.toList_data]
  by_cases h : a = b
  · subst h; simp
  · rw [decide_eq_false h, beq_eq_false_iff_ne]
    exact fun e => h (ByteArray.ext (Array.toList_inj.1 e))
end Go.Proofs.YtaipelkegemoeaaGreatDoor
/- load.Name. -/
namespace Go.Proofs.YtaipelkegemoeaaGreatDoor
open Go.RowKit
set_option maxRecDepth 100000

/-- Does a command bear a name? -/
def namedC (c : Int) : Bool := decide (c = 13 ∨ c = 12 ∨ c = 2147483672 ∨ c = 2147483679 ∨ c = 2147483683)
/-- Where a command's name ends, from its beginning on. -/
def nmI (l : List UInt8) : Int := Lib.indexByte (l.drop (n4 l 8)) 0
def nameE (l : List UInt8) : Int := if ¬ opE l = 0 then 3 else if namedC (n4 l 0) = false then 7 else if l.length < n4 l 8 then 10 else if 0 < nmI l ∧ nmI l ≤ 255 then 0 else 10
def nameV (l : List UInt8) : ByteArray := if nameE l = 0 then ⟨((l.drop (n4 l 8)).take (nmI l).toNat).toArray⟩ else ⟨#[]⟩
theorem namedC_or {c : Int} (h : namedC c = true) : c = 13 ∨ c = 12 ∨ c = 2147483672 ∨ c = 2147483679 ∨ c = 2147483683 := of_decide_eq_true h
theorem named_24 {c : Int} (h : namedC c = true) : leastF c = 24 := by
  rcases namedC_or h with rfl | rfl | rfl | rfl | rfl <;> decide
end Go.Proofs.YtaipelkegemoeaaGreatDoor
/- Records: spans (printed by mkrecs4.sh). -/
namespace Go.Proofs.YtaipelkegemoeaaGreatDoor
open Go.RowKit
set_option maxRecDepth 100000

/-- A record Spn. -/
structure Spn where
  off : Int
  size : Int
def Spn.cells (s : Spn) : List Value := [.int .u64 s.off, .int .u64 s.size]
abbrev Spn.v (s : Spn) : Value := .agg #[.int .u64 s.off, .int .u64 s.size]
/-- Its numbers are of their kinds. -/
def Spn.wf (s : Spn) : Prop := (Lit.int .u64 s.off).wf = true ∧ (Lit.int .u64 s.size).wf = true
def Spn.zero : Spn := ⟨0, 0⟩
def spnL : Lay Spn := ⟨2, Spn.cells, Spn.zero, fun _ => rfl, by decide, fun x u hu => by
  simp only [Spn.cells, List.mem_cons, List.not_mem_nil, or_false] at hu
  rcases hu with rfl | rfl <;> rfl⟩
theorem Spn.at {w : World} {b o : Nat} {s : Spn} (h : spnL.In w b o s) : w.cell? ⟨b, o, none⟩ = some (.int .u64 s.off) ∧ w.cell? ⟨b, o + 1, none⟩ = some (.int .u64 s.size) :=
  ⟨h 0 (by decide), h 1 (by decide)⟩
/-- A record in a block of its own: made, written, a field written. -/
theorem Spn.box (w : World) (s : Spn) (T : TypeId) : spnL.Box (w.alloc (.cells #[.int .u64 s.off, .int .u64 s.size] T)) w.heap.size s := Lay.Box.of_alloc (L := spnL) w s T
theorem Spn.c_off {w : World} {b : Nat} {s : Spn} (h : spnL.Box w b s) : w.cell? ⟨b, 0, none⟩ = some (.int .u64 s.off) := by have := h.in 0 (by decide); rw [Nat.zero_add] at this; exact this
theorem Spn.c_size {w : World} {b : Nat} {s : Spn} (h : spnL.Box w b s) : w.cell? ⟨b, 1, none⟩ = some (.int .u64 s.size) := by have := h.in 1 (by decide); rw [Nat.zero_add] at this; exact this
theorem Spn.ext' {s r : Spn} (h0 : s.off = r.off) (h1 : s.size = r.size) : s = r := by
  cases s; cases r; simp only at h0 h1; subst h0 h1; rfl
instance : DecidableEq Spn := fun s r => decidable_of_iff (s.off = r.off ∧ s.size = r.size) ⟨fun h => Spn.ext' h.1 h.2, fun h => by rw [h]; exact ⟨rfl, rfl⟩⟩
theorem Spn.eqv (s r : Spn) : decide (s = r) = (decide (s.off = r.off) && (decide (s.size = r.size))) := by
  have e : s = r ↔ (s.off = r.off ∧ s.size = r.size) := ⟨fun h => by rw [h]; exact ⟨rfl, rfl⟩, fun h => Spn.ext' h.1 h.2⟩
  simp only [← Bool.decide_and]
  exact decide_eq_decide.2 e
set_option maxHeartbeats 2000000 in
theorem Spn.eql (s r : Spn) (W : World) : (binOp .eql 30 (.agg #[.int .u64 s.off, .int .u64 s.size]) (.agg #[.int .u64 r.off, .int .u64 r.size])).run Tryz.prog W = .ok (.bool (decide (s = r))) W := by
  rw [Spn.eqv]
  go_simp
  (repeat' split) <;> simp [*]
set_option maxHeartbeats 2000000 in
theorem Spn.neq (s r : Spn) (W : World) : (binOp .neq 30 (.agg #[.int .u64 s.off, .int .u64 s.size]) (.agg #[.int .u64 r.off, .int .u64 r.size])).run Tryz.prog W = .ok (.bool (!decide (s = r))) W := by
  rw [Spn.eqv]
  go_simp
  (repeat' split) <;> simp [*]
end Go.Proofs.YtaipelkegemoeaaGreatDoor
/- load.Spans. -/
namespace Go.Proofs.YtaipelkegemoeaaGreatDoor
open Go.RowKit
set_option maxRecDepth 100000

def spAt (l : List UInt8) (i : Nat) : Spn := ⟨n4 l (8 + 8 * i), n4 l (12 + 8 * i)⟩
def spsN (l : List UInt8) (k : Nat) : List Spn := (List.range k).map (spAt l)
theorem spsN_len (l : List UInt8) (k : Nat) : (spsN l k).length = k := by simp [spsN]
theorem spsN_succ (l : List UInt8) (k : Nat) : spsN l (k + 1) = spsN l k ++ [spAt l k] := by simp [spsN, List.range_succ]
theorem Tryz.tSpn : Lay.Ty spnL Tryz.prog 30 := Lay.Ty.mk' (by kernel_rfl) (by kernel_rfl)
theorem Tryz.infoSpn : Lay.Info Tryz.prog 85 30 spnL.n 16 := Lay.Info.mk' (z := .agg (spnL.f spnL.d).toArray) (by kernel_rfl) (by kernel_rfl) rfl
theorem spn_built (x : Spn) (w : World) : (Instr.buildSlice 85 1 #[(0, spnL.val x)]).run Tryz.prog w = .ok (.slice (some ⟨w.heap.size, 0, none⟩) 1 1) (w.alloc (.cells (spnL.f x).toArray 30)) := by
  show (Instr.buildSlice 85 1 #[(0, .agg #[.int .u64 x.off, .int .u64 x.size])]).run Tryz.prog w = .ok (.slice (some ⟨w.heap.size, 0, none⟩) 1 1) (w.alloc (.cells #[.int .u64 x.off, .int .u64 x.size] 30))
  go_simp
/-- The state of the loop. -/
structure SpR (w0 : World) (c : Nat) (l : List UInt8) (p : Nat) (ks : List Spn) (sv : SlV) (wr : World) : Prop where
  cur : CurB wr c (cAt l p)
  bf : spnL.Buf 30 wr w0.heap.size (.slice sv.a sv.n sv.cap) ks
  sz : w0.heap.size ≤ wr.heap.size
  chg : Chg [c] w0 wr
theorem SpR.step {w0 : World} {c : Nat} {l : List UInt8} {p q : Nat} {ks : List Spn} {sv : SlV} {w w' : World} (h : SpR w0 c l p ks sv w) (hc : CurB w' c (cAt l q)) (k : Chg [c] w w') (hcw : c < w0.heap.size) : SpR w0 c l q ks sv w' :=
  ⟨hc, h.bf.frame k (fun b hb hm => by have := (h.bf.lt b hb).1; simp at hm; omega), Nat.le_trans h.sz k.size, h.chg.same k⟩
theorem SpR.pure {w0 : World} {c : Nat} {l : List UInt8} {p : Nat} {ks : List Spn} {sv : SlV} {w w' : World} (h : SpR w0 c l p ks sv w) (k : Chg [] w w') : SpR w0 c l p ks sv w' :=
  ⟨h.cur.frame k, h.bf.pure k, Nat.le_trans h.sz k.size, h.chg.then k⟩
theorem SpR.app {w0 : World} {c : Nat} {l : List UInt8} {p : Nat} {ks ks' : List Spn} {sv sv' : SlV} {w w' : World} (h : SpR w0 c l p ks sv w) (g : w.grownBy w' (Value.slice sv.a sv.n sv.cap).ownBlock) (hv : spnL.Buf 30 w' w0.heap.size (.slice sv'.a sv'.n sv'.cap) ks') (hcw : c < w0.heap.size) : SpR w0 c l p ks' sv' w' := by
  have k := Lay.chg_grown g
  have hb : ∀ i ∈ (Value.slice sv.a sv.n sv.cap).ownBlock.toList, w0.heap.size ≤ i := fun i hi => (h.bf.lt i (by simpa using hi)).1
  exact ⟨h.cur.far k (fun i hi => by have := hb i hi; omega), hv, Nat.le_trans h.sz k.size, h.chg.trans k (fun i hi hw => by have := hb i hi; omega)⟩
/-- What a call of Spans hands back. -/
def SpP (w : World) (ls : List Spn) (e : Ending) (w' : World) : Prop := ∃ sv : SlV, e = .returned (.tuple #[.slice sv.a sv.n sv.cap, .int .i64 0]) ∧ spnL.Buf 30 w' w.heap.size (.slice sv.a sv.n sv.cap) ls ∧ Chg [] w w'
end Go.Proofs.YtaipelkegemoeaaGreatDoor
/- Records: dependencies (printed by mkrecs.sh). -/
namespace Go.Proofs.YtaipelkegemoeaaGreatDoor
open Go.RowKit
set_option maxRecDepth 100000

/-- A record Dep. -/
structure Dep where
  name : ByteArray
  kind : Int
def Dep.cells (s : Dep) : List Value := [.string s.name, .int .i64 s.kind]
abbrev Dep.v (s : Dep) : Value := .agg #[.string s.name, .int .i64 s.kind]
/-- Its numbers are of their kinds. -/
def Dep.wf (s : Dep) : Prop := (Lit.int .i64 s.kind).wf = true
def Dep.zero : Dep := ⟨⟨#[]⟩, 0⟩
def depL : Lay Dep := ⟨2, Dep.cells, Dep.zero, fun _ => rfl, by decide, fun x u hu => by
  simp only [Dep.cells, List.mem_cons, List.not_mem_nil, or_false] at hu
  rcases hu with rfl | rfl <;> rfl⟩
theorem Dep.at {w : World} {b o : Nat} {s : Dep} (h : depL.In w b o s) : w.cell? ⟨b, o, none⟩ = some (.string s.name) ∧ w.cell? ⟨b, o + 1, none⟩ = some (.int .i64 s.kind) :=
  ⟨h 0 (by decide), h 1 (by decide)⟩
/-- A record in a block of its own: made, written, a field written. -/
theorem Dep.box (w : World) (s : Dep) (T : TypeId) : depL.Box (w.alloc (.cells #[.string s.name, .int .i64 s.kind] T)) w.heap.size s := Lay.Box.of_alloc (L := depL) w s T
theorem Dep.set_name {w : World} {g : Nat} {s : Dep} (h : depL.Box w g s) (x : ByteArray) : depL.Box (w.setCell ⟨g, 0, none⟩ (.string x)) g { s with name := x } := Lay.Box.set h 0 _ _ rfl
theorem Dep.c_name {w : World} {b : Nat} {s : Dep} (h : depL.Box w b s) : w.cell? ⟨b, 0, none⟩ = some (.string s.name) := by have := h.in 0 (by decide); rw [Nat.zero_add] at this; exact this
theorem Dep.c_kind {w : World} {b : Nat} {s : Dep} (h : depL.Box w b s) : w.cell? ⟨b, 1, none⟩ = some (.int .i64 s.kind) := by have := h.in 1 (by decide); rw [Nat.zero_add] at this; exact this
theorem Dep.ext' {s r : Dep} (h0 : s.name = r.name) (h1 : s.kind = r.kind) : s = r := by
  cases s; cases r; simp only at h0 h1; subst h0 h1; rfl
instance : DecidableEq Dep := fun s r => decidable_of_iff (s.name = r.name ∧ s.kind = r.kind) ⟨fun h => Dep.ext' h.1 h.2, fun h => by rw [h]; exact ⟨rfl, rfl⟩⟩
theorem Dep.eqv (s r : Dep) : decide (s = r) = (decide (s.name.toList = r.name.toList) && (decide (s.kind = r.kind))) := by
  have e : s = r ↔ (s.name = r.name ∧ s.kind = r.kind) := ⟨fun h => by rw [h]; exact ⟨rfl, rfl⟩, fun h => Dep.ext' h.1 h.2⟩
  have hname : (s.name.toList = r.name.toList) = (s.name = r.name) := by rw [Lib.toList_data, Lib.toList_data]; exact propext ⟨fun e => ByteArray.ext (Array.toList_inj.1 e), fun e => by rw [e]⟩
  simp only [hname, ← Bool.decide_and]
  exact decide_eq_decide.2 e
set_option maxHeartbeats 2000000 in
theorem Dep.eql (s r : Dep) (W : World) : (binOp .eql 117 (.agg #[.string s.name, .int .i64 s.kind]) (.agg #[.string r.name, .int .i64 r.kind])).run Tryz.prog W = .ok (.bool (decide (s = r))) W := by
  rw [Dep.eqv]
  go_simp
  (repeat' split) <;> simp [*]
set_option maxHeartbeats 2000000 in
theorem Dep.neq (s r : Dep) (W : World) : (binOp .neq 117 (.agg #[.string s.name, .int .i64 s.kind]) (.agg #[.string r.name, .int .i64 r.kind])).run Tryz.prog W = .ok (.bool (!decide (s = r))) W := by
  rw [Dep.eqv]
  go_simp
  (repeat' split) <;> simp [*]
end Go.Proofs.YtaipelkegemoeaaGreatDoor
