/- Lemmas, laid together: part 35 of 41. Conditions: none but each lemma's own. -/
import Derived.Test.YtkomocgodljecaaGreatDoorK11
import Derived.Test.YtkomocgodljecaaGreatDoorK34
import Derived.Test.YtkomocgodljecaaGreatDoorK17
import Derived.Test.YtkomocgodljecaaGreatDoorK18
import Derived.Lib.Strings
import Derived.Deep.QuietTactic
import Derived.BigQuiet
import Derived.Maps.AppendAt
import Derived.StillTailTactics
import Derived.BigRegion
import Derived.Handy
import Derived.Deep.CutRange
import Derived.Lib.IfaceEq
import Derived.RangeFuncNested
import Derived.RangeFuncBound
import Derived.RangeFuncCalls
import Derived.RangeFuncLeaves
import Derived.Shelf.Abstract
import Derived.Shelf.RegionOpen
import Derived.OwnWalkIn
import Derived.TacticsInMore
import Derived.LoopNIn
import Derived.LoopIn
import Derived.WalkMore
import Derived.Deep.DeepCutAuto
/- May an image be (of layer 6), the document's answer; what of it is needed here (cut out of other texts by shake.py). -/
namespace Go.Proofs.YtkomocgodljecaaGreatDoor
open Go.RowKit
set_option maxRecDepth 100000
open Go.RowKit
set_option maxRecDepth 100000
def withinI (off size all : Int) : Bool := decide (off ≤ all) && decide (size ≤ all - off)
/-- May a segment's numbers be, in a file of n bytes? -/
def placeB (n : Int) (s : Seg) : Bool :=
  decide (0 ≤ s.prot) && (decide (s.prot ≤ 7) && (!(decide (s.prot = 0) && decide (0 < s.fsize)) && (decide (s.addr % 4096 = 0) && (decide (s.size % 4096 = 0) && (decide (0 < s.size) && (decide (s.fsize ≤ s.size) && (withinI s.off s.fsize n && withinI s.addr s.size 140737488355328)))))))
/-- The segments one behind the other: none stands ahead of the last one's end, none bears a name that was there. -/
def goesB (n : Int) (at_ : Int) (names : ByteArray → Bool) : List Seg → Bool
  | [] => true
  | s :: r => placeB n s && (!names s.name && (decide (at_ ≤ s.addr) && goesB n (s.addr + s.size) (fun x => if x = s.name then true else names x) r))
/-- The document's: each against all ahead of it. -/
def eachB (n : Int) (prev : List Seg) : List Seg → Bool
  | [] => true
  | s :: r => placeB n s && (prev.all (fun o => !decide (o.name = s.name) && decide (o.addr + o.size ≤ s.addr)) && eachB n (prev ++ [s]) r)
/-- What is kept along both ways. -/
structure Along (at_ : Int) (names : ByteArray → Bool) (prev : List Seg) : Prop where
  ends : ∀ o ∈ prev, o.addr + o.size ≤ at_
  last : at_ = 0 ∨ ∃ o ∈ prev, o.addr + o.size = at_
  nm : ∀ x, names x = true ↔ ∃ o ∈ prev, o.name = x
theorem placeB_size {n : Int} {s : Seg} (h : placeB n s = true) : 0 < s.size := by
  unfold placeB at h
  simp only [Bool.and_eq_true, decide_eq_true_eq] at h
  exact h.2.2.2.2.2.1
theorem goes_each (n : Int) : ∀ (l : List Seg) (at_ : Int) (names : ByteArray → Bool) (prev : List Seg), Along at_ names prev → (∀ s ∈ l, 0 ≤ s.addr) → goesB n at_ names l = eachB n prev l
  | [], _, _, _, _, _ => rfl
  | s :: r, at_, names, prev, h, ha => by
    unfold goesB eachB
    cases hp : placeB n s with
    | false => rfl
    | true =>
      have hs := placeB_size hp
      have ha0 := ha s (List.mem_cons_self ..)
      simp only [Bool.true_and]
      have key : (!names s.name && decide (at_ ≤ s.addr)) = prev.all (fun o => !decide (o.name = s.name) && decide (o.addr + o.size ≤ s.addr)) := by
        rw [Bool.eq_iff_iff]
        simp only [Bool.and_eq_true, Bool.not_eq_true', decide_eq_false_iff_not, decide_eq_true_eq, List.all_eq_true]
        constructor
        · rintro ⟨h1, h2⟩ o ho
          refine ⟨fun e => ?_, Int.le_trans (h.ends o ho) h2⟩
          rw [(h.nm _).2 ⟨o, ho, e⟩] at h1
          exact absurd h1 (by decide)
        · intro h1
          refine ⟨?_, ?_⟩
          · cases hm : names s.name with
            | false => rfl
            | true =>
              obtain ⟨o, ho, e⟩ := (h.nm _).1 hm
              exact absurd e (h1 o ho).1
          · rcases h.last with e | ⟨o, ho, e⟩
            · rw [e]; exact ha0
            · rw [← e]; exact (h1 o ho).2
      rw [← key, Bool.and_assoc]
      cases h1 : names s.name with
      | true => rfl
      | false =>
        cases h2 : decide (at_ ≤ s.addr) with
        | false => rfl
        | true =>
          have h2' := of_decide_eq_true h2
          simp only [Bool.not_false, Bool.true_and]
          refine goes_each n r _ _ _ ⟨fun o ho => ?_, .inr ⟨s, by simp, rfl⟩, fun x => ?_⟩ (fun q hq => ha q (List.mem_cons_of_mem _ hq))
          · rcases List.mem_append.1 ho with ho | ho
            · have := h.ends o ho; omega
            · rw [List.mem_singleton.1 ho]; exact Int.le_refl _
          · by_cases ex : x = s.name
            · rw [if_pos ex]
              exact ⟨fun _ => ⟨s, by simp, ex.symm⟩, fun _ => rfl⟩
            · rw [if_neg ex, h.nm x]
              constructor
              · rintro ⟨o, ho, e⟩
                exact ⟨o, List.mem_append_left _ ho, e⟩
              · rintro ⟨o, ho, e⟩
                rcases List.mem_append.1 ho with ho | ho
                · exact ⟨o, ho, e⟩
                · rw [List.mem_singleton.1 ho] at e
                  exact absurd e.symm ex
theorem goes_all (n : Int) (l : List Seg) (ha : ∀ s ∈ l, 0 ≤ s.addr) : goesB n 0 (fun _ => false) l = eachB n [] l :=
  goes_each n l 0 (fun _ => false) [] ⟨(fun _ h => by cases h), .inl rfl, (fun x => ⟨(fun h => by cases h), (fun ⟨_, h, _⟩ => by cases h)⟩)⟩ ha
/- image: within, mayPlace; the document's Within. -/
open Go.RowKit
set_option maxRecDepth 100000
theorem rwithinI_any (off size all : Int) (ho : 0 ≤ off) (hs : 0 ≤ size) (ha : all < 18446744073709551616) (w : World) :
    Calls Tryz.prog 25 #[.int .u64 off, .int .u64 size, .int .u64 all] w fun e w' => e = .returned (.bool (withinI off size all)) ∧ Chg [] w w' := by
  by_cases h1 : size ≤ all
  · have hw : IntKind.u64.wrap (all - size) = all - size := by rw [IntKind.wrap_u64]; omega
    have d1 : decide (size ≤ all) = true := decide_eq_true h1
    have hr : withinI off size all = decide (off ≤ all - size) := by
      unfold withinI
      rw [Bool.eq_iff_iff]
      simp only [Bool.and_eq_true, decide_eq_true_eq]
      omega
    rw [hr]
    clear ha ho hs hr
    have Hw := Lib.hid hw
    clear hw
    go_enter Tryz.func25, Tryz.ntmps25
    go_wp2
    go_ret
    exact ⟨congrArg (fun z => Ending.returned (.bool (decide (off ≤ z)))) Hw.out, Chg.refl _ _⟩
  · have d1 : decide (size ≤ all) = false := decide_eq_false h1
    have hr : withinI off size all = false := by
      unfold withinI
      rw [Bool.eq_false_iff]
      simp only [ne_eq, Bool.and_eq_true, decide_eq_true_eq]
      omega
    rw [hr]
    clear ha ho hs hr
    go_enter Tryz.func25, Tryz.ntmps25
    go_wp2
    go_ret
    exact ⟨rfl, Chg.refl _ _⟩
open Go.RowKit
set_option maxRecDepth 100000
/-- A record Sec. -/
structure Sec where
  name : ByteArray
  seg : ByteArray
  addr : Int
  size : Int
  off : Int
  kind : Int
def Sec.cells (s : Sec) : List Value := [.string s.name, .string s.seg, .int .u64 s.addr, .int .u64 s.size, .int .u64 s.off, .int .i64 s.kind]
abbrev Sec.v (s : Sec) : Value := .agg #[.string s.name, .string s.seg, .int .u64 s.addr, .int .u64 s.size, .int .u64 s.off, .int .i64 s.kind]
def Sec.zero : Sec := ⟨⟨#[]⟩, ⟨#[]⟩, 0, 0, 0, 0⟩
def secL : Lay Sec := ⟨6, Sec.cells, Sec.zero, fun _ => rfl, by decide, fun x u hu => by
  simp only [Sec.cells, List.mem_cons, List.not_mem_nil, or_false] at hu
  rcases hu with rfl | rfl | rfl | rfl | rfl | rfl <;> rfl⟩
theorem Sec.at {w : World} {b o : Nat} {s : Sec} (h : secL.In w b o s) : w.cell? ⟨b, o, none⟩ = some (.string s.name) ∧ w.cell? ⟨b, o + 1, none⟩ = some (.string s.seg) ∧ w.cell? ⟨b, o + 2, none⟩ = some (.int .u64 s.addr) ∧ w.cell? ⟨b, o + 3, none⟩ = some (.int .u64 s.size) ∧ w.cell? ⟨b, o + 4, none⟩ = some (.int .u64 s.off) ∧ w.cell? ⟨b, o + 5, none⟩ = some (.int .i64 s.kind) :=
  ⟨h 0 (by decide), h 1 (by decide), h 2 (by decide), h 3 (by decide), h 4 (by decide), h 5 (by decide)⟩
theorem Sec.c_name {w : World} {b : Nat} {s : Sec} (h : secL.Box w b s) : w.cell? ⟨b, 0, none⟩ = some (.string s.name) := by have := h.in 0 (by decide); rw [Nat.zero_add] at this; exact this
theorem Sec.c_addr {w : World} {b : Nat} {s : Sec} (h : secL.Box w b s) : w.cell? ⟨b, 2, none⟩ = some (.int .u64 s.addr) := by have := h.in 2 (by decide); rw [Nat.zero_add] at this; exact this
theorem Sec.c_size {w : World} {b : Nat} {s : Sec} (h : secL.Box w b s) : w.cell? ⟨b, 3, none⟩ = some (.int .u64 s.size) := by have := h.in 3 (by decide); rw [Nat.zero_add] at this; exact this
theorem Sec.c_off {w : World} {b : Nat} {s : Sec} (h : secL.Box w b s) : w.cell? ⟨b, 4, none⟩ = some (.int .u64 s.off) := by have := h.in 4 (by decide); rw [Nat.zero_add] at this; exact this
theorem Sec.c_kind {w : World} {b : Nat} {s : Sec} (h : secL.Box w b s) : w.cell? ⟨b, 5, none⟩ = some (.int .i64 s.kind) := by have := h.in 5 (by decide); rw [Nat.zero_add] at this; exact this
/- load.section. -/
open Go.RowKit
set_option maxRecDepth 100000
theorem Tryz.tSec : Lay.Ty secL Tryz.prog 91 := Lay.Ty.mk' (by kernel_rfl) (by kernel_rfl)
open Go.RowKit
set_option maxRecDepth 100000
/-- A record Spn. -/
structure Spn where
  off : Int
  size : Int
def Spn.cells (s : Spn) : List Value := [.int .u64 s.off, .int .u64 s.size]
abbrev Spn.v (s : Spn) : Value := .agg #[.int .u64 s.off, .int .u64 s.size]
def Spn.zero : Spn := ⟨0, 0⟩
def spnL : Lay Spn := ⟨2, Spn.cells, Spn.zero, fun _ => rfl, by decide, fun x u hu => by
  simp only [Spn.cells, List.mem_cons, List.not_mem_nil, or_false] at hu
  rcases hu with rfl | rfl <;> rfl⟩
theorem Spn.at {w : World} {b o : Nat} {s : Spn} (h : spnL.In w b o s) : w.cell? ⟨b, o, none⟩ = some (.int .u64 s.off) ∧ w.cell? ⟨b, o + 1, none⟩ = some (.int .u64 s.size) :=
  ⟨h 0 (by decide), h 1 (by decide)⟩
theorem Spn.c_off {w : World} {b : Nat} {s : Spn} (h : spnL.Box w b s) : w.cell? ⟨b, 0, none⟩ = some (.int .u64 s.off) := by have := h.in 0 (by decide); rw [Nat.zero_add] at this; exact this
theorem Spn.c_size {w : World} {b : Nat} {s : Spn} (h : spnL.Box w b s) : w.cell? ⟨b, 1, none⟩ = some (.int .u64 s.size) := by have := h.in 1 (by decide); rw [Nat.zero_add] at this; exact this
open Go.RowKit
set_option maxRecDepth 100000
/-- A record Dep. -/
structure Dep where
  name : ByteArray
  kind : Int
def Dep.cells (s : Dep) : List Value := [.string s.name, .int .i64 s.kind]
abbrev Dep.v (s : Dep) : Value := .agg #[.string s.name, .int .i64 s.kind]
def Dep.zero : Dep := ⟨⟨#[]⟩, 0⟩
def depL : Lay Dep := ⟨2, Dep.cells, Dep.zero, fun _ => rfl, by decide, fun x u hu => by
  simp only [Dep.cells, List.mem_cons, List.not_mem_nil, or_false] at hu
  rcases hu with rfl | rfl <;> rfl⟩
theorem Dep.at {w : World} {b o : Nat} {s : Dep} (h : depL.In w b o s) : w.cell? ⟨b, o, none⟩ = some (.string s.name) ∧ w.cell? ⟨b, o + 1, none⟩ = some (.int .i64 s.kind) :=
  ⟨h 0 (by decide), h 1 (by decide)⟩
theorem Dep.c_name {w : World} {b : Nat} {s : Dep} (h : depL.Box w b s) : w.cell? ⟨b, 0, none⟩ = some (.string s.name) := by have := h.in 0 (by decide); rw [Nat.zero_add] at this; exact this
theorem Dep.c_kind {w : World} {b : Nat} {s : Dep} (h : depL.Box w b s) : w.cell? ⟨b, 1, none⟩ = some (.int .i64 s.kind) := by have := h.in 1 (by decide); rw [Nat.zero_add] at this; exact this
open Go.RowKit
set_option maxRecDepth 100000
section
end
/-- A segment as plain data: its numbers (without its row), its sections. -/
structure SegP where
  s : Seg
  ks : List Sec
def SegP.zero : SegP := ⟨.zero, []⟩
def Seg.bare (s : Seg) : Seg := { s with secs := ⟨none, 0, 0⟩ }
def Img.bare (m : Img) : Img := { m with segs := ⟨none, 0, 0⟩, deps := ⟨none, 0, 0⟩ }
/-- What was told so far. -/
structure TP where
  m : Img
  segs : List SegP
  deps : List Dep
  seen : Int → Bool
  n : Nat
section
end
/- load: the teller's spans. -/
open Go.RowKit
set_option maxRecDepth 100000
theorem Spn.both {w : World} {g o : Nat} {x : Spn} (h : spnL.In w g o x) : w.cell? ⟨g, o, none⟩ = some (.int .u64 x.off) ∧ w.cell? ⟨g, o + 1, none⟩ = some (.int .u64 x.size) := Spn.at h
/- load.Image, whatever the bytes. -/
open Go.RowKit
set_option maxRecDepth 100000
theorem drop_getD {α : Type} (l : List α) (k : Nat) (d : α) (h : k < l.length) : l.drop k = l.getD k d :: l.drop (k + 1) := by
  rw [List.drop_eq_getElem_cons h]
  simp [List.getD_eq_getElem?_getD, h]
/- image.segments. -/
open Go.RowKit
set_option maxRecDepth 100000
/-- May the first segment that is laid be so? -/
def firstB (h : Int) (s : Seg) : Bool := decide (s.off = 0) && (!decide (s.fsize < h) && (!(bits BinOp.and IntKind.i64 s.prot 1 == 0) && !(bits BinOp.and IntKind.i64 s.prot 2 != 0)))
def segsB (n h : Int) (ls : List Seg) : Bool := match idx (fun s => !holeS s) ls with
  | none => false
  | some f => goesB n 0 (fun _ => false) ls && firstB h (ls.getD f .zero)
/-- Why the segments may not be (0: they may). -/
def segsE (n h : Int) (ls : List Seg) : Int := if segsB n h ls = true then 0 else 8
theorem goes_cons (n at_ : Int) (N : ByteArray → Bool) (s : Seg) (r : List Seg) : goesB n at_ N (s :: r) = (placeB n s && (!N s.name && (decide (at_ ≤ s.addr) && goesB n (s.addr + s.size) (fun x => if x = s.name then true else N x) r))) := rfl
theorem placeB_end {n : Int} {s : Seg} (h : placeB n s = true) : s.addr + s.size ≤ 140737488355328 := by
  unfold placeB withinI at h
  simp only [Bool.and_eq_true, decide_eq_true_eq] at h
  omega
/- The document's SameSegment (of layer 5): two segments with the same numbers and the same sections are the same. -/
open Go.RowKit
set_option maxRecDepth 100000
/-- A segment in memory, as plain data. -/
def SegRd (w : World) (s : Seg) (p : SegP) : Prop := s.bare = p.s ∧ secL.Rd w (.slice s.secs.a s.secs.n s.secs.cap) p.ks
theorem SegRd.frame {w w' : World} {s : Seg} {p : SegP} (h : SegRd w s p) (k : Chg [] w w') : SegRd w' s p := ⟨h.1, h.2.frame k⟩
/- The document's Same (of layer 5): two images of the same plain data are the same. -/
open Go.RowKit
set_option maxRecDepth 100000
/-- An image in memory reads as plain data. -/
def DRd (w : World) (m : Img) (p : TP) : Prop := ∃ xs, m.bare = p.m ∧ segL.Rd w (.slice m.segs.a m.segs.n m.segs.cap) xs ∧ xs.length = p.segs.length ∧ (∀ i, i < xs.length → SegRd w (xs.getD i .zero) (p.segs.getD i .zero)) ∧ depL.Rd w (.slice m.deps.a m.deps.n m.deps.cap) p.deps
theorem DRd.frame {w w' : World} {m : Img} {p : TP} (h : DRd w m p) (k : Chg [] w w') : DRd w' m p := by
  obtain ⟨xs, h1, h2, h3, h4, h5⟩ := h
  exact ⟨xs, h1, h2.frame k, h3, fun i hi => (h4 i hi).frame k, h5.frame k⟩
theorem DRd.zero (w : World) (s : Int → Bool) (n : Nat) : DRd w .zero ⟨Img.zero, [], [], s, n⟩ := ⟨[], rfl, Lay.Rd.nil _, rfl, fun i hi => absurd hi (by simp), Lay.Rd.nil _⟩
/- image.sections. -/
open Go.RowKit
set_option maxRecDepth 100000
/-- May a section of a segment be? -/
def secB (s : Seg) (x : Sec) : Bool := decide (s.addr ≤ x.addr) && (withinI (x.addr - s.addr) x.size s.size && (decide (x.kind = 1) || (decide (x.off = IntKind.u64.wrap (s.off + (x.addr - s.addr))) && withinI (x.addr - s.addr) x.size s.fsize)))
def segSecB (p : SegP) : Bool := p.ks.all (secB p.s)
def secsE (ps : List SegP) : Int := if ps.all segSecB = true then 0 else 9
def SecB (x : Sec) : Prop := (0 ≤ x.addr ∧ x.addr < 18446744073709551616) ∧ (0 ≤ x.size ∧ x.size < 18446744073709551616) ∧ (0 ≤ x.off ∧ x.off < 18446744073709551616)
/-- The numbers of an image's segments and sections are of their kinds. -/
structure ImB (ps : List SegP) : Prop where
  seg : ∀ k, k < ps.length → SegB (ps.getD k .zero).s
  sec : ∀ k, k < ps.length → ∀ j, j < (ps.getD k .zero).ks.length → SecB ((ps.getD k .zero).ks.getD j .zero)
theorem seg_bare {s : Seg} {q : Seg} (h : s.bare = q) : s.name = q.name ∧ s.addr = q.addr ∧ s.size = q.size ∧ s.off = q.off ∧ s.fsize = q.fsize ∧ s.prot = q.prot := by subst h; exact ⟨rfl, rfl, rfl, rfl, rfl, rfl⟩
theorem measB_w {L k : Nat} (hw : wrap64 ((k : Int) + 1) = (k : Int) + 1) (h : k < L) : L - (intOf (.int .i64 (wrap64 ((k : Int) + 1)))).toNat < L - (intOf (.int .i64 (k : Int))).toNat := by
  rw [hw]
  show L - ((k : Int) + 1).toNat < L - (k : Int).toNat
  omega
theorem bad9 {E : Int} {ps r : List SegP} {p : SegP} {ks : List Sec} {s : Seg} (h1 : E = if ps.all segSecB = true then 0 else 9) (h2 : (segSecB p && r.all segSecB) = ps.all segSecB) (h3 : segSecB p = ks.all (secB s)) (h4 : false = ks.all (secB s)) : E = 9 := by
  rw [h1, ← h2, h3, ← h4]
  rfl
/- image.High, image.spans, image.names. -/
open Go.RowKit
set_option maxRecDepth 100000
def highF (h : Int) (s : Seg) : Int := if holeS s = true then h else max h (IntKind.u64.wrap (s.addr + s.size))
/-- Where an image ends. -/
def highS (ls : List Seg) : Int := ls.foldl highF 0
def namesE (m : Img) : Int := if (decide (m.kind = 6)) = !(decide (m.name.toList = [])) then 0 else 10
theorem measB_v {L k : Nat} (h : k < L) : L - (intOf (.int .i64 ((k : Int) + 1))).toNat < L - (intOf (.int .i64 (k : Int))).toNat := by
  show L - ((k : Int) + 1).toNat < L - (k : Int).toNat
  omega
/-- An image's spans. -/
def spans8 (m : Img) : List Spn := [⟨m.rbO, m.rbS⟩, ⟨m.bdO, m.bdS⟩, ⟨m.wkO, m.wkS⟩, ⟨m.lzO, m.lzS⟩, ⟨m.trO, m.trS⟩, ⟨m.chO, m.chS⟩, ⟨m.syO, m.syS⟩, ⟨m.stO, m.stS⟩]
def spnB (n : Int) (x : Spn) : Bool := withinI x.off x.size n
def SpnsB (m : Img) : Prop := ∀ j, j < (spans8 m).length → (0 ≤ ((spans8 m).getD j .zero).off ∧ ((spans8 m).getD j .zero).off < 18446744073709551616) ∧ 0 ≤ ((spans8 m).getD j .zero).size ∧ ((spans8 m).getD j .zero).size < 18446744073709551616
/-- Why spans may not be (0: they may): ls are the segments. -/
def spansE (n : Int) (m : Img) (ls : List Seg) : Int :=
  if (spans8 m).all (spnB n) = true then (if m.syS % 16 = 0 then (if m.has = true then (if IntKind.u64.wrap (highS ls - lowS ls) ≤ m.entry then 4 else 0) else 0) else 4) else 4
/- image.May. -/
open Go.RowKit
set_option maxRecDepth 100000
/-- The first error (0: none). -/
def firstE : List Int → Int
  | [] => 0
  | e :: r => if e = 0 then firstE r else e
theorem firstE_zero {r : List Int} : firstE (0 :: r) = firstE r := rfl
theorem firstE_ne {e : Int} {r : List Int} (h : ¬ e = 0) : firstE (e :: r) = e := if_neg h
/- The document's segments (of layer 6). -/
open Go.RowKit
set_option maxRecDepth 100000
def p1B (s : Seg) : Bool := decide (0 ≤ s.prot) && (decide (s.prot ≤ 7) && !(decide (s.prot = 0) && decide (0 < s.fsize)))
def p2B (n : Int) (s : Seg) : Bool := decide (s.addr % 4096 = 0) && (decide (s.size % 4096 = 0) && (decide (0 < s.size) && (decide (s.fsize ≤ s.size) && (withinI s.off s.fsize n && withinI s.addr s.size 140737488355328))))
theorem placeB_two (n : Int) (s : Seg) : placeB n s = (p1B s && p2B n s) := by unfold placeB p1B p2B; simp only [Bool.and_assoc]
/-- Does a segment stand behind another one, and bear another name? -/
def behB (s o : Seg) : Bool := !decide (o.name = s.name) && decide (o.addr + o.size ≤ s.addr)
theorem each_cons (n : Int) (prev : List Seg) (s : Seg) (r : List Seg) : eachB n prev (s :: r) = (placeB n s && (prev.all (behB s) && eachB n (prev ++ [s]) r)) := rfl
theorem name_dec (a b : ByteArray) : (a.toList == b.toList) = decide (a = b) := by
  have : (a.toList = b.toList) = (a = b) := by rw [Lib.toList_data, Lib.toList_data]; exact propext ⟨fun e => ByteArray.ext (Array.toList_inj.1 e), fun e => by rw [e]⟩
  rw [Bool.eq_iff_iff, beq_iff_eq, decide_eq_true_eq, this]
/-- The number of the first segment that is laid, of those that were gone over. -/
def FstIs (ls : List Seg) (i : Nat) (f : Int) : Prop := (f = -1 ∧ ∀ j, j < i → holeS (ls.getD j .zero) = true) ∨ ∃ k : Nat, k < i ∧ f = k ∧ holeS (ls.getD k .zero) = false ∧ ∀ j, j < k → holeS (ls.getD j .zero) = true
theorem FstIs.zero (ls : List Seg) : FstIs ls 0 (-1) := .inl ⟨rfl, fun _ h => absurd h (Nat.not_lt_zero _)⟩
theorem FstIs.hole {ls : List Seg} {i : Nat} {f : Int} (h : FstIs ls i f) (hh : holeS (ls.getD i .zero) = true) : FstIs ls (i + 1) f := by
  rcases h with ⟨h1, h2⟩ | ⟨k, h1, h2, h3, h4⟩
  · refine .inl ⟨h1, fun j hj => ?_⟩
    by_cases e : j = i
    · rw [e]; exact hh
    · exact h2 j (by omega)
  · exact .inr ⟨k, by omega, h2, h3, h4⟩
theorem FstIs.had {ls : List Seg} {i : Nat} {f : Int} (h : FstIs ls i f) (hf : ¬ f < 0) : FstIs ls (i + 1) f := by
  rcases h with ⟨h1, h2⟩ | ⟨k, h1, h2, h3, h4⟩
  · omega
  · exact .inr ⟨k, by omega, h2, h3, h4⟩
theorem FstIs.laid {ls : List Seg} {i : Nat} {f : Int} (h : FstIs ls i f) (hf : f < 0) (hh : holeS (ls.getD i .zero) = false) : FstIs ls (i + 1) i := by
  rcases h with ⟨h1, h2⟩ | ⟨k, h1, h2, h3, h4⟩
  · exact .inr ⟨i, by omega, rfl, hh, h2⟩
  · omega
theorem FstIs.idx {ls : List Seg} {f : Int} (h : FstIs ls ls.length f) : f = idxI (idx (fun s => !holeS s) ls) := by
  rcases h with ⟨h1, h2⟩ | ⟨k, h1, h2, h3, h4⟩
  · rw [idx_none (d := Seg.zero) (fun j hj => by rw [h2 j hj]; rfl)]
    exact h1
  · rw [idx_some (d := Seg.zero) h1 (by rw [h3]; rfl) (fun j hj => by rw [h4 j hj]; rfl)]
    exact h2
theorem segsE_no {n h : Int} {ls : List Seg} (ha : ∀ s ∈ ls, 0 ≤ s.addr) (he : eachB n [] ls = false) : segsE n h ls = 8 := by
  unfold segsE segsB
  rw [goes_all n ls ha, he]
  cases idx (fun s => !holeS s) ls <;> rfl
theorem segsE_none {n h : Int} {ls : List Seg} (hi : idx (fun s => !holeS s) ls = none) : segsE n h ls = 8 := by
  unfold segsE segsB
  rw [hi]
  rfl
theorem segsE_some {n h : Int} {ls : List Seg} (ha : ∀ s ∈ ls, 0 ≤ s.addr) (he : eachB n [] ls = true) {f : Nat} (hi : idx (fun s => !holeS s) ls = some f) : segsE n h ls = if firstB h (ls.getD f .zero) = true then 0 else 8 := by
  unfold segsE segsB
  rw [hi]
  simp only
  rw [goes_all n ls ha, he]
  rfl
/-- The document's loop. -/
structure DsR (w : World) (n : Int) (ls : List Seg) (i : Nat) (f : Int) (wr : World) : Prop where
  chg : Chg [] w wr
  fst : FstIs ls i f
  go : eachB n (ls.take i) (ls.drop i) = eachB n [] ls
  pl : ∀ j, j < i → placeB n (ls.getD j .zero) = true
theorem seg_take_snoc {ls : List Seg} {k : Nat} (h : k < ls.length) : ls.take (k + 1) = ls.take k ++ [ls.getD k .zero] := by
  rw [List.take_add_one]
  simp [List.getD_eq_getElem?_getD, h]
theorem prot_bits {p : Int} (h0 : 0 ≤ p) (h7 : p ≤ 7) : (bits BinOp.and IntKind.i64 p 1 == 0) = (p.tmod 2 == 0) ∧ (bits BinOp.and IntKind.i64 p 2 != 0) = ((wrap64 (p.tdiv 2)).tmod 2 == 1) := by
  have : p = 0 ∨ p = 1 ∨ p = 2 ∨ p = 3 ∨ p = 4 ∨ p = 5 ∨ p = 6 ∨ p = 7 := by omega
  rcases this with rfl | rfl | rfl | rfl | rfl | rfl | rfl | rfl <;> exact ⟨by decide, by decide +kernel⟩
set_option maxHeartbeats 16000000 in
theorem rsegments_any (m : Img) (ls : List Seg) (hls : SegsB ls) (n h : Int) (hn0 : 0 ≤ n) (hn : n < 18446744073709551616) (w : World) (rd : segL.Rd w m.segs.v ls) :
    Calls Tryz.prog 23 #[imgL.val m, .int .u64 n, .int .u64 h] w fun e w' => e = .returned (.int .i64 (segsE n h ls)) ∧ Chg [] w w' := by
  have HHO := Lib.hid (refHole_any)
  obtain ⟨a, cap, hv, hc1, hc2⟩ := rd.shape
  have rd' := rd
  rw [hv] at rd'
  have hlen : ls.length ≤ 9223372036854775807 := Nat.le_trans hc1 hc2
  have haddr : ∀ s ∈ ls, 0 ≤ s.addr := fun s hs => by
    obtain ⟨k, hk, rfl⟩ := List.getElem_of_mem hs
    have := (hls k hk).1.1
    rwa [List.getD_eq_getElem?_getD, List.getElem?_eq_getElem hk] at this
  obtain ⟨E, hEE⟩ : ∃ E, E = segsE n h ls := ⟨_, rfl⟩
  rw [← hEE]
  have Rd := Lib.hid rd
  have RD2 := Lib.hid rd'
  have Hc2 := Lib.hid hc2
  have Hlen := Lib.hid hlen
  have Haddr := Lib.hid haddr
  have HEE := Lib.hid hEE
  have Hls := Lib.hid hls
  have Hn0 := Lib.hid hn0
  have Hn := Lib.hid hn
  clear rd rd' hc2 hlen haddr hEE hls hn0 hn
  clear hc1
  unfold SlV.v at hv
  go_enter Tryz.func23, Tryz.ntmps23
  go_wp2_with ((with_reducible refine Lay.bxL (L := imgL) 30 m ?_ ?_); exact rfl; intro W1 bm ebm cbm xbm; replace ebm := Lib.hid ebm; replace cbm := Lib.hid cbm; replace xbm := Lib.hid xbm; refine Hid.out ?_)
  refine Lib.hid ?_
  go_wp2_with fail
  go_loopw [7, 8] (fun s7 s8 wr => ∃ (i : Nat) (f : Int), i ≤ ls.length ∧ s8 = .int .i64 (i : Int) ∧ s7 = .int .i64 f ∧ DsR w n ls i f wr ∧ Chg [] W1 wr) (fun _ s8 _ => ls.length - (intOf s8).toNat)
  case atStart => exact ⟨0, -1, Nat.zero_le _, rfl, rfl, ⟨cbm.out, FstIs.zero _, rfl, fun _ h => absurd h (Nat.not_lt_zero _)⟩, Chg.refl _ _⟩
  case round =>
    obtain ⟨i, f, hi, rfl, rfl, hr, hc1r⟩ := hrel
    have R := Lib.hid (hr)
    have C1 := Lib.hid (hc1r)
    clear hr hc1r
    have x4 := Img.c_segs (xbm.out.frame C1.out)
    rw [hv] at x4
    by_cases hlt : i < ls.length
    · have dlt : decide ((i : Int) < (ls.length : Int)) = true := decide_eq_true (by omega)
      obtain ⟨g, o, hao, _, hin⟩ := RD2.out.at (by omega)
      have hi1 := (hin i hlt).frame R.out.chg
      have hsb := Hls.out i hlt
      have hgo := R.out.go
      rw [drop_getD ls i Seg.zero hlt] at hgo
      obtain ⟨s, hs⟩ : ∃ s, s = ls.getD i Seg.zero := ⟨_, rfl⟩
      rw [show ls.getD i segL.d = s from hs.symm] at hi1
      rw [← hs] at hgo hsb
      rw [each_cons] at hgo
      rw [show segL.n = 7 from rfl] at hi1
      subst hao
      have Hi1 := Lib.hid hi1
      have HIN := Lib.hid hin
      have Hs := Lib.hid hs
      have Hgo := Lib.hid hgo
      clear hi1 hin hs hgo
      have hn' := Hn.out
      have hn0' := Hn0.out
      have hA := fun w => rwithinI_any s.off s.fsize n hsb.2.2.1.1 hsb.2.2.2.1 hn' w
      have hB := fun w => rwithinI_any s.addr s.size 140737488355328 hsb.1.1 hsb.2.1.1 (by decide) w
      have ht1 : s.addr.tmod 4096 = s.addr % 4096 := Int.tmod_eq_emod_of_nonneg hsb.1.1
      have ht2 : s.size.tmod 4096 = s.size % 4096 := Int.tmod_eq_emod_of_nonneg hsb.2.1.1
      obtain ⟨hf0, hf1⟩ : 0 ≤ s.fsize ∧ 0 ≤ s.size := ⟨hsb.2.2.2.1, hsb.2.1.1⟩
      have HA := Lib.hid hA
      have HB := Lib.hid hB
      have Ht1 := Lib.hid ht1
      have Ht2 := Lib.hid ht2
      have Hf0 := Lib.hid hf0
      have Hf1 := Lib.hid hf1
      have Hn' := Lib.hid hn'
      have Hn0' := Lib.hid hn0'
      have Hsb := Lib.hid hsb
      clear hA hB ht1 ht2 hf0 hf1 hn' hn0' hsb
      obtain ⟨q1, hq1⟩ : ∃ q, q = p1B s := ⟨_, rfl⟩
      obtain ⟨q2, hq2⟩ : ∃ q, q = p2B n s := ⟨_, rfl⟩
      have Hq1 := Lib.hid hq1
      have Hq2 := Lib.hid hq2
      clear hq1 hq2
      go_wp2_with ((with_reducible refine Lay.ldL Tryz.tSeg s (Hi1.out) ?_ ?_); exact rfl; refine Hid.out ?_)
      refine Lib.hid ?_
      go_wp2_with ((with_reducible refine Lay.alL Tryz.tSeg ?_); intro Wa bx ebx cbx xbx; replace ebx := Lib.hid ebx; replace cbx := Lib.hid cbx; replace xbx := Lib.hid xbx; refine Hid.out ?_)
      refine Lib.hid ?_
      go_wp2_with ((with_reducible refine Lay.stL Tryz.tSeg s (xbx.out) ?_ ?_ ?_); exact rfl; exact rfl; intro Wb cWb xWb; replace cWb := Lib.hid cWb; replace xWb := Lib.hid xWb; refine Hid.out ?_)
      refine Lib.hid ?_
      have K4 : Hid (Chg [] wr Wb) := Lib.hid (cbx.out.new cWb.out (by rw [ebx.out]; exact Nat.le_refl _))
      have X4 := Lib.hid (xWb.out)
      have y0 := Seg.c_name xWb.out
      have y1 := Seg.c_addr xWb.out
      have y2 := Seg.c_size xWb.out
      have y3 := Seg.c_off xWb.out
      have y4 := Seg.c_fsize xWb.out
      have y5 := Seg.c_prot xWb.out
      go_upto_region 6 with fail
      unfold Act.put
      simp only [List.setIfInBounds_toArray, List.set_cons_zero, List.set_cons_succ]
      go_cut [42] (fun s42 wx => s42 = .bool (!q1) ∧ wx = Wb)
      case first =>
        by_cases p0 : s.prot < 0
        · have e1 : decide (s.prot < 0) = true := decide_eq_true p0
          have HQ : Hid (q1 = false) := Lib.hid (by rw [Hq1.out]; unfold p1B; rw [decide_eq_false (by omega)]; rfl)
          have P0 := Lib.hid p0
          clear p0
          go_wp2_with fail
          go_meet
          exact ⟨by rw [HQ.out]; rfl, rfl⟩
        · have e1 : decide (s.prot < 0) = false := decide_eq_false p0
          by_cases p7 : 7 < s.prot
          · have e2 : decide (7 < s.prot) = true := decide_eq_true p7
            have HQ : Hid (q1 = false) := Lib.hid (by rw [Hq1.out]; unfold p1B; rw [decide_eq_false (show ¬ s.prot ≤ 7 by omega)]; simp)
            have P0 := Lib.hid p0
            have P7 := Lib.hid p7
            clear p0 p7
            go_wp2_with fail
            go_meet
            exact ⟨by rw [HQ.out]; rfl, rfl⟩
          · have e2 : decide (7 < s.prot) = false := decide_eq_false p7
            by_cases pz : s.prot = 0
            · have e3 : (s.prot == 0) = true := by rw [pz]; rfl
              by_cases pf : s.fsize = 0
              · have e4 : (s.fsize != 0) = false := by rw [pf]; rfl
                have HQ : Hid (q1 = true) := Lib.hid (by rw [Hq1.out]; unfold p1B; simp [pz, pf])
                have P0 := Lib.hid p0
                have P7 := Lib.hid p7
                have Pz := Lib.hid pz
                have Pf := Lib.hid pf
                clear p0 p7 pz pf
                go_wp2_with fail
                go_meet
                exact ⟨by rw [HQ.out]; rfl, rfl⟩
              · have e4 : (s.fsize != 0) = true := by rw [bne_iff_ne]; exact pf
                have HQ : Hid (q1 = false) := Lib.hid (by rw [Hq1.out]; unfold p1B; rw [decide_eq_true (show 0 < s.fsize by have := Hf0.out; omega)]; simp [pz])
                have P0 := Lib.hid p0
                have P7 := Lib.hid p7
                have Pz := Lib.hid pz
                have Pf := Lib.hid pf
                clear p0 p7 pz pf
                go_wp2_with fail
                go_meet
                exact ⟨by rw [HQ.out]; rfl, rfl⟩
            · have e3 : (s.prot == 0) = false := by rw [beq_eq_false_iff_ne]; exact pz
              have HQ : Hid (q1 = true) := Lib.hid (by rw [Hq1.out]; unfold p1B; rw [decide_eq_true (show 0 ≤ s.prot by omega), decide_eq_true (show s.prot ≤ 7 by omega)]; simp [pz])
              have P0 := Lib.hid p0
              have P7 := Lib.hid p7
              have Pz := Lib.hid pz
              clear p0 p7 pz
              go_wp2_with fail
              go_meet
              exact ⟨by rw [HQ.out]; rfl, rfl⟩
      case rest =>
        obtain ⟨rfl, rfl⟩ := hcut
        obtain ⟨wb, rfl⟩ : ∃ wb, wb = wc := ⟨_, rfl⟩
        cases q1 with
        | false =>
          have HE : Hid (E = 8) := by
            refine Lib.hid ?_
            rw [HEE.out]
            refine segsE_no Haddr.out ?_
            rw [← Hgo.out, placeB_two, ← Hq1.out]
            rfl
          clear y0 y1 y2 y3 y4 y5
          go_wp2
          go_ret
          exact ⟨congrArg (fun z => Ending.returned (.int .i64 z)) HE.out.symm, (R.out.chg.then K4.out)⟩
        | true =>
          go_upto_region 8 with fail
          go_cut [81] (fun s81 wx => s81 = .bool (!q2) ∧ Chg [] wb wx)
          case first =>
            by_cases a1 : s.addr % 4096 = 0
            · have f1 : (s.addr.tmod 4096 != 0) = false := by rw [Ht1.out, a1]; rfl
              by_cases a2 : s.size % 4096 = 0
              · have f2 : (s.size.tmod 4096 != 0) = false := by rw [Ht2.out, a2]; rfl
                by_cases a3 : s.size = 0
                · have f3 : (s.size == 0) = true := by rw [a3]; rfl
                  have HQ : Hid (q2 = false) := Lib.hid (by rw [Hq2.out]; unfold p2B; simp [a3])
                  have A1 := Lib.hid a1
                  have A2 := Lib.hid a2
                  have A3 := Lib.hid a3
                  clear a1 a2 a3
                  go_wp2_with fail
                  go_meet
                  exact ⟨by rw [HQ.out]; rfl, Chg.refl _ _⟩
                · have f3 : (s.size == 0) = false := by rw [beq_eq_false_iff_ne]; exact a3
                  have a3' : 0 < s.size := by have := Hf1.out; omega
                  by_cases a4 : s.size < s.fsize
                  · have f4 : decide (s.size < s.fsize) = true := decide_eq_true a4
                    have HQ : Hid (q2 = false) := Lib.hid (by rw [Hq2.out]; unfold p2B; rw [decide_eq_false (show ¬ s.fsize ≤ s.size by omega)]; simp)
                    have A1 := Lib.hid a1
                    have A2 := Lib.hid a2
                    have A3 := Lib.hid a3
                    have A3' := Lib.hid a3'
                    have A4 := Lib.hid a4
                    clear a1 a2 a3 a3' a4
                    go_wp2_with fail
                    go_meet
                    exact ⟨by rw [HQ.out]; rfl, Chg.refl _ _⟩
                  · have f4 : decide (s.size < s.fsize) = false := decide_eq_false a4
                    have hA := HA.out
                    have hB := HB.out
                    cases b1 : withinI s.off s.fsize n with
                    | false =>
                      rw [b1] at hA
                      have HQ : Hid (q2 = false) := Lib.hid (by rw [Hq2.out]; unfold p2B; rw [b1]; simp)
                      have A1 := Lib.hid a1
                      have A2 := Lib.hid a2
                      have A3 := Lib.hid a3
                      have A3' := Lib.hid a3'
                      have A4 := Lib.hid a4
                      have B1 := Lib.hid b1
                      have HA' := Lib.hid hA
                      have HB' := Lib.hid hB
                      clear a1 a2 a3 a3' a4 b1 hA hB
                      go_wp2_with fail
                      refine (HA'.out _).mono ?_
                      rintro e Wc ⟨rfl, hc⟩
                      go_wp2_with fail
                      go_meet
                      exact ⟨by rw [HQ.out]; rfl, hc⟩
                    | true =>
                      rw [b1] at hA
                      cases b2 : withinI s.addr s.size 140737488355328 with
                      | false =>
                        rw [b2] at hB
                        have HQ : Hid (q2 = false) := Lib.hid (by rw [Hq2.out]; unfold p2B; rw [b2]; simp)
                        have A1 := Lib.hid a1
                        have A2 := Lib.hid a2
                        have A3 := Lib.hid a3
                        have A3' := Lib.hid a3'
                        have A4 := Lib.hid a4
                        have B1 := Lib.hid b1
                        have B2 := Lib.hid b2
                        have HA' := Lib.hid hA
                        have HB' := Lib.hid hB
                        clear a1 a2 a3 a3' a4 b1 b2 hA hB
                        go_wp2_with fail
                        refine (HA'.out _).mono ?_
                        rintro e Wc ⟨rfl, hc⟩
                        replace y1 := hc.cell y1 (by simp)
                        replace y2 := hc.cell y2 (by simp)
                        go_wp2_with fail
                        refine (HB'.out _).mono ?_
                        rintro e Wd ⟨rfl, hd⟩
                        go_wp2_with fail
                        go_meet
                        exact ⟨by rw [HQ.out]; rfl, hc.then hd⟩
                      | true =>
                        rw [b2] at hB
                        have HQ : Hid (q2 = true) := Lib.hid (by rw [Hq2.out]; unfold p2B; rw [b1, b2, decide_eq_true a1, decide_eq_true a2, decide_eq_true a3', decide_eq_true (show s.fsize ≤ s.size by omega)]; rfl)
                        have A1 := Lib.hid a1
                        have A2 := Lib.hid a2
                        have A3 := Lib.hid a3
                        have A3' := Lib.hid a3'
                        have A4 := Lib.hid a4
                        have B1 := Lib.hid b1
                        have B2 := Lib.hid b2
                        have HA' := Lib.hid hA
                        have HB' := Lib.hid hB
                        clear a1 a2 a3 a3' a4 b1 b2 hA hB
                        go_wp2_with fail
                        refine (HA'.out _).mono ?_
                        rintro e Wc ⟨rfl, hc⟩
                        replace y1 := hc.cell y1 (by simp)
                        replace y2 := hc.cell y2 (by simp)
                        go_wp2_with fail
                        refine (HB'.out _).mono ?_
                        rintro e Wd ⟨rfl, hd⟩
                        go_wp2_with fail
                        go_meet
                        exact ⟨by rw [HQ.out]; rfl, hc.then hd⟩
              · have f2 : (s.size.tmod 4096 != 0) = true := by rw [Ht2.out, bne_iff_ne]; exact a2
                have HQ : Hid (q2 = false) := Lib.hid (by rw [Hq2.out]; unfold p2B; simp [a2])
                have A1 := Lib.hid a1
                have A2 := Lib.hid a2
                clear a1 a2
                go_wp2_with fail
                go_meet
                exact ⟨by rw [HQ.out]; rfl, Chg.refl _ _⟩
            · have f1 : (s.addr.tmod 4096 != 0) = true := by rw [Ht1.out, bne_iff_ne]; exact a1
              have HQ : Hid (q2 = false) := Lib.hid (by rw [Hq2.out]; unfold p2B; simp [a1])
              have A1 := Lib.hid a1
              clear a1
              go_wp2_with fail
              go_meet
              exact ⟨by rw [HQ.out]; rfl, Chg.refl _ _⟩
          case rest =>
            obtain ⟨rfl, hcb⟩ := hcut
            have CB := Lib.hid (hcb)
            clear hcb
            cases q2 with
            | false =>
              have HE : Hid (E = 8) := by
                refine Lib.hid ?_
                rw [HEE.out]
                refine segsE_no Haddr.out ?_
                rw [← Hgo.out, placeB_two, ← Hq1.out, ← Hq2.out]
                rfl
              clear y0 y1 y2 y3 y4 y5
              go_wp2
              go_ret
              exact ⟨congrArg (fun z => Ending.returned (.int .i64 z)) HE.out.symm, (R.out.chg.then (K4.out.then CB.out))⟩
            | true =>
              rw [show (!true) = false from rfl]
              have HPL : Hid (placeB n s = true) := Lib.hid (by rw [placeB_two, ← Hq1.out, ← Hq2.out]; rfl)
              have hgo2 := Hgo.out
              rw [HPL.out, Bool.true_and] at hgo2
              have Hgo2 := Lib.hid hgo2
              clear hgo2
              clear y0 y1 y2 y3 y4 y5 x4
              obtain ⟨wo, rfl⟩ : ∃ wo, wo = wr := ⟨_, rfl⟩
              obtain ⟨wi, rfl⟩ : ∃ wi, wi = wc := ⟨_, rfl⟩
              have KO := Lib.hid (K4.out.then CB.out)
              have X5 := Lib.hid (X4.out.frame CB.out)
              go_wp2_with fail
              go_loopw [10] (fun s10 wr => ∃ k : Nat, k ≤ i ∧ s10 = .int .i64 (k : Int) ∧ Chg [] wi wr ∧ ((ls.take i).drop k).all (behB s) = (ls.take i).all (behB s)) (fun s10 _ => i - (intOf s10).toNat)
              case atStart => exact ⟨0, Nat.zero_le _, rfl, Chg.refl _ _, rfl⟩
              case round =>
                obtain ⟨k, hk, rfl, hck, hgk⟩ := hrel
                have CK := Lib.hid (hck)
                clear hck
                have htl : (ls.take i).length = i := by rw [List.length_take]; omega
                by_cases hkl : k < i
                · have dlk : decide ((k : Int) < (i : Int)) = true := decide_eq_true (by omega)
                  have x4 := Img.c_segs (xbm.out.frame (C1.out.then (KO.out.then CK.out)))
                  rw [hv] at x4
                  have hq0 := (HIN.out k (by omega)).frame (R.out.chg.then (KO.out.then CK.out))
                  rw [drop_getD (ls.take i) k Seg.zero (by rw [htl]; exact hkl)] at hgk
                  have hgt : (ls.take i).getD k Seg.zero = ls.getD k Seg.zero := by
                    rw [List.getD_eq_getElem?_getD, List.getD_eq_getElem?_getD, List.getElem?_take_of_lt hkl]
                  rw [hgt] at hgk
                  have hpk := R.out.pl k hkl
                  have hqb := Hls.out k (by omega)
                  obtain ⟨q, hq⟩ : ∃ q, q = ls.getD k Seg.zero := ⟨_, rfl⟩
                  rw [show ls.getD k segL.d = q from hq.symm] at hq0
                  rw [← hq] at hgk hpk hqb
                  rw [List.all_cons] at hgk
                  rw [show segL.n = 7 from rfl] at hq0
                  have hend := placeB_end hpk
                  have hwq : IntKind.u64.wrap (q.addr + q.size) = q.addr + q.size := by rw [IntKind.wrap_u64]; unfold SegB at hqb; omega
                  have hbd : behB s q = (!decide (q.name = s.name) && decide (q.addr + q.size ≤ s.addr)) := rfl
                  have hnd := name_dec q.name s.name
                  have hlk2 : k < ls.length := by omega
                  have hw1 : wrap64 ((k : Int) + 1) = (k : Int) + 1 := by have := Hlen.out; unfold wrap64; omega
                  have Hq0 := Lib.hid hq0
                  have Hq := Lib.hid hq
                  have Hpk := Lib.hid hpk
                  have Hqb := Lib.hid hqb
                  have Hend := Lib.hid hend
                  have Hgt := Lib.hid hgt
                  have Htl := Lib.hid htl
                  have Hlk2 := Lib.hid hlk2
                  clear hq0 hq hpk hqb hend hgt htl hlk2
                  by_cases n1 : q.name = s.name
                  · rw [decide_eq_true n1] at hbd hnd
                    rw [Bool.not_true, Bool.false_and] at hbd
                    rw [hbd, Bool.false_and] at hgk
                    have HE : Hid (E = 8) := by
                      refine Lib.hid ?_
                      rw [HEE.out]
                      refine segsE_no Haddr.out ?_
                      rw [← Hgo2.out, ← hgk]
                      rfl
                    have Hbd := Lib.hid hbd
                    have Hgk := Lib.hid hgk
                    have N1 := Lib.hid n1
                    have Hwq := Lib.hid hwq
                    clear hbd hgk n1 hwq
                    go_wp2_with ((with_reducible refine Lay.ldL Tryz.tSeg q (Hq0.out) ?_ ?_); exact rfl; refine Hid.out ?_)
                    refine Lib.hid ?_
                    go_wp2_with ((with_reducible refine Lay.alL Tryz.tSeg ?_); intro We bz ebz cbz xbz; replace ebz := Lib.hid ebz; replace cbz := Lib.hid cbz; replace xbz := Lib.hid xbz; refine Hid.out ?_)
                    refine Lib.hid ?_
                    go_wp2_with ((with_reducible refine Lay.stL Tryz.tSeg q (xbz.out) ?_ ?_ ?_); exact rfl; exact rfl; intro Wf cWf xWf; replace cWf := Lib.hid cWf; replace xWf := Lib.hid xWf; refine Hid.out ?_)
                    refine Lib.hid ?_
                    have K6 : Hid (Chg [] wr Wf) := Lib.hid (cbz.out.new cWf.out (by rw [ebz.out]; exact Nat.le_refl _))
                    have X6 := Lib.hid (X5.out.frame (CK.out.then K6.out))
                    have z0 := Seg.c_name xWf.out
                    have z1 := Seg.c_addr xWf.out
                    have z2 := Seg.c_size xWf.out
                    have v0 := Seg.c_name X6.out
                    have v1 := Seg.c_addr X6.out
                    clear x4
                    go_wp2
                    go_ret
                    exact ⟨congrArg (fun z => Ending.returned (.int .i64 z)) HE.out.symm, R.out.chg.then (KO.out.then (CK.out.then K6.out))⟩
                  · rw [decide_eq_false n1] at hbd hnd
                    rw [Bool.not_false, Bool.true_and] at hbd
                    by_cases n2 : q.addr + q.size ≤ s.addr
                    · have d2 : decide (s.addr < q.addr + q.size) = false := decide_eq_false (by omega)
                      rw [decide_eq_true n2] at hbd
                      rw [hbd, Bool.true_and] at hgk
                      have Hbd := Lib.hid hbd
                      have Hgk := Lib.hid hgk
                      have N1 := Lib.hid n1
                      have N2 := Lib.hid n2
                      clear hbd hgk n1 n2
                      go_wp2_with ((with_reducible refine Lay.ldL Tryz.tSeg q (Hq0.out) ?_ ?_); exact rfl; refine Hid.out ?_)
                      refine Lib.hid ?_
                      go_wp2_with ((with_reducible refine Lay.alL Tryz.tSeg ?_); intro We bz ebz cbz xbz; replace ebz := Lib.hid ebz; replace cbz := Lib.hid cbz; replace xbz := Lib.hid xbz; refine Hid.out ?_)
                      refine Lib.hid ?_
                      go_wp2_with ((with_reducible refine Lay.stL Tryz.tSeg q (xbz.out) ?_ ?_ ?_); exact rfl; exact rfl; intro Wf cWf xWf; replace cWf := Lib.hid cWf; replace xWf := Lib.hid xWf; refine Hid.out ?_)
                      refine Lib.hid ?_
                      have K6 : Hid (Chg [] wr Wf) := Lib.hid (cbz.out.new cWf.out (by rw [ebz.out]; exact Nat.le_refl _))
                      have X6 := Lib.hid (X5.out.frame (CK.out.then K6.out))
                      have z0 := Seg.c_name xWf.out
                      have z1 := Seg.c_addr xWf.out
                      have z2 := Seg.c_size xWf.out
                      have v0 := Seg.c_name X6.out
                      have v1 := Seg.c_addr X6.out
                      clear x4
                      go_wp2
                      clear z0 z1 z2 v0 v1
                      go_roundw
                      case rel => exact ⟨k + 1, hkl, by first | rfl | exact congrArg (Value.int .i64) hw1, CK.out.then K6.out, Hgk.out⟩
                      case measure => first | exact measB_w hw1 hkl | exact measB_v hkl
                    · have d2 : decide (s.addr < q.addr + q.size) = true := decide_eq_true (by omega)
                      rw [decide_eq_false n2] at hbd
                      rw [hbd, Bool.false_and] at hgk
                      have HE : Hid (E = 8) := by
                        refine Lib.hid ?_
                        rw [HEE.out]
                        refine segsE_no Haddr.out ?_
                        rw [← Hgo2.out, ← hgk]
                        rfl
                      have Hbd := Lib.hid hbd
                      have Hgk := Lib.hid hgk
                      have N1 := Lib.hid n1
                      have N2 := Lib.hid n2
                      clear hbd hgk n1 n2
                      go_wp2_with ((with_reducible refine Lay.ldL Tryz.tSeg q (Hq0.out) ?_ ?_); exact rfl; refine Hid.out ?_)
                      refine Lib.hid ?_
                      go_wp2_with ((with_reducible refine Lay.alL Tryz.tSeg ?_); intro We bz ebz cbz xbz; replace ebz := Lib.hid ebz; replace cbz := Lib.hid cbz; replace xbz := Lib.hid xbz; refine Hid.out ?_)
                      refine Lib.hid ?_
                      go_wp2_with ((with_reducible refine Lay.stL Tryz.tSeg q (xbz.out) ?_ ?_ ?_); exact rfl; exact rfl; intro Wf cWf xWf; replace cWf := Lib.hid cWf; replace xWf := Lib.hid xWf; refine Hid.out ?_)
                      refine Lib.hid ?_
                      have K6 : Hid (Chg [] wr Wf) := Lib.hid (cbz.out.new cWf.out (by rw [ebz.out]; exact Nat.le_refl _))
                      have X6 := Lib.hid (X5.out.frame (CK.out.then K6.out))
                      have z0 := Seg.c_name xWf.out
                      have z1 := Seg.c_addr xWf.out
                      have z2 := Seg.c_size xWf.out
                      have v0 := Seg.c_name X6.out
                      have v1 := Seg.c_addr X6.out
                      clear x4
                      go_wp2
                      go_ret
                      exact ⟨congrArg (fun z => Ending.returned (.int .i64 z)) HE.out.symm, R.out.chg.then (KO.out.then (CK.out.then K6.out))⟩
                · obtain rfl : k = i := by omega
                  have dlk : decide ((k : Int) < (k : Int)) = false := decide_eq_false (by omega)
                  rw [List.drop_eq_nil_of_le (by rw [htl]; exact Nat.le_refl _), List.all_nil] at hgk
                  have hgo3 := Hgo2.out
                  rw [← hgk, Bool.true_and] at hgo3
                  have HG3 : Hid (eachB n (ls.take (k + 1)) (ls.drop (k + 1)) = eachB n [] ls) := Lib.hid (by rw [seg_take_snoc hlt, ← Hs.out]; exact hgo3)
                  have CF := Lib.hid (R.out.chg.then (KO.out.then CK.out))
                  have CF1 := Lib.hid (C1.out.then (KO.out.then CK.out))
                  have X6 := Lib.hid (X5.out.frame CK.out)
                  have hpl : ∀ j, j < k + 1 → placeB n (ls.getD j .zero) = true := fun j hj => by
                    by_cases e : j = k
                    · rw [e, ← Hs.out]; exact HPL.out
                    · exact R.out.pl j (by omega)
                  have hw1 : wrap64 ((k : Int) + 1) = (k : Int) + 1 := by have := Hlen.out; unfold wrap64; omega
                  have Hpl := Lib.hid hpl
                  have Hgk := Lib.hid hgk
                  have Hgo3 := Lib.hid hgo3
                  have Htl := Lib.hid htl
                  clear hpl hgk hgo3 htl
                  by_cases hf : f < 0
                  · have df : decide (f < 0) = true := decide_eq_true hf
                    obtain ⟨hq, hhq⟩ : ∃ hq, hq = holeS s := ⟨_, rfl⟩
                    have hho := fun w => HHO.out s w
                    rw [← hhq] at hho
                    have Hho := Lib.hid hho
                    have Hhq := Lib.hid hhq
                    have Hf := Lib.hid hf
                    clear hho hhq hf
                    go_upto_region 16 with fail
                    go_wp2_with ((with_reducible refine ldG Tryz.tSeg s (X6.out.in) ?_ ?_ ?_); exact rfl; exact rfl; refine Hid.out ?_)
                    refine Lib.hid ?_
                    go_wp2_with fail
                    refine (Hho.out _).mono ?_
                    rintro e Wh ⟨rfl, hch⟩
                    have CH := Lib.hid (hch)
                    clear hch
                    cases hq with
                    | true =>
                      go_wp2
                      go_roundw
                      case rel => exact ⟨k + 1, f, hlt, by first | rfl | exact congrArg (Value.int .i64) hw1, rfl, ⟨CF.out.then CH.out, R.out.fst.hole (by rw [← Hs.out]; exact Hhq.out.symm), HG3.out, Hpl.out⟩, CF1.out.then CH.out⟩
                      case measure => first | exact measB_w hw1 hlt | exact measB_v hlt
                    | false =>
                      go_wp2
                      go_roundw
                      case rel => exact ⟨k + 1, k, hlt, by first | rfl | exact congrArg (Value.int .i64) hw1, rfl, ⟨CF.out.then CH.out, R.out.fst.laid Hf.out (by rw [← Hs.out]; exact Hhq.out.symm), HG3.out, Hpl.out⟩, CF1.out.then CH.out⟩
                      case measure => first | exact measB_w hw1 hlt | exact measB_v hlt
                  · have df : decide (f < 0) = false := decide_eq_false hf
                    have Hf := Lib.hid hf
                    clear hf
                    go_wp2
                    go_roundw
                    case rel => exact ⟨k + 1, f, hlt, by first | rfl | exact congrArg (Value.int .i64) hw1, rfl, ⟨CF.out, R.out.fst.had Hf.out, HG3.out, Hpl.out⟩, CF1.out⟩
                    case measure => first | exact measB_w hw1 hlt | exact measB_v hlt
    · obtain rfl : i = ls.length := by omega
      have dlt : decide ((ls.length : Int) < (ls.length : Int)) = false := decide_eq_false (by omega)
      have hgo := R.out.go
      rw [List.drop_eq_nil_of_le (Nat.le_refl _)] at hgo
      rw [show eachB n (ls.take ls.length) [] = true from rfl] at hgo
      have hfi := R.out.fst.idx
      cases hix : idx (fun s => !holeS s) ls with
      | none =>
        rw [hix] at hfi
        have HE : Hid (E = 8) := Lib.hid (by rw [HEE.out, segsE_none hix])
        replace hfi : f = -1 := hfi
        subst hfi
        have Hgo := Lib.hid hgo
        have Hix := Lib.hid hix
        clear hgo hix
        go_wp2
        go_ret
        exact ⟨congrArg (fun z => Ending.returned (.int .i64 z)) HE.out.symm, R.out.chg⟩
      | some q =>
        have hql := idx_lt hix
        rw [hix] at hfi
        replace hfi : f = (q : Int) := hfi
        subst hfi
        have dq : ¬ (q : Int) < 0 := by omega
        have hEq : E = if firstB h (ls.getD q .zero) = true then 0 else 8 := by rw [HEE.out, segsE_some Haddr.out hgo.symm hix]
        obtain ⟨g, o, hao, _, hin⟩ := RD2.out.at (by omega)
        have hi1 := (hin q hql).frame R.out.chg
        have hp := R.out.pl q hql
        obtain ⟨s, hs⟩ : ∃ s, s = ls.getD q Seg.zero := ⟨_, rfl⟩
        rw [show ls.getD q segL.d = s from hs.symm] at hi1
        rw [← hs] at hEq hp
        rw [show segL.n = 7 from rfl] at hi1
        subst hao
        have hpr : 0 ≤ s.prot ∧ s.prot ≤ 7 := by
          unfold placeB at hp
          simp only [Bool.and_eq_true, decide_eq_true_eq] at hp
          exact ⟨hp.1, hp.2.1⟩
        obtain ⟨g1, g2⟩ := prot_bits hpr.1 hpr.2
        unfold firstB at hEq
        rw [g1, g2] at hEq
        have Hgo := Lib.hid hgo
        have Hix := Lib.hid hix
        have Hql := Lib.hid hql
        have Hin := Lib.hid hin
        have Hi1 := Lib.hid hi1
        have Hp := Lib.hid hp
        have Hs := Lib.hid hs
        have Hpr := Lib.hid hpr
        have G1 := Lib.hid g1
        have G2 := Lib.hid g2
        clear hgo hix hql hin hi1 hp hs hpr g1 g2
        by_cases b1 : s.off = 0
        · have c1 : (s.off != 0) = false := by rw [b1]; rfl
          by_cases b2 : s.fsize < h
          · have c2 : decide (s.fsize < h) = true := decide_eq_true b2
            have HE8 : Hid (E = 8) := Lib.hid (by rw [hEq]; simp [b2])
            have HEq := Lib.hid hEq
            have B1 := Lib.hid b1
            have B2 := Lib.hid b2
            clear hEq b1 b2
            go_wp2_with ((with_reducible refine Lay.ldL Tryz.tSeg s (Hi1.out) ?_ ?_); exact rfl; refine Hid.out ?_)
            refine Lib.hid ?_
            go_wp2_with ((with_reducible refine Lay.alL Tryz.tSeg ?_); intro Wa bx ebx cbx xbx; replace ebx := Lib.hid ebx; replace cbx := Lib.hid cbx; replace xbx := Lib.hid xbx; refine Hid.out ?_)
            refine Lib.hid ?_
            go_wp2_with ((with_reducible refine Lay.stL Tryz.tSeg s (xbx.out) ?_ ?_ ?_); exact rfl; exact rfl; intro Wb cWb xWb; replace cWb := Lib.hid cWb; replace xWb := Lib.hid xWb; refine Hid.out ?_)
            refine Lib.hid ?_
            have K4 : Hid (Chg [] wr Wb) := Lib.hid (cbx.out.new cWb.out (by rw [ebx.out]; exact Nat.le_refl _))
            have y3 := Seg.c_off xWb.out
            have y4 := Seg.c_fsize xWb.out
            have y5 := Seg.c_prot xWb.out
            clear x4
            go_wp2
            go_ret
            exact ⟨congrArg (fun z => Ending.returned (.int .i64 z)) HE8.out.symm, R.out.chg.then K4.out⟩
          · have c2 : decide (s.fsize < h) = false := decide_eq_false b2
            cases c3 : (s.prot.tmod 2 == 0) with
            | true =>
              have HE8 : Hid (E = 8) := Lib.hid (by rw [hEq, c3]; simp)
              have HEq := Lib.hid hEq
              have B1 := Lib.hid b1
              have B2 := Lib.hid b2
              clear hEq b1 b2
              go_wp2_with ((with_reducible refine Lay.ldL Tryz.tSeg s (Hi1.out) ?_ ?_); exact rfl; refine Hid.out ?_)
              refine Lib.hid ?_
              go_wp2_with ((with_reducible refine Lay.alL Tryz.tSeg ?_); intro Wa bx ebx cbx xbx; replace ebx := Lib.hid ebx; replace cbx := Lib.hid cbx; replace xbx := Lib.hid xbx; refine Hid.out ?_)
              refine Lib.hid ?_
              go_wp2_with ((with_reducible refine Lay.stL Tryz.tSeg s (xbx.out) ?_ ?_ ?_); exact rfl; exact rfl; intro Wb cWb xWb; replace cWb := Lib.hid cWb; replace xWb := Lib.hid xWb; refine Hid.out ?_)
              refine Lib.hid ?_
              have K4 : Hid (Chg [] wr Wb) := Lib.hid (cbx.out.new cWb.out (by rw [ebx.out]; exact Nat.le_refl _))
              have y3 := Seg.c_off xWb.out
              have y4 := Seg.c_fsize xWb.out
              have y5 := Seg.c_prot xWb.out
              clear x4
              go_wp2
              go_ret
              exact ⟨congrArg (fun z => Ending.returned (.int .i64 z)) HE8.out.symm, R.out.chg.then K4.out⟩
            | false =>
              cases c4 : ((wrap64 (s.prot.tdiv 2)).tmod 2 == 1) with
              | true =>
                have HE8 : Hid (E = 8) := Lib.hid (by rw [hEq, c4]; simp)
                have HEq := Lib.hid hEq
                have B1 := Lib.hid b1
                have B2 := Lib.hid b2
                clear hEq b1 b2
                go_wp2_with ((with_reducible refine Lay.ldL Tryz.tSeg s (Hi1.out) ?_ ?_); exact rfl; refine Hid.out ?_)
                refine Lib.hid ?_
                go_wp2_with ((with_reducible refine Lay.alL Tryz.tSeg ?_); intro Wa bx ebx cbx xbx; replace ebx := Lib.hid ebx; replace cbx := Lib.hid cbx; replace xbx := Lib.hid xbx; refine Hid.out ?_)
                refine Lib.hid ?_
                go_wp2_with ((with_reducible refine Lay.stL Tryz.tSeg s (xbx.out) ?_ ?_ ?_); exact rfl; exact rfl; intro Wb cWb xWb; replace cWb := Lib.hid cWb; replace xWb := Lib.hid xWb; refine Hid.out ?_)
                refine Lib.hid ?_
                have K4 : Hid (Chg [] wr Wb) := Lib.hid (cbx.out.new cWb.out (by rw [ebx.out]; exact Nat.le_refl _))
                have y3 := Seg.c_off xWb.out
                have y4 := Seg.c_fsize xWb.out
                have y5 := Seg.c_prot xWb.out
                clear x4
                go_wp2
                go_ret
                exact ⟨congrArg (fun z => Ending.returned (.int .i64 z)) HE8.out.symm, R.out.chg.then K4.out⟩
              | false =>
                have HE8 : Hid (E = 0) := Lib.hid (by rw [hEq, c3, c4, c2, decide_eq_true b1]; rfl)
                have HEq := Lib.hid hEq
                have B1 := Lib.hid b1
                have B2 := Lib.hid b2
                clear hEq b1 b2
                go_wp2_with ((with_reducible refine Lay.ldL Tryz.tSeg s (Hi1.out) ?_ ?_); exact rfl; refine Hid.out ?_)
                refine Lib.hid ?_
                go_wp2_with ((with_reducible refine Lay.alL Tryz.tSeg ?_); intro Wa bx ebx cbx xbx; replace ebx := Lib.hid ebx; replace cbx := Lib.hid cbx; replace xbx := Lib.hid xbx; refine Hid.out ?_)
                refine Lib.hid ?_
                go_wp2_with ((with_reducible refine Lay.stL Tryz.tSeg s (xbx.out) ?_ ?_ ?_); exact rfl; exact rfl; intro Wb cWb xWb; replace cWb := Lib.hid cWb; replace xWb := Lib.hid xWb; refine Hid.out ?_)
                refine Lib.hid ?_
                have K4 : Hid (Chg [] wr Wb) := Lib.hid (cbx.out.new cWb.out (by rw [ebx.out]; exact Nat.le_refl _))
                have y3 := Seg.c_off xWb.out
                have y4 := Seg.c_fsize xWb.out
                have y5 := Seg.c_prot xWb.out
                clear x4
                go_wp2
                go_ret
                exact ⟨congrArg (fun z => Ending.returned (.int .i64 z)) HE8.out.symm, R.out.chg.then K4.out⟩
        · have c1 : (s.off != 0) = true := by rw [bne_iff_ne]; exact b1
          have HE8 : Hid (E = 8) := Lib.hid (by rw [hEq]; simp [b1])
          have HEq := Lib.hid hEq
          have B1 := Lib.hid b1
          clear hEq b1
          go_wp2_with ((with_reducible refine Lay.ldL Tryz.tSeg s (Hi1.out) ?_ ?_); exact rfl; refine Hid.out ?_)
          refine Lib.hid ?_
          go_wp2_with ((with_reducible refine Lay.alL Tryz.tSeg ?_); intro Wa bx ebx cbx xbx; replace ebx := Lib.hid ebx; replace cbx := Lib.hid cbx; replace xbx := Lib.hid xbx; refine Hid.out ?_)
          refine Lib.hid ?_
          go_wp2_with ((with_reducible refine Lay.stL Tryz.tSeg s (xbx.out) ?_ ?_ ?_); exact rfl; exact rfl; intro Wb cWb xWb; replace cWb := Lib.hid cWb; replace xWb := Lib.hid xWb; refine Hid.out ?_)
          refine Lib.hid ?_
          have K4 : Hid (Chg [] wr Wb) := Lib.hid (cbx.out.new cWb.out (by rw [ebx.out]; exact Nat.le_refl _))
          have y3 := Seg.c_off xWb.out
          have y4 := Seg.c_fsize xWb.out
          have y5 := Seg.c_prot xWb.out
          clear x4
          go_wp2
          go_ret
          exact ⟨congrArg (fun z => Ending.returned (.int .i64 z)) HE8.out.symm, R.out.chg.then K4.out⟩
/- The document's sections (of layer 6). -/
open Go.RowKit
set_option maxRecDepth 100000
theorem wrap_three (a b c : Int) : IntKind.u64.wrap (IntKind.u64.wrap (a + b) - c) = IntKind.u64.wrap (a + (b - c)) := by
  rw [IntKind.wrap_u64, IntKind.wrap_u64, IntKind.wrap_u64]
  omega
set_option maxHeartbeats 8000000 in
theorem rsections_any (m : Img) (xs : List Seg) (ps : List SegP) (hb : ImB ps) (w : World) (rd : segL.Rd w m.segs.v xs) (hxl : xs.length = ps.length) (hsr : ∀ i, i < xs.length → SegRd w (xs.getD i .zero) (ps.getD i .zero)) :
    Calls Tryz.prog 24 #[imgL.val m] w fun e w' => e = .returned (.int .i64 (secsE ps)) ∧ Chg [] w w' := by
  obtain ⟨a, cap, hv, hc1, hc2⟩ := rd.shape
  have rd' := rd
  rw [hv] at rd'
  have hlen : xs.length ≤ 9223372036854775807 := Nat.le_trans hc1 hc2
  obtain ⟨E, hEE⟩ : ∃ E, E = secsE ps := ⟨_, rfl⟩
  rw [← hEE]
  unfold secsE at hEE
  have Rd := Lib.hid rd
  have RD2 := Lib.hid rd'
  have Hc2 := Lib.hid hc2
  have Hlen := Lib.hid hlen
  have HEE := Lib.hid hEE
  have Hxl := Lib.hid hxl
  have Hsr := Lib.hid hsr
  have Hb := Lib.hid hb
  clear rd rd' hc2 hlen hEE hxl hsr hb
  clear hc1
  unfold SlV.v at hv
  go_enter Tryz.func24, Tryz.ntmps24
  go_wp2_with ((with_reducible refine Lay.bxL (L := imgL) 30 m ?_ ?_); exact rfl; intro W1 bm ebm cbm xbm; replace ebm := Lib.hid ebm; replace cbm := Lib.hid cbm; replace xbm := Lib.hid xbm; refine Hid.out ?_)
  refine Lib.hid ?_
  go_wp2_with fail
  go_loopw [3] (fun s3 wr => ∃ k : Nat, k ≤ xs.length ∧ s3 = .int .i64 (k : Int) ∧ Chg [] w wr ∧ (ps.drop k).all segSecB = ps.all segSecB ∧ Chg [] W1 wr) (fun s3 _ => xs.length - (intOf s3).toNat)
  case atStart => exact ⟨0, Nat.zero_le _, rfl, cbm.out, rfl, Chg.refl _ _⟩
  case round =>
    obtain ⟨k, hk, rfl, hck, hgo, hc1r⟩ := hrel
    have C1 := Lib.hid (hc1r)
    clear hc1r
    have x4 := Img.c_segs (xbm.out.frame C1.out)
    rw [hv] at x4
    by_cases hlt : k < xs.length
    · have dlt : decide ((k : Int) < (xs.length : Int)) = true := decide_eq_true (by omega)
      obtain ⟨g, o, hao, _, hin⟩ := RD2.out.at (by omega)
      have hi := (hin k hlt).frame hck
      have hsrk := (Hsr.out k hlt).frame hck
      have hkp : k < ps.length := by rw [← Hxl.out]; exact hlt
      have hbk := Hb.out.seg k hkp
      have hbj := Hb.out.sec k hkp
      obtain ⟨s, hs⟩ : ∃ s, s = xs.getD k Seg.zero := ⟨_, rfl⟩
      obtain ⟨p, hp⟩ : ∃ p, p = ps.getD k SegP.zero := ⟨_, rfl⟩
      rw [show xs.getD k segL.d = s from hs.symm] at hi
      rw [drop_getD ps k SegP.zero hkp] at hgo
      rw [← hp] at hgo hbk hbj
      rw [← hs, ← hp] at hsrk
      rw [List.all_cons] at hgo
      rw [show segL.n = 7 from rfl] at hi
      subst hao
      obtain ⟨hbar, hrk⟩ := hsrk
      obtain ⟨_, e1, e2, e3, e4, _⟩ := seg_bare hbar
      obtain ⟨ak, ck, hvk, hck1, hck2⟩ := hrk.shape
      rw [hvk] at hrk
      have hlk : p.ks.length ≤ 9223372036854775807 := Nat.le_trans hck1 hck2
      have CK := Lib.hid (hck)
      have Hi := Lib.hid hi
      have Hin := Lib.hid hin
      have Hs := Lib.hid hs
      have Hp := Lib.hid hp
      have Hbk := Lib.hid hbk
      have Hbj := Lib.hid hbj
      have RK := Lib.hid hrk
      have Hgo := Lib.hid hgo
      have Hbar := Lib.hid hbar
      have Hck1 := Lib.hid hck1
      have Hck2 := Lib.hid hck2
      have Hlk := Lib.hid hlk
      clear hi hin hs hp hbk hbj hrk hgo hbar hck1 hck2 hlk
      clear hck
      go_wp2_with ((with_reducible refine Lay.ldL Tryz.tSeg s (Hi.out) ?_ ?_); exact rfl; refine Hid.out ?_)
      refine Lib.hid ?_
      go_wp2_with ((with_reducible refine Lay.alL Tryz.tSeg ?_); intro Wa bx ebx cbx xbx; replace ebx := Lib.hid ebx; replace cbx := Lib.hid cbx; replace xbx := Lib.hid xbx; refine Hid.out ?_)
      refine Lib.hid ?_
      go_wp2_with ((with_reducible refine Lay.stL Tryz.tSeg s (xbx.out) ?_ ?_ ?_); exact rfl; exact rfl; intro Wb cWb xWb; replace cWb := Lib.hid cWb; replace xWb := Lib.hid xWb; refine Hid.out ?_)
      refine Lib.hid ?_
      have K1 : Hid (Chg [] wr Wb) := Lib.hid (cbx.out.new cWb.out (by rw [ebx.out]; exact Nat.le_refl _))
      have SB := Lib.hid (xWb.out)
      clear x4
      have hsp : segSecB p = p.ks.all (secB s) := by unfold segSecB; rw [← Hbar.out]; rfl
      have hsb : SegB s := by have := Hbk.out; unfold SegB at *; omega
      have E1 := Lib.hid e1
      have E2 := Lib.hid e2
      have E3 := Lib.hid e3
      have E4 := Lib.hid e4
      have Hsp := Lib.hid hsp
      have Hsb := Lib.hid hsb
      clear e1 e2 e3 e4 hsp hsb
      obtain ⟨wo, rfl⟩ : ∃ wo, wo = wr := ⟨_, rfl⟩
      have CB := Lib.hid (CK.out.then K1.out)
      go_wp2_with fail
      go_loopw [5] (fun s5 wr => ∃ j : Nat, j ≤ p.ks.length ∧ s5 = .int .i64 (j : Int) ∧ Chg [] Wb wr ∧ (p.ks.drop j).all (secB s) = p.ks.all (secB s)) (fun s5 _ => p.ks.length - (intOf s5).toNat)
      case atStart => exact ⟨0, Nat.zero_le _, rfl, Chg.refl _ _, rfl⟩
      case round =>
        obtain ⟨j, hj, rfl, hcj, hgn⟩ := hrel
        have CJ := Lib.hid (hcj)
        clear hcj
        have y6 := Seg.c_secs (SB.out.frame CJ.out)
        rw [hvk] at y6
        by_cases hjl : j < p.ks.length
        · have dlj : decide ((j : Int) < (p.ks.length : Int)) = true := decide_eq_true (by omega)
          obtain ⟨g2, o2, ha2, _, hin2⟩ := RK.out.at (by omega)
          have hx := (hin2 j hjl).frame (K1.out.then CJ.out)
          rw [drop_getD p.ks j Sec.zero hjl] at hgn
          have hxb := Hbj.out j hjl
          obtain ⟨x, hx0⟩ : ∃ x, x = p.ks.getD j Sec.zero := ⟨_, rfl⟩
          rw [show p.ks.getD j secL.d = x from hx0.symm] at hx
          rw [← hx0] at hgn hxb
          rw [List.all_cons] at hgn
          rw [show secL.n = 6 from rfl] at hx
          subst ha2
          have HX := Lib.hid hx
          have Hin2 := Lib.hid hin2
          have Hx0 := Lib.hid hx0
          clear hx hin2 hx0
          unfold SecB at hxb
          have hsb := Hsb.out
          unfold SegB at hsb
          by_cases a1 : x.addr < s.addr
          · have f1 : decide (x.addr < s.addr) = true := decide_eq_true a1
            have hb1 : secB s x = false := by unfold secB; rw [decide_eq_false (by omega)]; rfl
            rw [hb1, Bool.false_and] at hgn
            have HE : Hid (E = 9) := Lib.hid (bad9 HEE.out Hgo.out Hsp.out hgn)
            have Hgn := Lib.hid hgn
            have Hb1 := Lib.hid hb1
            have A1 := Lib.hid a1
            have Hxb := Lib.hid hxb
            have HSB := Lib.hid hsb
            clear hgn hb1 a1 hxb hsb
            go_wp2_with ((with_reducible refine Lay.ldL Tryz.tSec x (HX.out) ?_ ?_); exact rfl; refine Hid.out ?_)
            refine Lib.hid ?_
            go_wp2_with ((with_reducible refine Lay.alL Tryz.tSec ?_); intro Wa bx ebx cbx xbx; replace ebx := Lib.hid ebx; replace cbx := Lib.hid cbx; replace xbx := Lib.hid xbx; refine Hid.out ?_)
            refine Lib.hid ?_
            go_wp2_with ((with_reducible refine Lay.stL Tryz.tSec x (xbx.out) ?_ ?_ ?_); exact rfl; exact rfl; intro Wb cWb xWb; replace cWb := Lib.hid cWb; replace xWb := Lib.hid xWb; refine Hid.out ?_)
            refine Lib.hid ?_
            clear y6
            have K4 : Hid (Chg [] wr Wb) := Lib.hid (cbx.out.new cWb.out (by rw [ebx.out]; exact Nat.le_refl _))
            have S4 := Lib.hid (SB.out.frame (CJ.out.then K4.out))
            have CT := Lib.hid (CB.out.then (CJ.out.then K4.out))
            have y1 := Seg.c_addr S4.out
            have y2 := Seg.c_size S4.out
            have y3 := Seg.c_off S4.out
            have y4 := Seg.c_fsize S4.out
            have z2 := Sec.c_addr xWb.out
            have z3 := Sec.c_size xWb.out
            have z4 := Sec.c_off xWb.out
            have z5 := Sec.c_kind xWb.out
            go_wp2
            go_ret
            exact ⟨congrArg (fun z => Ending.returned (.int .i64 z)) HE.out.symm, CT.out⟩
          · have f1 : decide (x.addr < s.addr) = false := decide_eq_false a1
            have hw : IntKind.u64.wrap (x.addr - s.addr) = x.addr - s.addr := by rw [IntKind.wrap_u64]; omega
            have hA := fun w => rwithinI_any (x.addr - s.addr) x.size s.size (by omega) hxb.2.1.1 hsb.2.1.2 w
            have hB := fun w => rwithinI_any (x.addr - s.addr) x.size s.fsize (by omega) hxb.2.1.1 hsb.2.2.2.2 w
            have hsecB : secB s x = (withinI (x.addr - s.addr) x.size s.size && (decide (x.kind = 1) || (decide (x.off = IntKind.u64.wrap (s.off + (x.addr - s.addr))) && withinI (x.addr - s.addr) x.size s.fsize))) := by
              unfold secB; rw [decide_eq_true (show s.addr ≤ x.addr by omega), Bool.true_and]
            cases b1 : withinI (x.addr - s.addr) x.size s.size with
            | false =>
              rw [b1] at hA hsecB
              rw [Bool.false_and] at hsecB
              rw [hsecB, Bool.false_and] at hgn
              have HE : Hid (E = 9) := Lib.hid (bad9 HEE.out Hgo.out Hsp.out hgn)
              have Hgn := Lib.hid hgn
              have HsecB := Lib.hid hsecB
              have A1 := Lib.hid a1
              have Hxb := Lib.hid hxb
              have HSB := Lib.hid hsb
              have HA := Lib.hid hA
              have HB := Lib.hid hB
              have B1 := Lib.hid b1
              clear hgn hsecB a1 hxb hsb hA hB b1
              go_wp2_with ((with_reducible refine Lay.ldL Tryz.tSec x (HX.out) ?_ ?_); exact rfl; refine Hid.out ?_)
              refine Lib.hid ?_
              go_wp2_with ((with_reducible refine Lay.alL Tryz.tSec ?_); intro Wa bx ebx cbx xbx; replace ebx := Lib.hid ebx; replace cbx := Lib.hid cbx; replace xbx := Lib.hid xbx; refine Hid.out ?_)
              refine Lib.hid ?_
              go_wp2_with ((with_reducible refine Lay.stL Tryz.tSec x (xbx.out) ?_ ?_ ?_); exact rfl; exact rfl; intro Wb cWb xWb; replace cWb := Lib.hid cWb; replace xWb := Lib.hid xWb; refine Hid.out ?_)
              refine Lib.hid ?_
              clear y6
              have K4 : Hid (Chg [] wr Wb) := Lib.hid (cbx.out.new cWb.out (by rw [ebx.out]; exact Nat.le_refl _))
              have S4 := Lib.hid (SB.out.frame (CJ.out.then K4.out))
              have CT := Lib.hid (CB.out.then (CJ.out.then K4.out))
              have y1 := Seg.c_addr S4.out
              have y2 := Seg.c_size S4.out
              have y3 := Seg.c_off S4.out
              have y4 := Seg.c_fsize S4.out
              have z2 := Sec.c_addr xWb.out
              have z3 := Sec.c_size xWb.out
              have z4 := Sec.c_off xWb.out
              have z5 := Sec.c_kind xWb.out
              go_wp2_with fail
              refine (HA.out _).mono ?_
              rintro e Wc ⟨rfl, hc⟩
              have CTWc := Lib.hid (CT.out.then hc)
              have KWc := Lib.hid (K4.out.then hc)
              replace y1 := hc.cell y1 (by simp)
              replace y2 := hc.cell y2 (by simp)
              replace y3 := hc.cell y3 (by simp)
              replace y4 := hc.cell y4 (by simp)
              replace z2 := hc.cell z2 (by simp)
              replace z3 := hc.cell z3 (by simp)
              replace z4 := hc.cell z4 (by simp)
              replace z5 := hc.cell z5 (by simp)
              clear hc
              go_wp2
              go_ret
              exact ⟨congrArg (fun z => Ending.returned (.int .i64 z)) HE.out.symm, CTWc.out⟩
            | true =>
              rw [b1] at hA hsecB
              rw [Bool.true_and] at hsecB
              by_cases a2 : x.kind = 1
              · have f2 : (x.kind != 1) = false := by rw [a2]; rfl
                rw [decide_eq_true a2, Bool.true_or] at hsecB
                rw [hsecB, Bool.true_and] at hgn
                have Hgn := Lib.hid hgn
                have HsecB := Lib.hid hsecB
                have A1 := Lib.hid a1
                have A2 := Lib.hid a2
                have Hxb := Lib.hid hxb
                have HSB := Lib.hid hsb
                have HA := Lib.hid hA
                have HB := Lib.hid hB
                have B1 := Lib.hid b1
                clear hgn hsecB a1 a2 hxb hsb hA hB b1
                go_wp2_with ((with_reducible refine Lay.ldL Tryz.tSec x (HX.out) ?_ ?_); exact rfl; refine Hid.out ?_)
                refine Lib.hid ?_
                go_wp2_with ((with_reducible refine Lay.alL Tryz.tSec ?_); intro Wa bx ebx cbx xbx; replace ebx := Lib.hid ebx; replace cbx := Lib.hid cbx; replace xbx := Lib.hid xbx; refine Hid.out ?_)
                refine Lib.hid ?_
                go_wp2_with ((with_reducible refine Lay.stL Tryz.tSec x (xbx.out) ?_ ?_ ?_); exact rfl; exact rfl; intro Wb cWb xWb; replace cWb := Lib.hid cWb; replace xWb := Lib.hid xWb; refine Hid.out ?_)
                refine Lib.hid ?_
                clear y6
                have K4 : Hid (Chg [] wr Wb) := Lib.hid (cbx.out.new cWb.out (by rw [ebx.out]; exact Nat.le_refl _))
                have S4 := Lib.hid (SB.out.frame (CJ.out.then K4.out))
                have CT := Lib.hid (CB.out.then (CJ.out.then K4.out))
                have y1 := Seg.c_addr S4.out
                have y2 := Seg.c_size S4.out
                have y3 := Seg.c_off S4.out
                have y4 := Seg.c_fsize S4.out
                have z2 := Sec.c_addr xWb.out
                have z3 := Sec.c_size xWb.out
                have z4 := Sec.c_off xWb.out
                have z5 := Sec.c_kind xWb.out
                go_wp2_with fail
                refine (HA.out _).mono ?_
                rintro e Wc ⟨rfl, hc⟩
                have CTWc := Lib.hid (CT.out.then hc)
                have KWc := Lib.hid (K4.out.then hc)
                replace y1 := hc.cell y1 (by simp)
                replace y2 := hc.cell y2 (by simp)
                replace y3 := hc.cell y3 (by simp)
                replace y4 := hc.cell y4 (by simp)
                replace z2 := hc.cell z2 (by simp)
                replace z3 := hc.cell z3 (by simp)
                replace z4 := hc.cell z4 (by simp)
                replace z5 := hc.cell z5 (by simp)
                clear hc
                have hw1 : wrap64 ((j : Int) + 1) = (j : Int) + 1 := by have := Hlk.out; unfold wrap64; omega
                go_wp2
                clear y1 y2 y3 y4 z2 z3 z4 z5
                go_roundw
                case rel => exact ⟨j + 1, hjl, by first | rfl | exact congrArg (Value.int .i64) hw1, (CJ.out.then KWc.out), Hgn.out⟩
                case measure => exact measB_w hw1 hjl
              · have f2 : (x.kind != 1) = true := by rw [bne_iff_ne]; exact a2
                rw [decide_eq_false a2, Bool.false_or] at hsecB
                by_cases a3 : x.off = IntKind.u64.wrap (s.off + (x.addr - s.addr))
                · have f3 : (x.off != IntKind.u64.wrap (IntKind.u64.wrap (s.off + x.addr) - s.addr)) = false := by rw [wrap_three, ← a3]; simp
                  rw [decide_eq_true a3, Bool.true_and] at hsecB
                  cases b2 : withinI (x.addr - s.addr) x.size s.fsize with
                  | false =>
                    rw [b2] at hB hsecB
                    rw [hsecB, Bool.false_and] at hgn
                    have HE : Hid (E = 9) := Lib.hid (bad9 HEE.out Hgo.out Hsp.out hgn)
                    have Hgn := Lib.hid hgn
                    have HsecB := Lib.hid hsecB
                    have A1 := Lib.hid a1
                    have A2 := Lib.hid a2
                    have A3 := Lib.hid a3
                    have Hxb := Lib.hid hxb
                    have HSB := Lib.hid hsb
                    have HA := Lib.hid hA
                    have HB := Lib.hid hB
                    have B1 := Lib.hid b1
                    have B2 := Lib.hid b2
                    clear hgn hsecB a1 a2 a3 hxb hsb hA hB b1 b2
                    go_wp2_with ((with_reducible refine Lay.ldL Tryz.tSec x (HX.out) ?_ ?_); exact rfl; refine Hid.out ?_)
                    refine Lib.hid ?_
                    go_wp2_with ((with_reducible refine Lay.alL Tryz.tSec ?_); intro Wa bx ebx cbx xbx; replace ebx := Lib.hid ebx; replace cbx := Lib.hid cbx; replace xbx := Lib.hid xbx; refine Hid.out ?_)
                    refine Lib.hid ?_
                    go_wp2_with ((with_reducible refine Lay.stL Tryz.tSec x (xbx.out) ?_ ?_ ?_); exact rfl; exact rfl; intro Wb cWb xWb; replace cWb := Lib.hid cWb; replace xWb := Lib.hid xWb; refine Hid.out ?_)
                    refine Lib.hid ?_
                    clear y6
                    have K4 : Hid (Chg [] wr Wb) := Lib.hid (cbx.out.new cWb.out (by rw [ebx.out]; exact Nat.le_refl _))
                    have S4 := Lib.hid (SB.out.frame (CJ.out.then K4.out))
                    have CT := Lib.hid (CB.out.then (CJ.out.then K4.out))
                    have y1 := Seg.c_addr S4.out
                    have y2 := Seg.c_size S4.out
                    have y3 := Seg.c_off S4.out
                    have y4 := Seg.c_fsize S4.out
                    have z2 := Sec.c_addr xWb.out
                    have z3 := Sec.c_size xWb.out
                    have z4 := Sec.c_off xWb.out
                    have z5 := Sec.c_kind xWb.out
                    go_wp2_with fail
                    refine (HA.out _).mono ?_
                    rintro e Wc ⟨rfl, hc⟩
                    have CTWc := Lib.hid (CT.out.then hc)
                    have KWc := Lib.hid (K4.out.then hc)
                    replace y1 := hc.cell y1 (by simp)
                    replace y2 := hc.cell y2 (by simp)
                    replace y3 := hc.cell y3 (by simp)
                    replace y4 := hc.cell y4 (by simp)
                    replace z2 := hc.cell z2 (by simp)
                    replace z3 := hc.cell z3 (by simp)
                    replace z4 := hc.cell z4 (by simp)
                    replace z5 := hc.cell z5 (by simp)
                    clear hc
                    go_wp2_with fail
                    refine (HB.out _).mono ?_
                    rintro e Wd ⟨rfl, hc⟩
                    have CTWd := Lib.hid (CTWc.out.then hc)
                    have KWd := Lib.hid (KWc.out.then hc)
                    replace y1 := hc.cell y1 (by simp)
                    replace y2 := hc.cell y2 (by simp)
                    replace y3 := hc.cell y3 (by simp)
                    replace y4 := hc.cell y4 (by simp)
                    replace z2 := hc.cell z2 (by simp)
                    replace z3 := hc.cell z3 (by simp)
                    replace z4 := hc.cell z4 (by simp)
                    replace z5 := hc.cell z5 (by simp)
                    clear hc
                    go_wp2
                    go_ret
                    exact ⟨congrArg (fun z => Ending.returned (.int .i64 z)) HE.out.symm, CTWd.out⟩
                  | true =>
                    rw [b2] at hB hsecB
                    rw [hsecB, Bool.true_and] at hgn
                    have Hgn := Lib.hid hgn
                    have HsecB := Lib.hid hsecB
                    have A1 := Lib.hid a1
                    have A2 := Lib.hid a2
                    have A3 := Lib.hid a3
                    have Hxb := Lib.hid hxb
                    have HSB := Lib.hid hsb
                    have HA := Lib.hid hA
                    have HB := Lib.hid hB
                    have B1 := Lib.hid b1
                    have B2 := Lib.hid b2
                    clear hgn hsecB a1 a2 a3 hxb hsb hA hB b1 b2
                    go_wp2_with ((with_reducible refine Lay.ldL Tryz.tSec x (HX.out) ?_ ?_); exact rfl; refine Hid.out ?_)
                    refine Lib.hid ?_
                    go_wp2_with ((with_reducible refine Lay.alL Tryz.tSec ?_); intro Wa bx ebx cbx xbx; replace ebx := Lib.hid ebx; replace cbx := Lib.hid cbx; replace xbx := Lib.hid xbx; refine Hid.out ?_)
                    refine Lib.hid ?_
                    go_wp2_with ((with_reducible refine Lay.stL Tryz.tSec x (xbx.out) ?_ ?_ ?_); exact rfl; exact rfl; intro Wb cWb xWb; replace cWb := Lib.hid cWb; replace xWb := Lib.hid xWb; refine Hid.out ?_)
                    refine Lib.hid ?_
                    clear y6
                    have K4 : Hid (Chg [] wr Wb) := Lib.hid (cbx.out.new cWb.out (by rw [ebx.out]; exact Nat.le_refl _))
                    have S4 := Lib.hid (SB.out.frame (CJ.out.then K4.out))
                    have CT := Lib.hid (CB.out.then (CJ.out.then K4.out))
                    have y1 := Seg.c_addr S4.out
                    have y2 := Seg.c_size S4.out
                    have y3 := Seg.c_off S4.out
                    have y4 := Seg.c_fsize S4.out
                    have z2 := Sec.c_addr xWb.out
                    have z3 := Sec.c_size xWb.out
                    have z4 := Sec.c_off xWb.out
                    have z5 := Sec.c_kind xWb.out
                    go_wp2_with fail
                    refine (HA.out _).mono ?_
                    rintro e Wc ⟨rfl, hc⟩
                    have CTWc := Lib.hid (CT.out.then hc)
                    have KWc := Lib.hid (K4.out.then hc)
                    replace y1 := hc.cell y1 (by simp)
                    replace y2 := hc.cell y2 (by simp)
                    replace y3 := hc.cell y3 (by simp)
                    replace y4 := hc.cell y4 (by simp)
                    replace z2 := hc.cell z2 (by simp)
                    replace z3 := hc.cell z3 (by simp)
                    replace z4 := hc.cell z4 (by simp)
                    replace z5 := hc.cell z5 (by simp)
                    clear hc
                    go_wp2_with fail
                    refine (HB.out _).mono ?_
                    rintro e Wd ⟨rfl, hc⟩
                    have CTWd := Lib.hid (CTWc.out.then hc)
                    have KWd := Lib.hid (KWc.out.then hc)
                    replace y1 := hc.cell y1 (by simp)
                    replace y2 := hc.cell y2 (by simp)
                    replace y3 := hc.cell y3 (by simp)
                    replace y4 := hc.cell y4 (by simp)
                    replace z2 := hc.cell z2 (by simp)
                    replace z3 := hc.cell z3 (by simp)
                    replace z4 := hc.cell z4 (by simp)
                    replace z5 := hc.cell z5 (by simp)
                    clear hc
                    have hw1 : wrap64 ((j : Int) + 1) = (j : Int) + 1 := by have := Hlk.out; unfold wrap64; omega
                    go_wp2
                    clear y1 y2 y3 y4 z2 z3 z4 z5
                    go_roundw
                    case rel => exact ⟨j + 1, hjl, by first | rfl | exact congrArg (Value.int .i64) hw1, (CJ.out.then KWd.out), Hgn.out⟩
                    case measure => exact measB_w hw1 hjl
                · have f3 : (x.off != IntKind.u64.wrap (IntKind.u64.wrap (s.off + x.addr) - s.addr)) = true := by rw [wrap_three, bne_iff_ne]; exact a3
                  rw [decide_eq_false a3, Bool.false_and] at hsecB
                  rw [hsecB, Bool.false_and] at hgn
                  have HE : Hid (E = 9) := Lib.hid (bad9 HEE.out Hgo.out Hsp.out hgn)
                  have Hgn := Lib.hid hgn
                  have HsecB := Lib.hid hsecB
                  have A1 := Lib.hid a1
                  have A2 := Lib.hid a2
                  have A3 := Lib.hid a3
                  have Hxb := Lib.hid hxb
                  have HSB := Lib.hid hsb
                  have HA := Lib.hid hA
                  have HB := Lib.hid hB
                  have B1 := Lib.hid b1
                  clear hgn hsecB a1 a2 a3 hxb hsb hA hB b1
                  go_wp2_with ((with_reducible refine Lay.ldL Tryz.tSec x (HX.out) ?_ ?_); exact rfl; refine Hid.out ?_)
                  refine Lib.hid ?_
                  go_wp2_with ((with_reducible refine Lay.alL Tryz.tSec ?_); intro Wa bx ebx cbx xbx; replace ebx := Lib.hid ebx; replace cbx := Lib.hid cbx; replace xbx := Lib.hid xbx; refine Hid.out ?_)
                  refine Lib.hid ?_
                  go_wp2_with ((with_reducible refine Lay.stL Tryz.tSec x (xbx.out) ?_ ?_ ?_); exact rfl; exact rfl; intro Wb cWb xWb; replace cWb := Lib.hid cWb; replace xWb := Lib.hid xWb; refine Hid.out ?_)
                  refine Lib.hid ?_
                  clear y6
                  have K4 : Hid (Chg [] wr Wb) := Lib.hid (cbx.out.new cWb.out (by rw [ebx.out]; exact Nat.le_refl _))
                  have S4 := Lib.hid (SB.out.frame (CJ.out.then K4.out))
                  have CT := Lib.hid (CB.out.then (CJ.out.then K4.out))
                  have y1 := Seg.c_addr S4.out
                  have y2 := Seg.c_size S4.out
                  have y3 := Seg.c_off S4.out
                  have y4 := Seg.c_fsize S4.out
                  have z2 := Sec.c_addr xWb.out
                  have z3 := Sec.c_size xWb.out
                  have z4 := Sec.c_off xWb.out
                  have z5 := Sec.c_kind xWb.out
                  go_wp2_with fail
                  refine (HA.out _).mono ?_
                  rintro e Wc ⟨rfl, hc⟩
                  have CTWc := Lib.hid (CT.out.then hc)
                  have KWc := Lib.hid (K4.out.then hc)
                  replace y1 := hc.cell y1 (by simp)
                  replace y2 := hc.cell y2 (by simp)
                  replace y3 := hc.cell y3 (by simp)
                  replace y4 := hc.cell y4 (by simp)
                  replace z2 := hc.cell z2 (by simp)
                  replace z3 := hc.cell z3 (by simp)
                  replace z4 := hc.cell z4 (by simp)
                  replace z5 := hc.cell z5 (by simp)
                  clear hc
                  go_wp2
                  go_ret
                  exact ⟨congrArg (fun z => Ending.returned (.int .i64 z)) HE.out.symm, CTWc.out⟩
        · obtain rfl : j = p.ks.length := by omega
          have dlj : decide ((p.ks.length : Int) < (p.ks.length : Int)) = false := decide_eq_false (by omega)
          have hgn' : segSecB p = true := by rw [Hsp.out, ← hgn, List.drop_eq_nil_of_le (Nat.le_refl _)]; rfl
          have hgo' := Hgo.out
          rw [hgn', Bool.true_and] at hgo'
          have Hgn := Lib.hid hgn
          have Hgn' := Lib.hid hgn'
          have HGO2 := Lib.hid hgo'
          clear hgn hgn' hgo'
          have hw1 : wrap64 ((k : Int) + 1) = (k : Int) + 1 := by have := Hlen.out; unfold wrap64; omega
          go_wp2
          go_roundw
          case rel => exact ⟨k + 1, hlt, by first | rfl | exact congrArg (Value.int .i64) hw1, CB.out.then CJ.out, HGO2.out, C1.out.then (K1.out.then CJ.out)⟩
          case measure => exact measB_w hw1 hlt
    · obtain rfl : k = xs.length := by omega
      have dlt : decide ((xs.length : Int) < (xs.length : Int)) = false := decide_eq_false (by omega)
      have HE : Hid (E = 0) := by
        refine Lib.hid ?_
        rw [HEE.out, ← hgo, Hxl.out, List.drop_eq_nil_of_le (Nat.le_refl _)]
        rfl
      have CK := Lib.hid (hck)
      clear hgo hck
      go_wp2
      go_ret
      exact ⟨congrArg (fun z => Ending.returned (.int .i64 z)) HE.out.symm, CK.out⟩
/- The document's High, and its May (of layer 6). -/
open Go.RowKit
set_option maxRecDepth 100000
set_option maxHeartbeats 4000000 in
theorem rhigh_any (m : Img) (ls : List Seg) (w : World) (rd : segL.Rd w m.segs.v ls) :
    Calls Tryz.prog 26 #[imgL.val m] w fun e w' => e = .returned (.int .u64 (highS ls)) ∧ Chg [] w w' := by
  have HH := Lib.hid (refHole_any)
  obtain ⟨a, cap, hv, hc1, hc2⟩ := rd.shape
  have rd' := rd
  rw [hv] at rd'
  have hlen : ls.length ≤ 9223372036854775807 := Nat.le_trans hc1 hc2
  have Rd := Lib.hid rd
  have RD2 := Lib.hid rd'
  have Hc2 := Lib.hid hc2
  have Hlen := Lib.hid hlen
  clear rd rd' hc2 hlen
  clear hc1
  unfold SlV.v at hv
  go_enter Tryz.func26, Tryz.ntmps26
  go_wp2_with ((with_reducible refine Lay.bxL (L := imgL) 30 m ?_ ?_); exact rfl; intro W1 bm ebm cbm xbm; replace ebm := Lib.hid ebm; replace cbm := Lib.hid cbm; replace xbm := Lib.hid xbm; refine Hid.out ?_)
  refine Lib.hid ?_
  go_wp2_with fail
  go_loopw [3, 4] (fun s3 s4 wr => ∃ (k : Nat) (h : Int), k ≤ ls.length ∧ s4 = .int .i64 (k : Int) ∧ s3 = .int .u64 h ∧ Chg [] w wr ∧ (ls.drop k).foldl highF h = highS ls ∧ Chg [] W1 wr) (fun _ s4 _ => ls.length - (intOf s4).toNat)
  case atStart => exact ⟨0, 0, Nat.zero_le _, rfl, rfl, cbm.out, rfl, Chg.refl _ _⟩
  case round =>
    obtain ⟨k, h, hk, rfl, rfl, hck, hgo, hc1r⟩ := hrel
    have C1 := Lib.hid (hc1r)
    clear hc1r
    have x4 := Img.c_segs (xbm.out.frame C1.out)
    rw [hv] at x4
    have CK := Lib.hid (hck)
    clear hck
    by_cases hlt : k < ls.length
    · have dlt : decide ((k : Int) < (ls.length : Int)) = true := decide_eq_true (by omega)
      obtain ⟨g, o, hao, _, hin⟩ := RD2.out.at (by omega)
      have hi := (hin k hlt).frame CK.out
      obtain ⟨s, hs⟩ : ∃ s, s = ls.getD k Seg.zero := ⟨_, rfl⟩
      rw [show ls.getD k segL.d = s from hs.symm] at hi
      rw [drop_getD ls k Seg.zero hlt] at hgo
      rw [← hs] at hgo
      rw [List.foldl_cons] at hgo
      rw [show segL.n = 7 from rfl] at hi
      subst hao
      obtain ⟨q, hq⟩ : ∃ q, q = holeS s := ⟨_, rfl⟩
      have hHs := fun w => HH.out s w
      rw [← hq] at hHs
      have hfs : highF h s = if q = true then h else max h (IntKind.u64.wrap (s.addr + s.size)) := by unfold highF; rw [← hq]
      rw [hfs] at hgo
      have Hi := Lib.hid hi
      have Hin := Lib.hid hin
      have Hs := Lib.hid hs
      have Hq := Lib.hid hq
      have HHs := Lib.hid hHs
      have Hfs := Lib.hid hfs
      clear hi hin hs hq hHs hfs
      go_wp2_with ((with_reducible refine Lay.ldL Tryz.tSeg s (Hi.out) ?_ ?_); exact rfl; refine Hid.out ?_)
      refine Lib.hid ?_
      go_wp2_with ((with_reducible refine Lay.alL Tryz.tSeg ?_); intro Wa bx ebx cbx xbx; replace ebx := Lib.hid ebx; replace cbx := Lib.hid cbx; replace xbx := Lib.hid xbx; refine Hid.out ?_)
      refine Lib.hid ?_
      go_wp2_with ((with_reducible refine Lay.stL Tryz.tSeg s (xbx.out) ?_ ?_ ?_); exact rfl; exact rfl; intro Wb cWb xWb; replace cWb := Lib.hid cWb; replace xWb := Lib.hid xWb; refine Hid.out ?_)
      refine Lib.hid ?_
      clear x4
      go_wp2_with ((with_reducible refine Lay.ldL Tryz.tSeg s (xWb.out.in) ?_ ?_); exact rfl; refine Hid.out ?_)
      refine Lib.hid ?_
      go_wp2_with fail
      refine (HHs.out Wb).mono ?_
      rintro e Wc ⟨rfl, hch⟩
      have K4 : Hid (Chg [] wr Wc) := Lib.hid ((cbx.out.new cWb.out (by rw [ebx.out]; exact Nat.le_refl _)).then hch)
      have X4 := Lib.hid (xWb.out.frame hch)
      clear hch
      have hw1 : wrap64 ((k : Int) + 1) = (k : Int) + 1 := by have := Hlen.out; unfold wrap64; omega
      cases q with
      | true =>
        rw [if_pos rfl] at hgo
        have Hgo := Lib.hid hgo
        clear hgo
        go_wp2
        go_roundw
        case rel => exact ⟨k + 1, _, hlt, by first | rfl | exact congrArg (Value.int .i64) hw1, rfl, CK.out.then K4.out, Hgo.out, C1.out.then K4.out⟩
        case measure => first | exact measB_w hw1 hlt | exact measB_v hlt
      | false =>
        rw [if_neg (by decide)] at hgo
        have y1 := Seg.c_addr X4.out
        have y2 := Seg.c_size X4.out
        by_cases hm : h < IntKind.u64.wrap (s.addr + s.size)
        · have dm : decide (h < IntKind.u64.wrap (s.addr + s.size)) = true := decide_eq_true hm
          rw [show max h (IntKind.u64.wrap (s.addr + s.size)) = IntKind.u64.wrap (s.addr + s.size) by omega] at hgo
          have Hgo := Lib.hid hgo
          have Hm := Lib.hid hm
          clear hgo hm
          go_wp2
          clear y1 y2
          go_roundw
          case rel => exact ⟨k + 1, _, hlt, by first | rfl | exact congrArg (Value.int .i64) hw1, rfl, CK.out.then K4.out, Hgo.out, C1.out.then K4.out⟩
          case measure => first | exact measB_w hw1 hlt | exact measB_v hlt
        · have dm : decide (h < IntKind.u64.wrap (s.addr + s.size)) = false := decide_eq_false hm
          rw [show max h (IntKind.u64.wrap (s.addr + s.size)) = h by omega] at hgo
          have Hgo := Lib.hid hgo
          have Hm := Lib.hid hm
          clear hgo hm
          go_wp2
          clear y1 y2
          go_roundw
          case rel => exact ⟨k + 1, _, hlt, by first | rfl | exact congrArg (Value.int .i64) hw1, rfl, CK.out.then K4.out, Hgo.out, C1.out.then K4.out⟩
          case measure => first | exact measB_w hw1 hlt | exact measB_v hlt
    · obtain rfl : k = ls.length := by omega
      have dlt : decide ((ls.length : Int) < (ls.length : Int)) = false := decide_eq_false (by omega)
      rw [List.drop_eq_nil_of_le (Nat.le_refl _)] at hgo
      have HE : Hid (h = highS ls) := Lib.hid (hgo)
      clear hgo
      go_wp2
      go_ret
      exact ⟨congrArg (fun z => Ending.returned (.int .u64 z)) HE.out, CK.out⟩
/- The document's May (of layer 6). -/
open Go.RowKit
set_option maxRecDepth 100000
theorem namesE_cases (m : Img) : ((m.kind == 6) = true ∧ (m.kind != 6) = false ∧ m.name.toList.isEmpty = true ∧ namesE m = 10) ∨ ((m.kind == 6) = true ∧ (m.kind != 6) = false ∧ m.name.toList.isEmpty = false ∧ namesE m = 0) ∨ ((m.kind == 6) = false ∧ (m.kind != 6) = true ∧ m.name.toList.isEmpty = true ∧ namesE m = 0) ∨ ((m.kind == 6) = false ∧ (m.kind != 6) = true ∧ m.name.toList.isEmpty = false ∧ namesE m = 10) := by
  unfold namesE
  by_cases h1 : m.kind = 6
  · by_cases h2 : m.name.toList = []
    · simp [h1, h2]
    · have : m.name.toList.isEmpty = false := by rw [← Bool.not_eq_true, List.isEmpty_iff]; exact h2
      simp [h1, h2, this]
  · by_cases h2 : m.name.toList = []
    · simp [h1, h2]
    · have : m.name.toList.isEmpty = false := by rw [← Bool.not_eq_true, List.isEmpty_iff]; exact h2
      simp [h1, h2, this]
theorem firstE1 {e : Int} : firstE [e] = e := by unfold firstE; split <;> simp_all [firstE]
set_option maxHeartbeats 8000000 in
theorem rmay_core (m : Img) (ls : List Seg) (hb : SpnsB m) (n h E0 E1 : Int) (hn : n < 18446744073709551616) (w : World) (rd : segL.Rd w m.segs.v ls)
    (h0 : ∀ W, Chg [] w W → Calls Tryz.prog 23 #[imgL.val m, .int .u64 n, .int .u64 h] W fun e w' => e = .returned (.int .i64 E0) ∧ Chg [] W w')
    (h1 : ∀ W, Chg [] w W → Calls Tryz.prog 24 #[imgL.val m] W fun e w' => e = .returned (.int .i64 E1) ∧ Chg [] W w') :
    Calls Tryz.prog 9 #[imgL.val m, .int .u64 n, .int .u64 h] w fun e w' => e = .returned (.int .i64 (firstE [E0, E1, spansE n m ls, namesE m])) ∧ Chg [] w w' := by
  have HHI := Lib.hid (rhigh_any m ls)
  have HLO := Lib.hid (refLow_any m ls)
  have HNM := Lib.hid (namesE_cases m)
  obtain ⟨E, hEE⟩ : ∃ E, E = firstE [E0, E1, spansE n m ls, namesE m] := ⟨_, rfl⟩
  rw [← hEE]
  have Rd := Lib.hid rd
  have HEE := Lib.hid hEE
  have Hb := Lib.hid hb
  have Hn := Lib.hid hn
  have H0 := Lib.hid h0
  have H1 := Lib.hid h1
  clear rd hEE hb hn h0 h1
  go_enter Tryz.func9, Tryz.ntmps9
  go_wp2_with ((with_reducible refine Lay.bxL (L := imgL) 30 m ?_ ?_); exact rfl; intro W1 bm ebm cbm xbm; replace ebm := Lib.hid ebm; replace cbm := Lib.hid cbm; replace xbm := Lib.hid xbm; refine Hid.out ?_)
  refine Lib.hid ?_
  go_wp2_with ((with_reducible refine Lay.ldL Tryz.tImg m (xbm.out.in) ?_ ?_); exact rfl; refine Hid.out ?_)
  refine Lib.hid ?_
  go_wp2_with fail
  refine (H0.out _ cbm.out).mono ?_
  rintro e Wa ⟨rfl, hc⟩
  have CA := Lib.hid (cbm.out.then hc)
  have XA := Lib.hid (xbm.out.frame hc)
  clear hc
  by_cases z0 : E0 = 0
  · subst z0
    have hee := HEE.out
    rw [firstE_zero] at hee
    go_wp2_with ((with_reducible refine Lay.ldL Tryz.tImg m (XA.out.in) ?_ ?_); exact rfl; refine Hid.out ?_)
    refine Lib.hid ?_
    go_wp2_with fail
    refine (H1.out _ CA.out).mono ?_
    rintro e Wb ⟨rfl, hc⟩
    have CB := Lib.hid (CA.out.then hc)
    have XB := Lib.hid (XA.out.frame hc)
    clear hc
    by_cases z1 : E1 = 0
    · subst z1
      rw [firstE_zero] at hee
      have x1 := Img.c_rbO XB.out
      have x2 := Img.c_rbS XB.out
      have x3 := Img.c_bdO XB.out
      have x4 := Img.c_bdS XB.out
      have x5 := Img.c_wkO XB.out
      have x6 := Img.c_wkS XB.out
      have x7 := Img.c_lzO XB.out
      have x8 := Img.c_lzS XB.out
      have xa := Img.c_trO XB.out
      have xb := Img.c_trS XB.out
      have xc := Img.c_chO XB.out
      have xd := Img.c_chS XB.out
      have xe := Img.c_syO XB.out
      have xf := Img.c_syS XB.out
      have xg := Img.c_stO XB.out
      have xh := Img.c_stS XB.out
      go_wp2_with fail
      clear x1 x2 x3 x4 x5 x6 x7 x8 xa xb xc xd xe xf xg xh
      refine Lay.with_world (fun W => spnL.Rd W (.slice (some ⟨Wb.heap.size, 0, none⟩) 8 8) (spans8 m) ∧ Chg [] Wb W) ⟨Lay.Rd.of_heap (heap_alloc_eq _ _) rfl rfl (show 8 ≤ maxLen by decide), (Chg.refl _ _).alloc _⟩ (fun W2 hW => ?_)
      obtain ⟨g, hg⟩ : ∃ g, g = Wb.heap.size := ⟨_, rfl⟩
      rw [← hg] at hW ⊢
      obtain ⟨h8, hc2⟩ := hW
      obtain ⟨b', o', hao, _, hin⟩ := h8.at (show 8 ≠ 0 by decide)
      cases hao
      have h88 : (spans8 m).length = 8 := rfl
      have C2 := Lib.hid (CB.out.then hc2)
      have X2 := Lib.hid (XB.out.frame hc2)
      have hse : spansE n m ls = spansE n m ls := rfl
      conv at hse => rhs; unfold spansE
      have H8 := Lib.hid h8
      have Hg := Lib.hid hg
      have Hin := Lib.hid hin
      have H88 := Lib.hid h88
      have Hc2 := Lib.hid hc2
      have HE3 := Lib.hid hee
      have Hse := Lib.hid hse
      clear h8 hg hin h88 hc2 hee hse
      go_loopw [10] (fun s10 wr => ∃ j : Nat, j ≤ 8 ∧ s10 = .int .i64 (j : Int) ∧ Chg [] W2 wr ∧ ((spans8 m).drop j).all (spnB n) = (spans8 m).all (spnB n)) (fun s10 _ => 8 - (intOf s10).toNat)
      case atStart => exact ⟨0, Nat.zero_le _, rfl, Chg.refl _ _, rfl⟩
      case round =>
        obtain ⟨j, hj, rfl, hck, hgo⟩ := hrel
        have CK := Lib.hid (hck)
        clear hck
        by_cases hlt : j < 8
        · have dlt : decide ((j : Int) < 8) = true := decide_eq_true (by omega)
          have hlti : (j : Int) < 8 := by omega
          have hi := (Hin.out j (by rw [H88.out]; exact hlt)).frame CK.out
          have hxb := Hb.out j (by rw [H88.out]; exact hlt)
          rw [drop_getD (spans8 m) j Spn.zero (by rw [H88.out]; exact hlt)] at hgo
          obtain ⟨x, hx⟩ : ∃ x, x = (spans8 m).getD j Spn.zero := ⟨_, rfl⟩
          rw [show (spans8 m).getD j spnL.d = x from hx.symm] at hi
          rw [← hx] at hgo hxb
          rw [List.all_cons] at hgo
          rw [show spnL.n = 2 from rfl, Nat.zero_add] at hi
          have hA := fun w => rwithinI_any x.off x.size n hxb.1.1 hxb.2.1 Hn.out w
          have hsb : spnB n x = withinI x.off x.size n := rfl
          rw [hsb] at hgo
          have hw1 : wrap64 ((j : Int) + 1) = (j : Int) + 1 := by unfold wrap64; omega
          obtain ⟨q, hq⟩ : ∃ q, q = withinI x.off x.size n := ⟨_, rfl⟩
          rw [← hq] at hA hgo
          obtain ⟨y0, y1⟩ := Spn.both hi
          have Hi := Lib.hid hi
          have Hx := Lib.hid hx
          have Hxb := Lib.hid hxb
          have HA := Lib.hid hA
          have Hsb := Lib.hid hsb
          have Hq := Lib.hid hq
          clear hi hx hxb hA hsb hq
          cases q with
          | false =>
            rw [Bool.false_and] at hgo
            have HE : Hid (E = 4) := Lib.hid (by rw [HE3.out, Hse.out, ← hgo]; rfl)
            have Hgo := Lib.hid hgo
            clear hgo
            go_upto_region 11 with fail
            refine wp_region_noPanic ?_
            refine wp_region_held_drew (S := fun w' => Chg [] wr w') (by kernel_rfl) ((Chg.refl _ _).drew) (fun hHeld => ?_)
            refine take_read (i := 0) (v := ?_) (by simp only [List.getElem?_toArray, List.getElem?_cons_zero]; rfl) (by kernel_rfl) (by kernel_rfl) (by kernel_rfl) (fun _ _ _ h => h) hHeld ?_ ?_
            rotate_left
            · intro w hSw
              go_simp
              try with_reducible rfl
            try simp only [Act.put, List.setIfInBounds_toArray, List.set_cons_zero, List.set_cons_succ]
            refine take_read (i := 1) (v := ?_) (by simp only [List.getElem?_toArray, List.getElem?_cons_succ, List.getElem?_cons_zero]; rfl) (by kernel_rfl) (by kernel_rfl) (by kernel_rfl) (fun _ _ _ h => h) hHeld ?_ ?_
            rotate_left
            · intro w hSw
              go_simp
              try with_reducible rfl
            try simp only [Act.put, List.setIfInBounds_toArray, List.set_cons_zero, List.set_cons_succ]
            refine take_read (i := 2) (v := ?_) (by simp only [List.getElem?_toArray, List.getElem?_cons_succ, List.getElem?_cons_zero]; rfl) (by kernel_rfl) (by kernel_rfl) (by kernel_rfl) (fun _ _ _ h => h) hHeld ?_ ?_
            rotate_left
            · intro w hSw
              go_simp
              try with_reducible rfl
            try simp only [Act.put, List.setIfInBounds_toArray, List.set_cons_zero, List.set_cons_succ]
            refine take_read (i := 3) (v := ?_) (by simp only [List.getElem?_toArray, List.getElem?_cons_succ, List.getElem?_cons_zero]; rfl) (by kernel_rfl) (by kernel_rfl) (by kernel_rfl) (fun _ _ _ h => h) hHeld ?_ ?_
            rotate_left
            · intro w hSw
              go_simp
              try with_reducible rfl
            try simp only [Act.put, List.setIfInBounds_toArray, List.set_cons_zero, List.set_cons_succ]
            refine take_read (i := 4) (v := ?_) (by simp only [List.getElem?_toArray, List.getElem?_cons_succ, List.getElem?_cons_zero]; rfl) (by kernel_rfl) (by kernel_rfl) (by kernel_rfl) (fun _ _ _ h => h) hHeld ?_ ?_
            rotate_left
            · intro w hSw
              have y0 := hSw.cell y0 (by simp)
              go_simp
              try with_reducible rfl
            try simp only [Act.put, List.setIfInBounds_toArray, List.set_cons_zero, List.set_cons_succ]
            refine take_read (i := 5) (v := ?_) (by simp only [List.getElem?_toArray, List.getElem?_cons_succ, List.getElem?_cons_zero]; rfl) (by kernel_rfl) (by kernel_rfl) (by kernel_rfl) (fun _ _ _ h => h) hHeld ?_ ?_
            rotate_left
            · intro w hSw
              go_simp
              try with_reducible rfl
            try simp only [Act.put, List.setIfInBounds_toArray, List.set_cons_zero, List.set_cons_succ]
            refine take_read (i := 6) (v := ?_) (by simp only [List.getElem?_toArray, List.getElem?_cons_succ, List.getElem?_cons_zero]; rfl) (by kernel_rfl) (by kernel_rfl) (by kernel_rfl) (fun _ _ _ h => h) hHeld ?_ ?_
            rotate_left
            · intro w hSw
              go_simp
              try with_reducible rfl
            try simp only [Act.put, List.setIfInBounds_toArray, List.set_cons_zero, List.set_cons_succ]
            refine take_read (i := 7) (v := ?_) (by simp only [List.getElem?_toArray, List.getElem?_cons_succ, List.getElem?_cons_zero]; rfl) (by kernel_rfl) (by kernel_rfl) (by kernel_rfl) (fun _ _ _ h => h) hHeld ?_ ?_
            rotate_left
            · intro w hSw
              go_simp
              try with_reducible rfl
            try simp only [Act.put, List.setIfInBounds_toArray, List.set_cons_zero, List.set_cons_succ]
            refine take_read (i := 8) (v := ?_) (by simp only [List.getElem?_toArray, List.getElem?_cons_succ, List.getElem?_cons_zero]; rfl) (by kernel_rfl) (by kernel_rfl) (by kernel_rfl) (fun _ _ _ h => h) hHeld ?_ ?_
            rotate_left
            · intro w hSw
              go_simp
              try with_reducible rfl
            try simp only [Act.put, List.setIfInBounds_toArray, List.set_cons_zero, List.set_cons_succ]
            refine take_read (i := 9) (v := ?_) (by simp only [List.getElem?_toArray, List.getElem?_cons_succ, List.getElem?_cons_zero]; rfl) (by kernel_rfl) (by kernel_rfl) (by kernel_rfl) (fun _ _ _ h => h) hHeld ?_ ?_
            rotate_left
            · intro w hSw
              have y1 := hSw.cell y1 (by simp)
              go_simp
              try with_reducible rfl
            try simp only [Act.put, List.setIfInBounds_toArray, List.set_cons_zero, List.set_cons_succ]
            refine take_read (i := 10) (v := ?_) (by simp only [List.getElem?_toArray, List.getElem?_cons_succ, List.getElem?_cons_zero]; rfl) (by kernel_rfl) (by kernel_rfl) (by kernel_rfl) (fun _ _ _ h => h) hHeld ?_ ?_
            rotate_left
            · intro w hSw
              go_simp
              try with_reducible rfl
            try simp only [Act.put, List.setIfInBounds_toArray, List.set_cons_zero, List.set_cons_succ]
            refine wpAnyH_ready (rs := [11]) (by kernel_rfl) (by simp) ?_
            refine AllReadyH.cons rfl (fun K hK => ?_) AllReadyH.nil
            go_simp
            refine (HA.out _).mono ?_
            rintro e WQ ⟨rfl, hch⟩
            have C9 : Hid (Chg [] wr WQ) := Lib.hid (hHeld.then hch)
            clear hch
            refine hK.out _ _ C9.out (fun hHeld2 => ?_)
            clear hK hHeld K
            have hHeld := hHeld2
            clear hHeld2
            try (unfold Act.put; simp only [List.setIfInBounds_toArray, List.set_cons_zero, List.set_cons_succ])
            refine take_read (i := 12) (v := ?_) (by simp only [List.getElem?_toArray, List.getElem?_cons_succ, List.getElem?_cons_zero]; rfl) (by kernel_rfl) (by kernel_rfl) (by kernel_rfl) (fun _ _ _ h => h) hHeld ?_ ?_
            rotate_left
            · intro w hSw
              go_simp
              try with_reducible rfl
            try simp only [Act.put, List.setIfInBounds_toArray, List.set_cons_zero, List.set_cons_succ]
            refine wpAnyH_done (by kernel_rfl) ?_ _
            refine NoPanic.normal ?_
            clear y0 y1
            go_wp2
            go_ret
            exact ⟨congrArg (fun z => Ending.returned (.int .i64 z)) HE.out.symm, C2.out.then (CK.out.then C9.out)⟩
          | true =>
            rw [Bool.true_and] at hgo
            have Hgo := Lib.hid hgo
            clear hgo
            go_upto_region 11 with fail
            refine wp_region_noPanic ?_
            refine wp_region_held_drew (S := fun w' => Chg [] wr w') (by kernel_rfl) ((Chg.refl _ _).drew) (fun hHeld => ?_)
            refine take_read (i := 0) (v := ?_) (by simp only [List.getElem?_toArray, List.getElem?_cons_zero]; rfl) (by kernel_rfl) (by kernel_rfl) (by kernel_rfl) (fun _ _ _ h => h) hHeld ?_ ?_
            rotate_left
            · intro w hSw
              go_simp
              try with_reducible rfl
            try simp only [Act.put, List.setIfInBounds_toArray, List.set_cons_zero, List.set_cons_succ]
            refine take_read (i := 1) (v := ?_) (by simp only [List.getElem?_toArray, List.getElem?_cons_succ, List.getElem?_cons_zero]; rfl) (by kernel_rfl) (by kernel_rfl) (by kernel_rfl) (fun _ _ _ h => h) hHeld ?_ ?_
            rotate_left
            · intro w hSw
              go_simp
              try with_reducible rfl
            try simp only [Act.put, List.setIfInBounds_toArray, List.set_cons_zero, List.set_cons_succ]
            refine take_read (i := 2) (v := ?_) (by simp only [List.getElem?_toArray, List.getElem?_cons_succ, List.getElem?_cons_zero]; rfl) (by kernel_rfl) (by kernel_rfl) (by kernel_rfl) (fun _ _ _ h => h) hHeld ?_ ?_
            rotate_left
            · intro w hSw
              go_simp
              try with_reducible rfl
            try simp only [Act.put, List.setIfInBounds_toArray, List.set_cons_zero, List.set_cons_succ]
            refine take_read (i := 3) (v := ?_) (by simp only [List.getElem?_toArray, List.getElem?_cons_succ, List.getElem?_cons_zero]; rfl) (by kernel_rfl) (by kernel_rfl) (by kernel_rfl) (fun _ _ _ h => h) hHeld ?_ ?_
            rotate_left
            · intro w hSw
              go_simp
              try with_reducible rfl
            try simp only [Act.put, List.setIfInBounds_toArray, List.set_cons_zero, List.set_cons_succ]
            refine take_read (i := 4) (v := ?_) (by simp only [List.getElem?_toArray, List.getElem?_cons_succ, List.getElem?_cons_zero]; rfl) (by kernel_rfl) (by kernel_rfl) (by kernel_rfl) (fun _ _ _ h => h) hHeld ?_ ?_
            rotate_left
            · intro w hSw
              have y0 := hSw.cell y0 (by simp)
              go_simp
              try with_reducible rfl
            try simp only [Act.put, List.setIfInBounds_toArray, List.set_cons_zero, List.set_cons_succ]
            refine take_read (i := 5) (v := ?_) (by simp only [List.getElem?_toArray, List.getElem?_cons_succ, List.getElem?_cons_zero]; rfl) (by kernel_rfl) (by kernel_rfl) (by kernel_rfl) (fun _ _ _ h => h) hHeld ?_ ?_
            rotate_left
            · intro w hSw
              go_simp
              try with_reducible rfl
            try simp only [Act.put, List.setIfInBounds_toArray, List.set_cons_zero, List.set_cons_succ]
            refine take_read (i := 6) (v := ?_) (by simp only [List.getElem?_toArray, List.getElem?_cons_succ, List.getElem?_cons_zero]; rfl) (by kernel_rfl) (by kernel_rfl) (by kernel_rfl) (fun _ _ _ h => h) hHeld ?_ ?_
            rotate_left
            · intro w hSw
              go_simp
              try with_reducible rfl
            try simp only [Act.put, List.setIfInBounds_toArray, List.set_cons_zero, List.set_cons_succ]
            refine take_read (i := 7) (v := ?_) (by simp only [List.getElem?_toArray, List.getElem?_cons_succ, List.getElem?_cons_zero]; rfl) (by kernel_rfl) (by kernel_rfl) (by kernel_rfl) (fun _ _ _ h => h) hHeld ?_ ?_
            rotate_left
            · intro w hSw
              go_simp
              try with_reducible rfl
            try simp only [Act.put, List.setIfInBounds_toArray, List.set_cons_zero, List.set_cons_succ]
            refine take_read (i := 8) (v := ?_) (by simp only [List.getElem?_toArray, List.getElem?_cons_succ, List.getElem?_cons_zero]; rfl) (by kernel_rfl) (by kernel_rfl) (by kernel_rfl) (fun _ _ _ h => h) hHeld ?_ ?_
            rotate_left
            · intro w hSw
              go_simp
              try with_reducible rfl
            try simp only [Act.put, List.setIfInBounds_toArray, List.set_cons_zero, List.set_cons_succ]
            refine take_read (i := 9) (v := ?_) (by simp only [List.getElem?_toArray, List.getElem?_cons_succ, List.getElem?_cons_zero]; rfl) (by kernel_rfl) (by kernel_rfl) (by kernel_rfl) (fun _ _ _ h => h) hHeld ?_ ?_
            rotate_left
            · intro w hSw
              have y1 := hSw.cell y1 (by simp)
              go_simp
              try with_reducible rfl
            try simp only [Act.put, List.setIfInBounds_toArray, List.set_cons_zero, List.set_cons_succ]
            refine take_read (i := 10) (v := ?_) (by simp only [List.getElem?_toArray, List.getElem?_cons_succ, List.getElem?_cons_zero]; rfl) (by kernel_rfl) (by kernel_rfl) (by kernel_rfl) (fun _ _ _ h => h) hHeld ?_ ?_
            rotate_left
            · intro w hSw
              go_simp
              try with_reducible rfl
            try simp only [Act.put, List.setIfInBounds_toArray, List.set_cons_zero, List.set_cons_succ]
            refine wpAnyH_ready (rs := [11]) (by kernel_rfl) (by simp) ?_
            refine AllReadyH.cons rfl (fun K hK => ?_) AllReadyH.nil
            go_simp
            refine (HA.out _).mono ?_
            rintro e WQ ⟨rfl, hch⟩
            have C9 : Hid (Chg [] wr WQ) := Lib.hid (hHeld.then hch)
            clear hch
            refine hK.out _ _ C9.out (fun hHeld2 => ?_)
            clear hK hHeld K
            have hHeld := hHeld2
            clear hHeld2
            try (unfold Act.put; simp only [List.setIfInBounds_toArray, List.set_cons_zero, List.set_cons_succ])
            refine take_read (i := 12) (v := ?_) (by simp only [List.getElem?_toArray, List.getElem?_cons_succ, List.getElem?_cons_zero]; rfl) (by kernel_rfl) (by kernel_rfl) (by kernel_rfl) (fun _ _ _ h => h) hHeld ?_ ?_
            rotate_left
            · intro w hSw
              go_simp
              try with_reducible rfl
            try simp only [Act.put, List.setIfInBounds_toArray, List.set_cons_zero, List.set_cons_succ]
            refine wpAnyH_done (by kernel_rfl) ?_ _
            refine NoPanic.normal ?_
            clear y0 y1
            go_wp2
            go_roundw
            case rel => exact ⟨j + 1, hlt, by first | rfl | exact congrArg (Value.int .i64) hw1, CK.out.then C9.out, Hgo.out⟩
            case measure => first | exact measB_w hw1 hlt | exact measB_v hlt
        · obtain rfl : j = 8 := by omega
          have dlt : decide ((8 : Int) < 8) = false := rfl
          rw [List.drop_eq_nil_of_le (by rw [H88.out]; exact Nat.le_refl _)] at hgo
          rw [List.all_nil] at hgo
          have hse := Hse.out
          rw [← hgo, if_pos rfl] at hse
          have hee := HE3.out
          have X3 := Lib.hid (X2.out.frame CK.out)
          have y1 := Img.c_syS X3.out
          by_cases h16 : m.syS % 16 = 0
          · rw [if_pos h16] at hse
            have hsy : 0 ≤ m.syS := (Hb.out 6 (by rw [H88.out]; decide)).2.1
            have d0 : (m.syS.tmod 16 != 0) = false := by rw [Int.tmod_eq_emod_of_nonneg hsy, h16]; rfl
            have y2 := Img.c_has X3.out
            cases hhas : m.has with
            | false =>
              rw [hhas] at hse y2
              rw [if_neg (by decide)] at hse
              rw [hse, firstE_zero, firstE1] at hee
              clear hse
              have Hgo := Lib.hid hgo
              have H16 := Lib.hid h16
              have Hsy := Lib.hid hsy
              have Hhas := Lib.hid hhas
              clear hgo h16 hsy hhas
              go_wp2_with fail
              go_quiet (fail)
              have v0 := Img.c_kind (X3.out.frame ((Chg.refl _ _).drewN nq))
              have v1 := Img.c_name (X3.out.frame ((Chg.refl _ _).drewN nq))
              rcases HNM.out with ⟨d1, d1', d2, hnm⟩ | ⟨d1, d1', d2, hnm⟩ | ⟨d1, d1', d2, hnm⟩ | ⟨d1, d1', d2, hnm⟩
              · rw [hnm] at hee
                have HE := Lib.hid (hee)
                clear hee hnm
                go_wp2
                go_ret
                exact ⟨congrArg (fun z => Ending.returned (.int .i64 z)) HE.out.symm, C2.out.then (CK.out.drewN nq)⟩
              · rw [hnm] at hee
                have HE := Lib.hid (hee)
                clear hee hnm
                go_wp2
                go_ret
                exact ⟨congrArg (fun z => Ending.returned (.int .i64 z)) HE.out.symm, C2.out.then (CK.out.drewN nq)⟩
              · rw [hnm] at hee
                have HE := Lib.hid (hee)
                clear hee hnm
                go_wp2
                go_ret
                exact ⟨congrArg (fun z => Ending.returned (.int .i64 z)) HE.out.symm, C2.out.then (CK.out.drewN nq)⟩
              · rw [hnm] at hee
                have HE := Lib.hid (hee)
                clear hee hnm
                go_wp2
                go_ret
                exact ⟨congrArg (fun z => Ending.returned (.int .i64 z)) HE.out.symm, C2.out.then (CK.out.drewN nq)⟩
            | true =>
              rw [hhas] at hse y2
              rw [if_pos rfl] at hse
              have y3 := Img.c_entry X3.out
              obtain ⟨H, hH⟩ : ∃ H, H = highS ls := ⟨_, rfl⟩
              obtain ⟨L, hL⟩ : ∃ L, L = lowS ls := ⟨_, rfl⟩
              rw [← hH, ← hL] at hse
              rw [← hH] at HHI
              rw [← hL] at HLO
              have RD3 := Lib.hid (Rd.out.frame (C2.out.then CK.out))
              by_cases hen : IntKind.u64.wrap (H - L) ≤ m.entry
              · have d3 : decide (IntKind.u64.wrap (H - L) ≤ m.entry) = true := decide_eq_true hen
                rw [if_pos hen] at hse
                rw [hse, firstE_ne (by decide)] at hee
                clear hse
                have HE := Lib.hid (hee)
                have Hgo := Lib.hid hgo
                have H16 := Lib.hid h16
                have Hsy := Lib.hid hsy
                have Hhas := Lib.hid hhas
                have HH := Lib.hid hH
                have HL := Lib.hid hL
                have Hen := Lib.hid hen
                clear hgo h16 hsy hhas hH hL hen
                clear hee
                go_upto_region 13 with fail
                refine wp_region_noPanic ?_
                refine wp_region_held_drew (S := fun w' => Chg [] wr w') (by kernel_rfl) ((Chg.refl _ _).drew) (fun hHeld => ?_)
                refine take_read (i := 0) (v := ?_) (by simp only [List.getElem?_toArray, List.getElem?_cons_zero]; rfl) (by kernel_rfl) (by kernel_rfl) (by kernel_rfl) (fun _ _ _ h => h) hHeld ?_ ?_
                rotate_left
                · intro w hSw
                  go_simp
                  try with_reducible rfl
                try simp only [Act.put, List.setIfInBounds_toArray, List.set_cons_zero, List.set_cons_succ]
                refine take_read (i := 1) (v := ?_) (by simp only [List.getElem?_toArray, List.getElem?_cons_succ, List.getElem?_cons_zero]; rfl) (by kernel_rfl) (by kernel_rfl) (by kernel_rfl) (fun _ _ _ h => h) hHeld ?_ ?_
                rotate_left
                · intro w hSw
                  go_simp
                  try with_reducible rfl
                try simp only [Act.put, List.setIfInBounds_toArray, List.set_cons_zero, List.set_cons_succ]
                refine take_read (i := 2) (v := ?_) (by simp only [List.getElem?_toArray, List.getElem?_cons_succ, List.getElem?_cons_zero]; rfl) (by kernel_rfl) (by kernel_rfl) (by kernel_rfl) (fun _ _ _ h => h) hHeld ?_ ?_
                rotate_left
                · intro w hSw
                  have y1 := hSw.cell y1 (by simp)
                  go_simp
                  try with_reducible rfl
                try simp only [Act.put, List.setIfInBounds_toArray, List.set_cons_zero, List.set_cons_succ]
                refine take_read (i := 3) (v := ?_) (by simp only [List.getElem?_toArray, List.getElem?_cons_succ, List.getElem?_cons_zero]; rfl) (by kernel_rfl) (by kernel_rfl) (by kernel_rfl) (fun _ _ _ h => h) hHeld ?_ ?_
                rotate_left
                · intro w hSw
                  go_simp
                  try with_reducible rfl
                try simp only [Act.put, List.setIfInBounds_toArray, List.set_cons_zero, List.set_cons_succ]
                refine take_read (i := 4) (v := ?_) (by simp only [List.getElem?_toArray, List.getElem?_cons_succ, List.getElem?_cons_zero]; rfl) (by kernel_rfl) (by kernel_rfl) (by kernel_rfl) (fun _ _ _ h => h) hHeld ?_ ?_
                rotate_left
                · intro w hSw
                  go_simp
                  try with_reducible rfl
                try simp only [Act.put, List.setIfInBounds_toArray, List.set_cons_zero, List.set_cons_succ]
                refine take_read (i := 5) (v := ?_) (by simp only [List.getElem?_toArray, List.getElem?_cons_succ, List.getElem?_cons_zero]; rfl) (by kernel_rfl) (by kernel_rfl) (by kernel_rfl) (fun _ _ _ h => h) hHeld ?_ ?_
                rotate_left
                · intro w hSw
                  go_simp
                  try with_reducible rfl
                try simp only [Act.put, List.setIfInBounds_toArray, List.set_cons_zero, List.set_cons_succ]
                refine take_read (i := 6) (v := ?_) (by simp only [List.getElem?_toArray, List.getElem?_cons_succ, List.getElem?_cons_zero]; rfl) (by kernel_rfl) (by kernel_rfl) (by kernel_rfl) (fun _ _ _ h => h) hHeld ?_ ?_
                rotate_left
                · intro w hSw
                  go_simp
                  try with_reducible rfl
                try simp only [Act.put, List.setIfInBounds_toArray, List.set_cons_zero, List.set_cons_succ]
                refine take_read (i := 7) (v := ?_) (by simp only [List.getElem?_toArray, List.getElem?_cons_succ, List.getElem?_cons_zero]; rfl) (by kernel_rfl) (by kernel_rfl) (by kernel_rfl) (fun _ _ _ h => h) hHeld ?_ ?_
                rotate_left
                · intro w hSw
                  have y2 := hSw.cell y2 (by simp)
                  go_simp
                  try with_reducible rfl
                try simp only [Act.put, List.setIfInBounds_toArray, List.set_cons_zero, List.set_cons_succ]
                refine take_read (i := 8) (v := ?_) (by simp only [List.getElem?_toArray, List.getElem?_cons_succ, List.getElem?_cons_zero]; rfl) (by kernel_rfl) (by kernel_rfl) (by kernel_rfl) (fun _ _ _ h => h) hHeld ?_ ?_
                rotate_left
                · intro w hSw
                  go_simp
                  try with_reducible rfl
                try simp only [Act.put, List.setIfInBounds_toArray, List.set_cons_zero, List.set_cons_succ]
                refine take_read (i := 9) (v := ?_) (by simp only [List.getElem?_toArray, List.getElem?_cons_succ, List.getElem?_cons_zero]; rfl) (by kernel_rfl) (by kernel_rfl) (by kernel_rfl) (fun _ _ _ h => h) hHeld ?_ ?_
                rotate_left
                · intro w hSw
                  go_simp
                  try with_reducible rfl
                try simp only [Act.put, List.setIfInBounds_toArray, List.set_cons_zero, List.set_cons_succ]
                refine take_read (i := 10) (v := ?_) (by simp only [List.getElem?_toArray, List.getElem?_cons_succ, List.getElem?_cons_zero]; rfl) (by kernel_rfl) (by kernel_rfl) (by kernel_rfl) (fun _ _ _ h => h) hHeld ?_ ?_
                rotate_left
                · intro w hSw
                  have y3 := hSw.cell y3 (by simp)
                  go_simp
                  try with_reducible rfl
                try simp only [Act.put, List.setIfInBounds_toArray, List.set_cons_zero, List.set_cons_succ]
                refine take_read (i := 11) (v := ?_) (by simp only [List.getElem?_toArray, List.getElem?_cons_succ, List.getElem?_cons_zero]; rfl) (by kernel_rfl) (by kernel_rfl) (by kernel_rfl) (fun _ _ _ h => h) hHeld ?_ ?_
                rotate_left
                · intro w hSw
                  refine Lay.read_ld Tryz.tImg ((X3.out.frame hSw).in) ?_ ?_
                  exact rfl
                  exact rfl
                try simp only [Act.put, List.setIfInBounds_toArray, List.set_cons_zero, List.set_cons_succ]
                refine take_read (i := 13) (v := ?_) (by simp only [List.getElem?_toArray, List.getElem?_cons_succ, List.getElem?_cons_zero]; rfl) (by kernel_rfl) (by kernel_rfl) (by kernel_rfl) (fun _ _ _ h => h) hHeld ?_ ?_
                rotate_left
                · intro w hSw
                  refine Lay.read_ld Tryz.tImg ((X3.out.frame hSw).in) ?_ ?_
                  exact rfl
                  exact rfl
                try simp only [Act.put, List.setIfInBounds_toArray, List.set_cons_zero, List.set_cons_succ]
                refine wpAnyH_ready (rs := [12]) (by kernel_rfl) (by simp) ?_
                refine AllReadyH.cons rfl (fun K hK => ?_) AllReadyH.nil
                go_simp
                refine (HHI.out _ (RD3.out.frame hHeld)).mono ?_
                rintro e WQ ⟨rfl, hch⟩
                have C12 : Hid (Chg [] wr WQ) := Lib.hid (hHeld.then hch)
                clear hch
                refine hK.out _ _ C12.out (fun hHeld2 => ?_)
                clear hK hHeld K
                have hHeld := hHeld2
                clear hHeld2
                try (unfold Act.put; simp only [List.setIfInBounds_toArray, List.set_cons_zero, List.set_cons_succ])
                refine wpAnyH_ready (rs := [14]) (by kernel_rfl) (by simp) ?_
                refine AllReadyH.cons rfl (fun K hK => ?_) AllReadyH.nil
                go_simp
                refine (HLO.out _ (RD3.out.frame hHeld)).mono ?_
                rintro e WR ⟨rfl, hch⟩
                have C14 : Hid (Chg [] wr WR) := Lib.hid (hHeld.then hch)
                clear hch
                refine hK.out _ _ C14.out (fun hHeld2 => ?_)
                clear hK hHeld K
                have hHeld := hHeld2
                clear hHeld2
                try (unfold Act.put; simp only [List.setIfInBounds_toArray, List.set_cons_zero, List.set_cons_succ])
                refine take_read (i := 15) (v := ?_) (by simp only [List.getElem?_toArray, List.getElem?_cons_succ, List.getElem?_cons_zero]; rfl) (by kernel_rfl) (by kernel_rfl) (by kernel_rfl) (fun _ _ _ h => h) hHeld ?_ ?_
                rotate_left
                · intro w hSw
                  go_simp
                  try with_reducible rfl
                try simp only [Act.put, List.setIfInBounds_toArray, List.set_cons_zero, List.set_cons_succ]
                refine take_read (i := 16) (v := ?_) (by simp only [List.getElem?_toArray, List.getElem?_cons_succ, List.getElem?_cons_zero]; rfl) (by kernel_rfl) (by kernel_rfl) (by kernel_rfl) (fun _ _ _ h => h) hHeld ?_ ?_
                rotate_left
                · intro w hSw
                  go_simp
                  try with_reducible rfl
                try simp only [Act.put, List.setIfInBounds_toArray, List.set_cons_zero, List.set_cons_succ]
                refine take_read (i := 17) (v := ?_) (by simp only [List.getElem?_toArray, List.getElem?_cons_succ, List.getElem?_cons_zero]; rfl) (by kernel_rfl) (by kernel_rfl) (by kernel_rfl) (fun _ _ _ h => h) hHeld ?_ ?_
                rotate_left
                · intro w hSw
                  go_simp
                  try with_reducible rfl
                try simp only [Act.put, List.setIfInBounds_toArray, List.set_cons_zero, List.set_cons_succ]
                refine take_read (i := 18) (v := ?_) (by simp only [List.getElem?_toArray, List.getElem?_cons_succ, List.getElem?_cons_zero]; rfl) (by kernel_rfl) (by kernel_rfl) (by kernel_rfl) (fun _ _ _ h => h) hHeld ?_ ?_
                rotate_left
                · intro w hSw
                  go_simp
                  try with_reducible rfl
                try simp only [Act.put, List.setIfInBounds_toArray, List.set_cons_zero, List.set_cons_succ]
                refine wpAnyH_done (by kernel_rfl) ?_ _
                refine NoPanic.normal ?_
                go_wp2
                go_ret
                exact ⟨congrArg (fun z => Ending.returned (.int .i64 z)) HE.out.symm, C2.out.then (CK.out.then C14.out)⟩
              · have d3 : decide (IntKind.u64.wrap (H - L) ≤ m.entry) = false := decide_eq_false hen
                rw [if_neg hen] at hse
                rw [hse, firstE_zero, firstE1] at hee
                clear hse
                have Hgo := Lib.hid hgo
                have H16 := Lib.hid h16
                have Hsy := Lib.hid hsy
                have Hhas := Lib.hid hhas
                have HH := Lib.hid hH
                have HL := Lib.hid hL
                have Hen := Lib.hid hen
                clear hgo h16 hsy hhas hH hL hen
                go_upto_region 13 with fail
                refine wp_region_noPanic ?_
                refine wp_region_held_drew (S := fun w' => Chg [] wr w') (by kernel_rfl) ((Chg.refl _ _).drew) (fun hHeld => ?_)
                refine take_read (i := 0) (v := ?_) (by simp only [List.getElem?_toArray, List.getElem?_cons_zero]; rfl) (by kernel_rfl) (by kernel_rfl) (by kernel_rfl) (fun _ _ _ h => h) hHeld ?_ ?_
                rotate_left
                · intro w hSw
                  go_simp
                  try with_reducible rfl
                try simp only [Act.put, List.setIfInBounds_toArray, List.set_cons_zero, List.set_cons_succ]
                refine take_read (i := 1) (v := ?_) (by simp only [List.getElem?_toArray, List.getElem?_cons_succ, List.getElem?_cons_zero]; rfl) (by kernel_rfl) (by kernel_rfl) (by kernel_rfl) (fun _ _ _ h => h) hHeld ?_ ?_
                rotate_left
                · intro w hSw
                  go_simp
                  try with_reducible rfl
                try simp only [Act.put, List.setIfInBounds_toArray, List.set_cons_zero, List.set_cons_succ]
                refine take_read (i := 2) (v := ?_) (by simp only [List.getElem?_toArray, List.getElem?_cons_succ, List.getElem?_cons_zero]; rfl) (by kernel_rfl) (by kernel_rfl) (by kernel_rfl) (fun _ _ _ h => h) hHeld ?_ ?_
                rotate_left
                · intro w hSw
                  have y1 := hSw.cell y1 (by simp)
                  go_simp
                  try with_reducible rfl
                try simp only [Act.put, List.setIfInBounds_toArray, List.set_cons_zero, List.set_cons_succ]
                refine take_read (i := 3) (v := ?_) (by simp only [List.getElem?_toArray, List.getElem?_cons_succ, List.getElem?_cons_zero]; rfl) (by kernel_rfl) (by kernel_rfl) (by kernel_rfl) (fun _ _ _ h => h) hHeld ?_ ?_
                rotate_left
                · intro w hSw
                  go_simp
                  try with_reducible rfl
                try simp only [Act.put, List.setIfInBounds_toArray, List.set_cons_zero, List.set_cons_succ]
                refine take_read (i := 4) (v := ?_) (by simp only [List.getElem?_toArray, List.getElem?_cons_succ, List.getElem?_cons_zero]; rfl) (by kernel_rfl) (by kernel_rfl) (by kernel_rfl) (fun _ _ _ h => h) hHeld ?_ ?_
                rotate_left
                · intro w hSw
                  go_simp
                  try with_reducible rfl
                try simp only [Act.put, List.setIfInBounds_toArray, List.set_cons_zero, List.set_cons_succ]
                refine take_read (i := 5) (v := ?_) (by simp only [List.getElem?_toArray, List.getElem?_cons_succ, List.getElem?_cons_zero]; rfl) (by kernel_rfl) (by kernel_rfl) (by kernel_rfl) (fun _ _ _ h => h) hHeld ?_ ?_
                rotate_left
                · intro w hSw
                  go_simp
                  try with_reducible rfl
                try simp only [Act.put, List.setIfInBounds_toArray, List.set_cons_zero, List.set_cons_succ]
                refine take_read (i := 6) (v := ?_) (by simp only [List.getElem?_toArray, List.getElem?_cons_succ, List.getElem?_cons_zero]; rfl) (by kernel_rfl) (by kernel_rfl) (by kernel_rfl) (fun _ _ _ h => h) hHeld ?_ ?_
                rotate_left
                · intro w hSw
                  go_simp
                  try with_reducible rfl
                try simp only [Act.put, List.setIfInBounds_toArray, List.set_cons_zero, List.set_cons_succ]
                refine take_read (i := 7) (v := ?_) (by simp only [List.getElem?_toArray, List.getElem?_cons_succ, List.getElem?_cons_zero]; rfl) (by kernel_rfl) (by kernel_rfl) (by kernel_rfl) (fun _ _ _ h => h) hHeld ?_ ?_
                rotate_left
                · intro w hSw
                  have y2 := hSw.cell y2 (by simp)
                  go_simp
                  try with_reducible rfl
                try simp only [Act.put, List.setIfInBounds_toArray, List.set_cons_zero, List.set_cons_succ]
                refine take_read (i := 8) (v := ?_) (by simp only [List.getElem?_toArray, List.getElem?_cons_succ, List.getElem?_cons_zero]; rfl) (by kernel_rfl) (by kernel_rfl) (by kernel_rfl) (fun _ _ _ h => h) hHeld ?_ ?_
                rotate_left
                · intro w hSw
                  go_simp
                  try with_reducible rfl
                try simp only [Act.put, List.setIfInBounds_toArray, List.set_cons_zero, List.set_cons_succ]
                refine take_read (i := 9) (v := ?_) (by simp only [List.getElem?_toArray, List.getElem?_cons_succ, List.getElem?_cons_zero]; rfl) (by kernel_rfl) (by kernel_rfl) (by kernel_rfl) (fun _ _ _ h => h) hHeld ?_ ?_
                rotate_left
                · intro w hSw
                  go_simp
                  try with_reducible rfl
                try simp only [Act.put, List.setIfInBounds_toArray, List.set_cons_zero, List.set_cons_succ]
                refine take_read (i := 10) (v := ?_) (by simp only [List.getElem?_toArray, List.getElem?_cons_succ, List.getElem?_cons_zero]; rfl) (by kernel_rfl) (by kernel_rfl) (by kernel_rfl) (fun _ _ _ h => h) hHeld ?_ ?_
                rotate_left
                · intro w hSw
                  have y3 := hSw.cell y3 (by simp)
                  go_simp
                  try with_reducible rfl
                try simp only [Act.put, List.setIfInBounds_toArray, List.set_cons_zero, List.set_cons_succ]
                refine take_read (i := 11) (v := ?_) (by simp only [List.getElem?_toArray, List.getElem?_cons_succ, List.getElem?_cons_zero]; rfl) (by kernel_rfl) (by kernel_rfl) (by kernel_rfl) (fun _ _ _ h => h) hHeld ?_ ?_
                rotate_left
                · intro w hSw
                  refine Lay.read_ld Tryz.tImg ((X3.out.frame hSw).in) ?_ ?_
                  exact rfl
                  exact rfl
                try simp only [Act.put, List.setIfInBounds_toArray, List.set_cons_zero, List.set_cons_succ]
                refine take_read (i := 13) (v := ?_) (by simp only [List.getElem?_toArray, List.getElem?_cons_succ, List.getElem?_cons_zero]; rfl) (by kernel_rfl) (by kernel_rfl) (by kernel_rfl) (fun _ _ _ h => h) hHeld ?_ ?_
                rotate_left
                · intro w hSw
                  refine Lay.read_ld Tryz.tImg ((X3.out.frame hSw).in) ?_ ?_
                  exact rfl
                  exact rfl
                try simp only [Act.put, List.setIfInBounds_toArray, List.set_cons_zero, List.set_cons_succ]
                refine wpAnyH_ready (rs := [12]) (by kernel_rfl) (by simp) ?_
                refine AllReadyH.cons rfl (fun K hK => ?_) AllReadyH.nil
                go_simp
                refine (HHI.out _ (RD3.out.frame hHeld)).mono ?_
                rintro e WQ ⟨rfl, hch⟩
                have C12 : Hid (Chg [] wr WQ) := Lib.hid (hHeld.then hch)
                clear hch
                refine hK.out _ _ C12.out (fun hHeld2 => ?_)
                clear hK hHeld K
                have hHeld := hHeld2
                clear hHeld2
                try (unfold Act.put; simp only [List.setIfInBounds_toArray, List.set_cons_zero, List.set_cons_succ])
                refine wpAnyH_ready (rs := [14]) (by kernel_rfl) (by simp) ?_
                refine AllReadyH.cons rfl (fun K hK => ?_) AllReadyH.nil
                go_simp
                refine (HLO.out _ (RD3.out.frame hHeld)).mono ?_
                rintro e WR ⟨rfl, hch⟩
                have C14 : Hid (Chg [] wr WR) := Lib.hid (hHeld.then hch)
                clear hch
                refine hK.out _ _ C14.out (fun hHeld2 => ?_)
                clear hK hHeld K
                have hHeld := hHeld2
                clear hHeld2
                try (unfold Act.put; simp only [List.setIfInBounds_toArray, List.set_cons_zero, List.set_cons_succ])
                refine take_read (i := 15) (v := ?_) (by simp only [List.getElem?_toArray, List.getElem?_cons_succ, List.getElem?_cons_zero]; rfl) (by kernel_rfl) (by kernel_rfl) (by kernel_rfl) (fun _ _ _ h => h) hHeld ?_ ?_
                rotate_left
                · intro w hSw
                  go_simp
                  try with_reducible rfl
                try simp only [Act.put, List.setIfInBounds_toArray, List.set_cons_zero, List.set_cons_succ]
                refine take_read (i := 16) (v := ?_) (by simp only [List.getElem?_toArray, List.getElem?_cons_succ, List.getElem?_cons_zero]; rfl) (by kernel_rfl) (by kernel_rfl) (by kernel_rfl) (fun _ _ _ h => h) hHeld ?_ ?_
                rotate_left
                · intro w hSw
                  go_simp
                  try with_reducible rfl
                try simp only [Act.put, List.setIfInBounds_toArray, List.set_cons_zero, List.set_cons_succ]
                refine take_read (i := 17) (v := ?_) (by simp only [List.getElem?_toArray, List.getElem?_cons_succ, List.getElem?_cons_zero]; rfl) (by kernel_rfl) (by kernel_rfl) (by kernel_rfl) (fun _ _ _ h => h) hHeld ?_ ?_
                rotate_left
                · intro w hSw
                  go_simp
                  try with_reducible rfl
                try simp only [Act.put, List.setIfInBounds_toArray, List.set_cons_zero, List.set_cons_succ]
                refine take_read (i := 18) (v := ?_) (by simp only [List.getElem?_toArray, List.getElem?_cons_succ, List.getElem?_cons_zero]; rfl) (by kernel_rfl) (by kernel_rfl) (by kernel_rfl) (fun _ _ _ h => h) hHeld ?_ ?_
                rotate_left
                · intro w hSw
                  go_simp
                  try with_reducible rfl
                try simp only [Act.put, List.setIfInBounds_toArray, List.set_cons_zero, List.set_cons_succ]
                refine wpAnyH_done (by kernel_rfl) ?_ _
                refine NoPanic.normal ?_
                have v0 := Img.c_kind (X3.out.frame C14.out)
                have v1 := Img.c_name (X3.out.frame C14.out)
                rcases HNM.out with ⟨d1, d1', d2, hnm⟩ | ⟨d1, d1', d2, hnm⟩ | ⟨d1, d1', d2, hnm⟩ | ⟨d1, d1', d2, hnm⟩
                · rw [hnm] at hee
                  have HE := Lib.hid (hee)
                  clear hee hnm
                  go_wp2
                  go_ret
                  exact ⟨congrArg (fun z => Ending.returned (.int .i64 z)) HE.out.symm, C2.out.then (CK.out.then C14.out)⟩
                · rw [hnm] at hee
                  have HE := Lib.hid (hee)
                  clear hee hnm
                  go_wp2
                  go_ret
                  exact ⟨congrArg (fun z => Ending.returned (.int .i64 z)) HE.out.symm, C2.out.then (CK.out.then C14.out)⟩
                · rw [hnm] at hee
                  have HE := Lib.hid (hee)
                  clear hee hnm
                  go_wp2
                  go_ret
                  exact ⟨congrArg (fun z => Ending.returned (.int .i64 z)) HE.out.symm, C2.out.then (CK.out.then C14.out)⟩
                · rw [hnm] at hee
                  have HE := Lib.hid (hee)
                  clear hee hnm
                  go_wp2
                  go_ret
                  exact ⟨congrArg (fun z => Ending.returned (.int .i64 z)) HE.out.symm, C2.out.then (CK.out.then C14.out)⟩
          · rw [if_neg h16] at hse
            rw [hse, firstE_ne (by decide)] at hee
            clear hse
            have hsy : 0 ≤ m.syS := (Hb.out 6 (by rw [H88.out]; decide)).2.1
            have d0 : (m.syS.tmod 16 != 0) = true := by rw [Int.tmod_eq_emod_of_nonneg hsy, bne_iff_ne]; exact h16
            have HE := Lib.hid (hee)
            have Hgo := Lib.hid hgo
            have H16 := Lib.hid h16
            have Hsy := Lib.hid hsy
            clear hgo h16 hsy
            clear hee
            go_wp2_with fail
            go_quiet (fail)
            go_wp2
            go_ret
            exact ⟨congrArg (fun z => Ending.returned (.int .i64 z)) HE.out.symm, C2.out.then (CK.out.drewN _)⟩
    · have d1 : (E1 != 0) = true := by rw [bne_iff_ne]; exact z1
      rw [firstE_ne z1] at hee
      have HE := Lib.hid (hee)
      have Z1 := Lib.hid z1
      clear z1
      clear hee
      go_wp2
      go_ret
      exact ⟨congrArg (fun z => Ending.returned (.int .i64 z)) HE.out.symm, CB.out⟩
  · have d0 : (E0 != 0) = true := by rw [bne_iff_ne]; exact z0
    have hee := HEE.out
    rw [firstE_ne z0] at hee
    have HE := Lib.hid (hee)
    have Z0 := Lib.hid z0
    clear z0
    clear hee
    go_wp2
    go_ret
    exact ⟨congrArg (fun z => Ending.returned (.int .i64 z)) HE.out.symm, CA.out⟩
open Go.RowKit
set_option maxRecDepth 100000
theorem idx_map {f : Seg → Seg} {p : Seg → Bool} (h : ∀ x, p (f x) = p x) : ∀ l : List Seg, idx p (l.map f) = idx p l
  | [] => rfl
  | x :: r => by
    rw [List.map_cons]
    unfold idx
    rw [h, idx_map h r]
theorem goesB_bare (n : Int) : ∀ (xs : List Seg) (a : Int) (N : ByteArray → Bool), goesB n a N (xs.map Seg.bare) = goesB n a N xs
  | [], _, _ => rfl
  | s :: r, a, N => by
    rw [List.map_cons, goes_cons, goes_cons]
    rw [goesB_bare n r]
    rfl
theorem getD_bare (xs : List Seg) (k : Nat) : (xs.map Seg.bare).getD k .zero = (xs.getD k .zero).bare := by
  rw [List.getD_eq_getElem?_getD, List.getD_eq_getElem?_getD, List.getElem?_map]
  cases xs[k]? <;> rfl
theorem segsE_bare (n h : Int) (xs : List Seg) : segsE n h (xs.map Seg.bare) = segsE n h xs := by
  unfold segsE segsB
  rw [idx_map (f := Seg.bare) (fun _ => rfl), goesB_bare]
  cases idx (fun s => !holeS s) xs with
  | none => rfl
  | some f => simp only [getD_bare]; rfl
theorem highS_bare (xs : List Seg) : highS (xs.map Seg.bare) = highS xs := by
  unfold highS
  rw [List.foldl_map]
  rfl
theorem lowS_bare (xs : List Seg) : lowS (xs.map Seg.bare) = lowS xs := by
  unfold lowS
  rw [idx_map (f := Seg.bare) (fun _ => rfl)]
  cases idx (fun s => !holeS s) xs with
  | none => rfl
  | some f => simp only [getD_bare]; rfl
theorem spansE_bare (n : Int) (m : Img) (xs : List Seg) : spansE n m.bare (xs.map Seg.bare) = spansE n m xs := by
  unfold spansE
  rw [highS_bare, lowS_bare]
  rfl
/-- The numbers of an image (plain data) are of their kinds. -/
structure PB (p : TP) : Prop where
  im : ImB p.segs
  sp : SpnsB p.m
/-- Why an image may not be (0: it may), in a file of n bytes, behind a head of h. -/
def mayE (n h : Int) (p : TP) : Int := firstE [segsE n h (p.segs.map SegP.s), secsE p.segs, spansE n p.m (p.segs.map SegP.s), namesE p.m]
theorem segs_bare {w : World} {xs : List Seg} {ps : List SegP} (hl : xs.length = ps.length) (hk : ∀ i, i < xs.length → SegRd w (xs.getD i .zero) (ps.getD i .zero)) : xs.map Seg.bare = ps.map SegP.s := by
  apply List.ext_getElem?
  intro i
  rw [List.getElem?_map, List.getElem?_map]
  by_cases h : i < xs.length
  · have h2 := (hk i h).1
    rw [List.getD_eq_getElem?_getD, List.getD_eq_getElem?_getD, List.getElem?_eq_getElem h, List.getElem?_eq_getElem (by omega)] at h2
    rw [List.getElem?_eq_getElem h, List.getElem?_eq_getElem (by omega)]
    exact congrArg some h2
  · rw [List.getElem?_eq_none (by omega), List.getElem?_eq_none (by omega)]
    rfl
theorem mayE_eq {w : World} {m : Img} {p : TP} {xs : List Seg} (n h : Int) (hm : m.bare = p.m) (hl : xs.length = p.segs.length) (hk : ∀ i, i < xs.length → SegRd w (xs.getD i .zero) (p.segs.getD i .zero)) :
    mayE n h p = firstE [segsE n h xs, secsE p.segs, spansE n m xs, namesE m] := by
  unfold mayE
  rw [← segs_bare hl hk, ← hm, segsE_bare, spansE_bare]
  rfl
theorem segsB_of {w : World} {xs : List Seg} {ps : List SegP} (hb : ImB ps) (hl : xs.length = ps.length) (hk : ∀ i, i < xs.length → SegRd w (xs.getD i .zero) (ps.getD i .zero)) : SegsB xs := fun k h => by
  have h1 := hb.seg k (by omega)
  rw [← (hk k h).1] at h1
  exact h1
theorem spnsB_of {m : Img} {p : TP} (hm : m.bare = p.m) (h : SpnsB p.m) : SpnsB m := by
  rw [← hm] at h
  exact h
/-- clevisref06.May. -/
theorem RMayI_any (m : Img) (p : TP) (n h : Int) (hn0 : 0 ≤ n) (hn : n < 18446744073709551616) (hb : PB p) (w : World) (hd : DRd w m p) :
    Calls Tryz.prog 9 #[imgL.val m, .int .u64 n, .int .u64 h] w fun e w' => e = .returned (.int .i64 (mayE n h p)) ∧ Chg [] w w' := by
  obtain ⟨xs, hm, hs, hl, hk, _⟩ := hd
  rw [mayE_eq n h hm hl hk]
  have hsb := segsB_of hb.im hl hk
  have hsp := spnsB_of hm hb.sp
  exact rmay_core m xs hsp n h _ _ hn w hs
    (fun W hW => rsegments_any m xs hsb n h hn0 hn W (hs.frame hW))
    (fun W hW => rsections_any m xs p.segs hb.im W (hs.frame hW) hl (fun i hi => (hk i hi).frame hW))
open Go.RowKit
set_option maxRecDepth 100000
theorem goesB_place (n : Int) : ∀ (ls : List Seg) (a : Int) (N : ByteArray → Bool), goesB n a N ls = true → ∀ s ∈ ls, placeB n s = true
  | [], _, _, _, s, hs => by cases hs
  | x :: r, a, N, h, s, hs => by
    rw [goes_cons] at h
    simp only [Bool.and_eq_true] at h
    rcases List.mem_cons.1 hs with e | e
    · rw [e]; exact h.1
    · exact goesB_place n r _ _ h.2.2.2 s e
theorem firstE_all {e : Int} {r : List Int} (h : firstE (e :: r) = 0) : e = 0 ∧ firstE r = 0 := by
  by_cases h0 : e = 0
  · subst h0; exact ⟨rfl, h⟩
  · rw [firstE_ne h0] at h; exact absurd h h0
/-- An image that may be has segments that may be. -/
theorem may_place {n h : Int} {p : TP} (hm : mayE n h p = 0) : ∀ s ∈ p.segs.map SegP.s, placeB n s = true := by
  have h1 := (firstE_all hm).1
  unfold segsE at h1
  split at h1
  · rename_i hb
    unfold segsB at hb
    split at hb
    · exact absurd hb (by decide)
    · rw [Bool.and_eq_true] at hb
      exact goesB_place n _ _ _ hb.1
  · exact absurd h1 (by decide)
/-- The segments of an image that may be, in memory. -/
theorem segs_may {w : World} {m : Img} {p : TP} {n h : Int} (hd : DRd w m p) (hp : PB p) (hm : mayE n h p = 0) :
    ∃ xs, segL.Rd w m.segs.v xs ∧ SegsB xs ∧ xs.length = p.segs.length ∧ (∀ k, k < xs.length → (xs.getD k .zero).addr + (xs.getD k .zero).size ≤ 140737488355328) ∧ xs.length ≠ 0 := by
  obtain ⟨xs, _, rd, hll, hlk, _⟩ := hd
  have hpl := may_place hm
  have hbare := segs_bare hll hlk
  refine ⟨xs, rd, segsB_of hp.im hll hlk, hll, fun k hk => ?_, fun h0 => ?_⟩
  · have hmem : (xs.getD k .zero).bare ∈ p.segs.map SegP.s := by
      rw [← hbare]
      refine List.mem_map.2 ⟨xs.getD k .zero, ?_, rfl⟩
      rw [List.getD_eq_getElem?_getD, List.getElem?_eq_getElem hk]
      exact List.getElem_mem hk
    have hp := hpl _ hmem
    unfold placeB withinI at hp
    simp only [Bool.and_eq_true, decide_eq_true_eq] at hp
    have e1 : (xs.getD k .zero).bare.addr = (xs.getD k .zero).addr := rfl
    have e2 : (xs.getD k .zero).bare.size = (xs.getD k .zero).size := rfl
    rw [e1, e2] at hp
    omega
  · have h1 := (firstE_all hm).1
    have hz : p.segs = [] := List.length_eq_zero_iff.1 (by omega)
    rw [hz] at h1
    have h2 : (8 : Int) = 0 := h1
    exact absurd h2 (by decide)
end Go.Proofs.YtkomocgodljecaaGreatDoor
