/- Lemmas, laid together: part 4 of 46. Conditions: none but each lemma's own. -/
import Derived.Test.YtaipelkegemoeaaGreatDoorJ3
import Derived.Test.YtaipelkegemoeaaGreatDoorProg
import Derived.Deep.CutRange
import Derived.StillTailTactics
import Derived.Handy
import Derived.Test.YtaipelkegemoeaaGreatDoorJ2
import Derived.MapKept
import Derived.Laws.Cells
import Derived.Maps.Own
import Derived.Lib.Strings
import Derived.Laws.BitsAllLaws
import Derived.Lib.AppendStr
/- An image's lowest address: image.Low and the document's. -/
namespace Go.Proofs.YtaipelkegemoeaaGreatDoor
open Go.RowKit
set_option maxRecDepth 100000

/-- The place of the first one of which p is true. -/
def idx {α : Type} (p : α → Bool) : List α → Option Nat
  | [] => none
  | x :: r => if p x then some 0 else (idx p r).map (· + 1)
theorem idx_some {α : Type} {p : α → Bool} {d : α} : ∀ {l : List α} {k : Nat}, k < l.length → p (l.getD k d) = true → (∀ j, j < k → p (l.getD j d) = false) → idx p l = some k
  | [], _, h, _, _ => by simp at h
  | x :: r, 0, _, h, _ => by
    unfold idx
    rw [if_pos (by simpa using h)]
  | x :: r, k + 1, hk, h, hn => by
    have h0 := hn 0 (by omega)
    have ih := idx_some (p := p) (d := d) (l := r) (k := k) (by simpa using hk) (by simpa using h) (fun j hj => by simpa using hn (j + 1) (by omega))
    unfold idx
    rw [if_neg (by simpa using h0), ih]
    rfl
theorem idx_none {α : Type} {p : α → Bool} {d : α} : ∀ {l : List α}, (∀ j, j < l.length → p (l.getD j d) = false) → idx p l = none
  | [], _ => rfl
  | x :: r, hn => by
    have h0 := hn 0 (by simp)
    have ih := idx_none (p := p) (d := d) (l := r) (fun j hj => by simpa using hn (j + 1) (by simpa using hj))
    unfold idx
    rw [if_neg (by simpa using h0), ih]
    rfl
theorem idx_lt {α : Type} {p : α → Bool} : ∀ {l : List α} {k : Nat}, idx p l = some k → k < l.length
  | [], _, h => by cases h
  | x :: r, k, h => by
    unfold idx at h
    split at h
    · cases h; simp
    · cases hi : idx p r with
      | none => rw [hi] at h; cases h
      | some m =>
        rw [hi] at h
        cases h
        have := idx_lt hi
        simpa using this
def idxI (o : Option Nat) : Int := match o with | some k => k | none => -1
/-- Is a segment not laid? -/
def holeS (s : Seg) : Bool := decide (s.prot = 0) && decide (s.fsize = 0)
/-- The lowest address. -/
def lowS (ls : List Seg) : Int := match idx (fun s => !holeS s) ls with | some k => (ls.getD k .zero).addr | none => 0

theorem hole_any (s : Seg) (w : World) : Calls Tryz.prog 41 #[s.v] w fun e w' => e = .returned (.bool (holeS s)) ∧ Chg [] w w' := by
  unfold holeS
  by_cases hp : s.prot = 0
  · rw [hp, decide_eq_true rfl, Bool.true_and]
    unfold Seg.v
    rw [hp]
    clear hp
    go_enter Tryz.func41, Tryz.ntmps41
    go_wp2
    go_ret
    exact ⟨rfl, (Chg.refl _ _).alloc _⟩
  · have d1 : decide (s.prot = 0) = false := by simpa using hp
    have d2 : (s.prot == 0) = false := by simpa using hp
    rw [d1, Bool.false_and]
    clear hp
    go_enter Tryz.func41, Tryz.ntmps41
    go_wp2
    go_ret
    exact ⟨rfl, (Chg.refl _ _).alloc _⟩
theorem refHole_any (s : Seg) (w : World) : Calls Tryz.prog 52 #[s.v] w fun e w' => e = .returned (.bool (holeS s)) ∧ Chg [] w w' := by
  unfold holeS
  by_cases hp : s.prot = 0
  · rw [hp, decide_eq_true rfl, Bool.true_and]
    unfold Seg.v
    rw [hp]
    clear hp
    go_enter Tryz.func52, Tryz.ntmps52
    go_wp2
    go_ret
    exact ⟨rfl, (Chg.refl _ _).alloc _⟩
  · have d1 : decide (s.prot = 0) = false := by simpa using hp
    have d2 : (s.prot == 0) = false := by simpa using hp
    rw [d1, Bool.false_and]
    clear hp
    go_enter Tryz.func52, Tryz.ntmps52
    go_wp2
    go_ret
    exact ⟨rfl, (Chg.refl _ _).alloc _⟩
theorem Tryz.tImg : Lay.Ty imgL Tryz.prog 32 := Lay.Ty.mk' (by kernel_rfl) (by kernel_rfl)
theorem refLow_any (m : Img) (ls : List Seg) (w : World) (rd : segL.Rd w m.segs.v ls) :
    Calls Tryz.prog 35 #[imgL.val m] w fun e w' => e = .returned (.int .u64 (lowS ls)) ∧ Chg [] w w' := by
  obtain ⟨a, cap, hv, hc1, hc2⟩ := rd.shape
  have Rd := Lib.hid rd
  clear rd
  go_enter Tryz.func35, Tryz.ntmps35
  go_wp2_with ((with_reducible refine Lay.bxL (L := imgL) 32 m ?_ ?_); exact rfl; intro W bm hbm hcW hbox; replace hbm := Lib.hid hbm; replace hcW := Lib.hid hcW; replace hbox := Lib.hid hbox; refine Hid.out ?_)
  refine Lib.hid ?_
  clear hbm
  go_wp2_with fail
  go_loopw [3] (fun s3 wr => ∃ k : Nat, k ≤ ls.length ∧ s3 = .int .i64 (k : Int) ∧ (∀ j, j < k → (!holeS (ls.getD j .zero)) = false) ∧ Chg [] W wr) (fun s3 _ => ls.length - (intOf s3).toNat)
  case atStart => exact ⟨0, Nat.zero_le _, rfl, fun _ h => absurd h (Nat.not_lt_zero _), Chg.refl _ _⟩
  case round =>
    obtain ⟨k, hk, rfl, hno, hch⟩ := hrel
    have Hno := Lib.hid hno
    have Hch := Lib.hid hch
    clear hno hch
    have x4 := Img.c_segs (hbox.out.frame Hch.out)
    have hv2 := hv
    unfold SlV.v at hv2
    rw [hv2] at x4
    by_cases hlt : k < ls.length
    · have rd2 := (Rd.out.frame hcW.out).frame Hch.out
      rw [hv] at rd2
      obtain ⟨b, off, rfl, hb, hcell⟩ := rd2.at (by omega)
      have hI : segL.In wr b (off + k * 7) (ls.getD k .zero) := hcell k hlt
      obtain ⟨s, hs⟩ : ∃ s, s = ls.getD k .zero := ⟨_, rfl⟩
      rw [← hs] at hI
      obtain ⟨y0, y1, y2, y3, y4, y5, y6⟩ := Seg.at hI
      clear hcell hb rd2 hv hv2
      have Hs := Lib.hid hs
      have HI := Lib.hid hI
      clear hs hI
      have HF := Lib.hid (refHole_any s)
      obtain ⟨q, hq⟩ : ∃ q, q = holeS s := ⟨_, rfl⟩
      rw [← hq] at HF
      go_wp2_with fail
      refine (HF.out _).mono ?_
      rintro e w' ⟨rfl, hc⟩
      have HC := Lib.hid (Hch.out.then hc)
      replace x4 := hc.cell x4 (by simp)
      replace y1 := hc.cell y1 (by simp)
      clear hc y0 y2 y3 y4 y5 y6
      cases q with
      | false =>
        have HE : Hid (lowS ls = s.addr) := by
          refine Lib.hid ?_
          rw [Hs.out] at hq
          have := idx_some (p := fun s => !holeS s) (d := Seg.zero) (l := ls) (k := k) hlt (by rw [← hq]; rfl) (fun j hj => Hno.out j hj)
          unfold lowS
          rw [this, Hs.out]
        clear hq
        go_wp2
        go_ret
        exact ⟨by rw [HE.out]; rfl, hcW.out.then HC.out⟩
      | true =>
        have Hq := Lib.hid hq
        clear hq
        go_wp2
        go_roundw
        case rel =>
          refine ⟨k + 1, hlt, by go_num, fun j hj => ?_, HC.out⟩
          by_cases e : j = k
          · subst e; rw [← Hs.out, ← Hq.out]; rfl
          · exact Hno.out j (by omega)
        case measure => simp [intOf]; omega
    · have HE : Hid (lowS ls = 0) := by
        refine Lib.hid ?_
        have := idx_none (p := fun s => !holeS s) (d := Seg.zero) (l := ls) (fun j hj => Hno.out j (by omega))
        unfold lowS
        rw [this]
      clear hv hv2
      go_wp2
      go_ret
      exact ⟨by rw [HE.out]; rfl, hcW.out.then Hch.out⟩
end Go.Proofs.YtaipelkegemoeaaGreatDoor
/- image.At: the number of an address's segment. -/
namespace Go.Proofs.YtaipelkegemoeaaGreatDoor
open Go.RowKit
set_option maxRecDepth 100000

/-- Does an address stand in a segment? -/
def inS (addr : Int) (s : Seg) : Bool := !holeS s && (decide (s.addr ≤ addr) && decide (addr - s.addr < s.size))
def atS (ls : List Seg) (addr : Int) : Option Nat := idx (inS addr) ls
theorem Tryz.tSeg : Lay.Ty segL Tryz.prog 64 := Lay.Ty.mk' (by kernel_rfl) (by kernel_rfl)
theorem at1_any (s : Seg) (hs : 0 ≤ s.addr) (addr : Int) (ha : addr < 18446744073709551616) (p : Nat) (w : World) (hp : w.cell? ⟨p, 0, none⟩ = some (.int .u64 addr)) :
    Calls Tryz.prog 40 #[s.v, .pointer (some ⟨p, 0, none⟩)] w fun e w' => e = .returned (.bool (inS addr s)) ∧ Chg [] w w' := by
  have HH := Lib.hid (hole_any s)
  unfold inS
  generalize holeS s = b at *
  have Hp := Lib.hid hp
  clear hp
  cases b with
  | true =>
    go_enter Tryz.func40, Tryz.ntmps40
    go_wp2_with ((with_reducible refine Lay.bxL (L := segL) 64 s ?_ ?_); exact rfl; intro W1 bs ebs cbs xbs; replace ebs := Lib.hid ebs; replace cbs := Lib.hid cbs; replace xbs := Lib.hid xbs; refine Hid.out ?_)
    refine Lib.hid ?_
    go_wp2_with ((with_reducible refine Lay.ldL Tryz.tSeg s (xbs.out.in) ?_ ?_); exact rfl; refine Hid.out ?_)
    refine Lib.hid ?_
    go_wp2_with fail
    refine (HH.out _).mono ?_
    rintro e w' ⟨rfl, hc⟩
    have Hc := Lib.hid hc
    clear hc
    have p2 := (cbs.out.then Hc.out).cell Hp.out (by simp)
    have x1 := Seg.c_addr (xbs.out.frame Hc.out)
    have x2 := Seg.c_size (xbs.out.frame Hc.out)
    go_wp2
    go_ret
    exact ⟨rfl, cbs.out.then Hc.out⟩
  | false =>
    by_cases h1 : s.addr ≤ addr
    · have d1 : decide (s.addr ≤ addr) = true := by simpa using h1
      have hw : IntKind.u64.wrap (addr - s.addr) = addr - s.addr := by rw [IntKind.wrap_u64]; omega
      go_enter Tryz.func40, Tryz.ntmps40
      go_wp2_with ((with_reducible refine Lay.bxL (L := segL) 64 s ?_ ?_); exact rfl; intro W1 bs ebs cbs xbs; replace ebs := Lib.hid ebs; replace cbs := Lib.hid cbs; replace xbs := Lib.hid xbs; refine Hid.out ?_)
      refine Lib.hid ?_
      go_wp2_with ((with_reducible refine Lay.ldL Tryz.tSeg s (xbs.out.in) ?_ ?_); exact rfl; refine Hid.out ?_)
      refine Lib.hid ?_
      go_wp2_with fail
      refine (HH.out _).mono ?_
      rintro e w' ⟨rfl, hc⟩
      have Hc := Lib.hid hc
      clear hc
      have p2 := (cbs.out.then Hc.out).cell Hp.out (by simp)
      have x1 := Seg.c_addr (xbs.out.frame Hc.out)
      have x2 := Seg.c_size (xbs.out.frame Hc.out)
      go_wp2
      go_ret
      exact ⟨by rw [d1]; rfl, cbs.out.then Hc.out⟩
    · have d1 : decide (s.addr ≤ addr) = false := by simpa using h1
      go_enter Tryz.func40, Tryz.ntmps40
      go_wp2_with ((with_reducible refine Lay.bxL (L := segL) 64 s ?_ ?_); exact rfl; intro W1 bs ebs cbs xbs; replace ebs := Lib.hid ebs; replace cbs := Lib.hid cbs; replace xbs := Lib.hid xbs; refine Hid.out ?_)
      refine Lib.hid ?_
      go_wp2_with ((with_reducible refine Lay.ldL Tryz.tSeg s (xbs.out.in) ?_ ?_); exact rfl; refine Hid.out ?_)
      refine Lib.hid ?_
      go_wp2_with fail
      refine (HH.out _).mono ?_
      rintro e w' ⟨rfl, hc⟩
      have Hc := Lib.hid hc
      clear hc
      have p2 := (cbs.out.then Hc.out).cell Hp.out (by simp)
      have x1 := Seg.c_addr (xbs.out.frame Hc.out)
      have x2 := Seg.c_size (xbs.out.frame Hc.out)
      go_wp2
      go_ret
      exact ⟨by rw [d1]; rfl, cbs.out.then Hc.out⟩
/-- A segment's numbers are of their kinds. -/
def SegB (s : Seg) : Prop := (0 ≤ s.addr ∧ s.addr < 18446744073709551616) ∧ (0 ≤ s.size ∧ s.size < 18446744073709551616) ∧ (0 ≤ s.off ∧ s.off < 18446744073709551616) ∧ (0 ≤ s.fsize ∧ s.fsize < 18446744073709551616)
def SegsB (ls : List Seg) : Prop := ∀ k, k < ls.length → SegB (ls.getD k .zero)
set_option maxHeartbeats 1000000 in
theorem idxAt_any (ls : List Seg) (hls : SegsB ls) (addr : Int) (ha : addr < 18446744073709551616) (p : Nat) (v : Value) (w : World) (rd : segL.Rd w v ls) (hp : w.cell? ⟨p, 0, none⟩ = some (.int .u64 addr)) :
    Calls Tryz.prog 39 #[v, .func (.func 40) #[] #[.pointer (some ⟨p, 0, none⟩)]] w fun e w' => e = .returned (.int .i64 (idxI (atS ls addr))) ∧ Chg [] w w' := by
  obtain ⟨a, cap, rfl, hc1, hc2⟩ := rd.shape
  have HCL : Hid (∀ k, k < ls.length → ∀ W, Chg [] w W → Calls Tryz.prog 40 #[(ls.getD k .zero).v, .pointer (some ⟨p, 0, none⟩)] W fun e w' => e = .returned (.bool (inS addr (ls.getD k .zero))) ∧ Chg [] W w') := by
    refine Lib.hid ?_
    intro k hk W hW
    exact at1_any _ (hls k hk).1.1 addr ha p W (hW.cell hp (by simp))
  unfold atS
  generalize inS addr = P at *
  have HR := Lib.hid rd
  have Hls := Lib.hid hls
  have Ha := Lib.hid ha
  have Hp := Lib.hid hp
  clear rd hls ha hp
  go_enter Tryz.func39, Tryz.ntmps39
  go_wp2_with fail
  go_loopw [8] (fun s8 wr => ∃ k : Nat, k ≤ ls.length ∧ s8 = .int .i64 (k : Int) ∧ (∀ j, j < k → P (ls.getD j .zero) = false) ∧ Chg [] w wr) (fun s8 _ => ls.length - (intOf s8).toNat)
  case atStart => exact ⟨0, Nat.zero_le _, rfl, fun _ h => absurd h (Nat.not_lt_zero _), Chg.refl _ _⟩
  case round =>
    obtain ⟨k, hk, rfl, hno, hch⟩ := hrel
    have Hno := Lib.hid hno
    have Hch := Lib.hid hch
    clear hno hch
    by_cases hlt : k < ls.length
    · obtain ⟨b, off, rfl, hb, hcell⟩ := HR.out.at (by omega)
      have hI : segL.In w b (off + k * 7) (ls.getD k .zero) := hcell k hlt
      have HF := Lib.hid (HCL.out k hlt wr Hch.out)
      obtain ⟨s, hs⟩ : ∃ s, s = ls.getD k .zero := ⟨_, rfl⟩
      rw [← hs] at hI HF
      have hI2 := hI.frame Hch.out
      clear hI hcell hb
      have Hs := Lib.hid hs
      have HI := Lib.hid hI2
      clear hs hI2
      obtain ⟨q, hq⟩ : ∃ q, q = P s := ⟨_, rfl⟩
      rw [← hq] at HF
      go_wp2_with ((with_reducible refine Lay.ldL Tryz.tSeg s (HI.out) ?_ ?_); exact rfl; refine Hid.out ?_)
      refine Lib.hid ?_
      go_wp2_with fail
      refine HF.out.mono ?_
      rintro e w' ⟨rfl, hc⟩
      have HC := Lib.hid (Hch.out.then hc)
      clear hc
      cases q with
      | true =>
        have HE : Hid (idx P ls = some k) := Lib.hid (by rw [Hs.out] at hq; exact idx_some hlt hq.symm (fun j hj => Hno.out j hj))
        clear hq
        go_wp2
        go_ret
        exact ⟨by rw [HE.out]; rfl, HC.out⟩
      | false =>
        have Hq := Lib.hid hq
        clear hq
        go_wp2
        go_roundw
        case rel =>
          refine ⟨k + 1, hlt, by go_num, fun j hj => ?_, HC.out⟩
          by_cases e : j = k
          · subst e; rw [← Hs.out]; exact Hq.out.symm
          · exact Hno.out j (by omega)
        case measure => simp [intOf]; omega
    · have HE : Hid (idx P ls = none) := Lib.hid (idx_none (fun j hj => Hno.out j (by omega)))
      go_wp2
      go_ret
      exact ⟨by rw [HE.out]; rfl, Hch.out⟩
theorem At_img (m : Img) (ls : List Seg) (hls : SegsB ls) (addr : Int) (ha : addr < 18446744073709551616) (w : World) (rd : segL.Rd w m.segs.v ls) :
    Calls Tryz.prog 20 #[imgL.val m, .int .u64 addr] w fun e w' => e = .returned (.int .i64 (idxI (atS ls addr))) ∧ Chg [] w w' := by
  have HX := Lib.hid (fun p v w => idxAt_any ls hls addr ha p v w)
  have hmf : ∀ (fn : Fn) (first cap : Array Value) (w : World), (Instr.makeFunc fn first cap).run Tryz.prog w = .ok (.func fn first cap) w := fun _ _ _ _ => rfl
  have Rd := Lib.hid rd
  have Ha := Lib.hid ha
  have Hls := Lib.hid hls
  clear rd ha hls
  go_enter Tryz.func20, Tryz.ntmps20
  go_wp2_with ((with_reducible refine Lay.bxL (L := imgL) 32 m ?_ ?_); exact rfl; intro W bm ebm cbm xbm; replace ebm := Lib.hid ebm; replace cbm := Lib.hid cbm; replace xbm := Lib.hid xbm; refine Hid.out ?_)
  refine Lib.hid ?_
  have x4 := fun o => Img.c_segs (xbm.out.alloc o)
  go_wp2_with fail
  refine (HX.out W.heap.size _ _ ((Rd.out.frame cbm.out).frame ((Chg.refl _ _).alloc _)) ?_).mono ?_
  · rw [cell_of_heap (heap_alloc_eq _ _)]; rfl
  rintro e w' ⟨rfl, hc⟩
  have Hc := Lib.hid hc
  clear hc
  go_wp2
  go_ret
  exact ⟨rfl, (cbm.out.alloc _).then Hc.out⟩
end Go.Proofs.YtaipelkegemoeaaGreatDoor
/- image: within, mayPlace; the document's Within. -/
namespace Go.Proofs.YtaipelkegemoeaaGreatDoor
open Go.RowKit
set_option maxRecDepth 100000

theorem rwithinI_any (off size all : Int) (ho : 0 ≤ off) (hs : 0 ≤ size) (ha : all < 18446744073709551616) (w : World) :
    Calls Tryz.prog 33 #[.int .u64 off, .int .u64 size, .int .u64 all] w fun e w' => e = .returned (.bool (withinI off size all)) ∧ Chg [] w w' := by
  by_cases h1 : size ≤ all
  · have hw : IntKind.u64.wrap (all - size) = all - size := by rw [IntKind.wrap_u64]; omega
    have d1 : decide (size ≤ all) = true := decide_eq_true h1
    have hr : withinI off size all = decide (off ≤ all - size) := by
      unfold withinI
      rw [Bool.eq_iff_iff]
      simp only [Bool.and_eq_true, decide_eq_true_eq]
      omega
    rw [hr]
    clear ha ho hs hr
    have Hw := Lib.hid hw
    clear hw
    go_enter Tryz.func33, Tryz.ntmps33
    go_wp2
    go_ret
    exact ⟨congrArg (fun z => Ending.returned (.bool (decide (off ≤ z)))) Hw.out, Chg.refl _ _⟩
  · have d1 : decide (size ≤ all) = false := decide_eq_false h1
    have hr : withinI off size all = false := by
      unfold withinI
      rw [Bool.eq_false_iff]
      simp only [ne_eq, Bool.and_eq_true, decide_eq_true_eq]
      omega
    rw [hr]
    clear ha ho hs hr
    go_enter Tryz.func33, Tryz.ntmps33
    go_wp2
    go_ret
    exact ⟨rfl, Chg.refl _ _⟩
end Go.Proofs.YtaipelkegemoeaaGreatDoor
/- Maps that a call makes, as functions from keys (Map.Is); made, an entry laid, looked up: laws for the walk. No program in sight. -/
namespace Go.Proofs.YtaipelkegemoeaaGreatDoor
open Go.RowKit Go.MapKept
set_option maxRecDepth 100000
namespace Map

/-- A kind of keys. -/
structure Key (κ : Type) where
  of : κ → Value
  d : TypeDesc
  key : ∀ k, IsKey d (of k)
  inj : ∀ a b, of a = of b → a = b
  all : ∀ v, IsKey d v → ∃ k, v = of k
def intK (q : IntKind) : Key Int := ⟨.int q, .int q, fun _ => rfl, fun a b h => by cases h; rfl, fun v h => by
  cases v with
  | int q' a => exact ⟨a, by rw [show q' = q from h]⟩
  | _ => exact h.elim⟩
def strK : Key ByteArray := ⟨.string, .string, fun _ => trivial, fun a b h => by cases h; rfl, fun v h => by
  cases v with
  | string s => exact ⟨s, rfl⟩
  | _ => exact h.elim⟩
variable {κ : Type} {K : Key κ}
/-- A block is a map that has just these entries. -/
def Is (K : Key κ) (w : World) (b : Nat) (f : κ → Option Value) : Prop :=
  ∃ es clock, w.heap[b]? = some (.map es clock) ∧ (∀ x ∈ es.toList, IsKey K.d x.key) ∧ (∀ (i j : Nat) (x y : MapEntry), es[i]? = some x → es[j]? = some y → x.key = y.key → i = j) ∧ ∀ k v, f k = some v ↔ ∃ e ∈ es.toList, e.key = K.of k ∧ e.val = v
theorem Is.frameS {w w' : World} {b : Nat} {f : κ → Option Value} (h : Is K w b f) {S : List Nat} (k : Chg S w w') (hn : b ∉ S) : Is K w' b f := by
  obtain ⟨es, clock, h1, h2⟩ := h
  exact ⟨es, clock, k.heap h1 hn, h2⟩
theorem Is.frame {w w' : World} {b : Nat} {f : κ → Option Value} (h : Is K w b f) (k : Chg [] w w') : Is K w' b f := h.frameS k (by simp)
theorem Is.lt {w : World} {b : Nat} {f : κ → Option Value} (h : Is K w b f) : b < w.heap.size := by
  obtain ⟨es, clock, h1, _⟩ := h
  exact lt_of_heap h1
theorem Is.congr {w : World} {b : Nat} {f g : κ → Option Value} (h : Is K w b f) (e : ∀ k, f k = g k) : Is K w b g := by
  have : f = g := funext e
  rwa [← this]
theorem Is.made (K : Key κ) (w : World) : Is K (w.alloc (.map #[] 0)) w.heap.size (fun _ => none) := ⟨#[], 0, heap_alloc_eq w _, by simp, by simp, by simp⟩
/-- An entry, laid. -/
def put [DecidableEq κ] (f : κ → Option Value) (k : κ) (v : Value) : κ → Option Value := fun j => if j = k then some v else f j
theorem Is.find {P : Program} {kt : TypeId} (hd : P.underlying kt = some K.d) {w : World} {es : Array MapEntry} {f : κ → Option Value} (hk : ∀ x ∈ es.toList, IsKey K.d x.key) (hf : ∀ k v, f k = some v ↔ ∃ e ∈ es.toList, e.key = K.of k ∧ e.val = v) (k : κ) :
    (f k = none ∧ (Instr.findKey kt (K.of k) es.toList).run P w = .ok none w ∧ ∀ x ∈ es.toList, x.key ≠ K.of k) ∨ ∃ j e, f k = some e.val ∧ (Instr.findKey kt (K.of k) es.toList).run P w = .ok (some (j, e.val)) w ∧ es[j]? = some e ∧ e.key = K.of k := by
  rcases findNow_spec (K.key k) es.toList 0 hk with ⟨h1, h2⟩ | ⟨j, e, h1, h2, h3⟩
  · refine .inl ⟨?_, run_findKey hd h1, h2⟩
    cases hfk : f k with
    | none => rfl
    | some v =>
      obtain ⟨e, he, hek, _⟩ := (hf k v).1 hfk
      exact absurd hek (h2 e he)
  · rw [Nat.zero_add] at h1
    rw [Array.getElem?_toList] at h2
    exact .inr ⟨j, e, (hf k e.val).2 ⟨e, Array.mem_toList_iff.2 (Array.mem_of_getElem? h2), h3, rfl⟩, run_findKey hd h1, h2, h3⟩
theorem run_put [DecidableEq κ] {P : Program} {T kt et : TypeId} (hT : P.underlying T = some (.map kt et)) (hd : P.underlying kt = some K.d) {w : World} {b : Nat} {f : κ → Option Value} (h : Is K w b f) (k : κ) (v : Value) :
    ∃ W, (Instr.mapUpdate T (.map (some b)) (K.of k) v).run P w = .ok () W ∧ Chg [b] w W ∧ Is K W b (put f k v) := by
  obtain ⟨es, clock, hb, hk, hnd, hf⟩ := h
  have hchg : ∀ o : Obj, Chg [b] w { w with heap := w.heap.setIfInBounds b o } := fun o => ⟨rfl, rfl, rfl, by simp, fun i _ hn => by
    simp only [List.mem_singleton] at hn
    exact (heap_set (o' := o) hb).2 i hn⟩
  rcases Is.find (P := P) (w := w) hd hk hf k with ⟨h1, h2, h3⟩ | ⟨j, e, h1, h2, h3, h4⟩
  · refine ⟨{ w with heap := w.heap.setIfInBounds b (.map (es.push { key := K.of k, val := v, born := clock }) (clock + 1)) }, ?_, hchg _, ?_⟩
    · simp [Instr.mapUpdate, run_underlying hT, MapKept.run_getObj_map hb, run_checkKey hd (K.key k), h2, run_setObj_map _ hb]
    · refine ⟨_, _, (heap_set hb).1, ?_, ?_, ?_⟩
      · intro x hx
        simp only [Array.toList_push, List.mem_append, List.mem_singleton] at hx
        rcases hx with hx | rfl
        · exact hk x hx
        · exact K.key k
      · intro i j x y hx hy hxy
        rw [Array.getElem?_push] at hx hy
        split at hx
        · cases hx
          split at hy
          · omega
          · exact absurd hxy.symm (h3 y (Array.mem_toList_iff.2 (Array.mem_of_getElem? hy)))
        · split at hy
          · cases hy
            exact absurd hxy (h3 x (Array.mem_toList_iff.2 (Array.mem_of_getElem? hx)))
          · exact hnd i j x y hx hy hxy
      · intro k' v'
        unfold put
        simp only [Array.toList_push, List.mem_append, List.mem_singleton]
        by_cases e : k' = k
        · subst e
          rw [if_pos rfl]
          constructor
          · intro hh; cases hh; exact ⟨_, .inr rfl, rfl, rfl⟩
          · rintro ⟨e, (he | rfl), hek, hev⟩
            · exact absurd hek (h3 e he)
            · simp only at hev; rw [hev]
        · rw [if_neg e, hf]
          constructor
          · rintro ⟨x, hx, h5⟩; exact ⟨x, .inl hx, h5⟩
          · rintro ⟨x, (hx | rfl), h5, h6⟩
            · exact ⟨x, hx, h5, h6⟩
            · exact absurd (K.inj _ _ h5).symm e
  · refine ⟨{ w with heap := w.heap.setIfInBounds b (.map (es.modify j fun e => { e with key := K.of k, val := v }) clock) }, ?_, hchg _, ?_⟩
    · have hks : (Instr.keyThatStays (K.of k) (K.of k)).run P w = .ok (K.of k) w := run_keyThatStays (K.key k)
      simp [Instr.mapUpdate, run_underlying hT, MapKept.run_getObj_map hb, run_checkKey hd (K.key k), h2, h3, h4, hks, run_setObj_map _ hb]
    · have hget : ∀ i, (es.modify j fun e => { e with key := K.of k, val := v })[i]? = if j = i then (es[i]?).map (fun e => { e with key := K.of k, val := v }) else es[i]? := fun i => Array.getElem?_modify
      refine ⟨_, _, (heap_set hb).1, ?_, ?_, ?_⟩
      · intro x hx
        obtain ⟨i, hi⟩ := Array.getElem?_of_mem (Array.mem_toList_iff.1 hx)
        rw [hget] at hi
        split at hi
        · cases he : es[i]? with
          | none => rw [he] at hi; cases hi
          | some y => rw [he] at hi; cases hi; exact K.key k
        · exact hk x (Array.mem_toList_iff.2 (Array.mem_of_getElem? hi))
      · have hkey : ∀ (i : Nat) (x : MapEntry), (es.modify j fun e => { e with key := K.of k, val := v })[i]? = some x → ∃ y : MapEntry, es[i]? = some y ∧ y.key = x.key := by
          intro i x hx
          rw [hget] at hx
          split at hx
          · rename_i hij
            subst hij
            rw [h3] at hx
            cases hx
            exact ⟨e, h3, h4⟩
          · exact ⟨x, hx, rfl⟩
        intro i i' x y hx hy hxy
        obtain ⟨x', hx', ex⟩ := hkey i x hx
        obtain ⟨y', hy', ey⟩ := hkey i' y hy
        exact hnd i i' x' y' hx' hy' (by rw [ex, ey, hxy])
      · intro k' v'
        unfold put
        by_cases ek : k' = k
        · subst ek
          rw [if_pos rfl]
          constructor
          · intro hh
            cases hh
            refine ⟨{ e with key := K.of k', val := v }, Array.mem_toList_iff.2 (Array.mem_of_getElem? (i := j) ?_), rfl, rfl⟩
            rw [hget, if_pos rfl, h3]
            rfl
          · rintro ⟨x, hx, hxk, hxv⟩
            obtain ⟨i, hi⟩ := Array.getElem?_of_mem (Array.mem_toList_iff.1 hx)
            rw [hget] at hi
            split at hi
            · rename_i hij
              subst hij
              rw [h3] at hi
              cases hi
              simp only at hxv
              rw [hxv]
            · rename_i hij
              exact absurd (hnd j i e x h3 hi (by rw [h4, hxk])) hij
        · rw [if_neg ek, hf]
          constructor
          · rintro ⟨x, hx, hxk, hxv⟩
            obtain ⟨i, hi⟩ := Array.getElem?_of_mem (Array.mem_toList_iff.1 hx)
            refine ⟨x, Array.mem_toList_iff.2 (Array.mem_of_getElem? (i := i) ?_), hxk, hxv⟩
            rw [hget, if_neg]
            · exact hi
            · rintro rfl
              rw [h3] at hi
              cases hi
              exact ek (K.inj _ _ (by rw [← hxk, h4]))
          · rintro ⟨x, hx, hxk, hxv⟩
            obtain ⟨i, hi⟩ := Array.getElem?_of_mem (Array.mem_toList_iff.1 hx)
            rw [hget] at hi
            split at hi
            · rename_i hij
              subst hij
              rw [h3] at hi
              cases hi
              exact absurd (K.inj _ _ hxk).symm ek
            · exact ⟨x, Array.mem_toList_iff.2 (Array.mem_of_getElem? hi), hxk, hxv⟩
section
variable {P : Program} {T : TypeId} {ops : Array Oper} {rest : List Oper} {a : Act} {Q : Exit → Act → World → Prop} {w : World}
/-- A map is made. -/
theorem mkL (K : Key κ) (T : TypeId) {d : Tmp} {ty : TypeId} {pos : String} {after : Array Edge}
    (h : ∀ W b, b = w.heap.size → Chg [] w W → Is K W b (fun _ => none) → wpList P ops Q rest (a.put (some d) (.map (some b))) W) : wpList P ops Q (⟨some d, .makeMap T none, ty, pos, after, none⟩ :: rest) a w := by
  refine wpList_plain rfl fun J hJ => ?_
  unfold Oper.wp execOp
  have := h _ _ rfl ((Chg.refl [] w).alloc _) (Is.made K w)
  simp [Instr.makeMap]
  exact hJ _ _ this
/-- What the program says of a map's type. -/
structure Ty (K : Key κ) (P : Program) (T : TypeId) (z : Value) : Prop where
  m : ∃ kt et, P.underlying T = some (.map kt et) ∧ P.underlying kt = some K.d ∧ ∀ w, (zeroValue et).run P w = .ok z w
theorem setL [DecidableEq κ] {z : Value} (hT : Ty K P T z) {m k x : Operand} {ty : TypeId} {pos : String} {after : Array Edge} {b : Nat} {f : κ → Option Value} (hb : Is K w b f) (i : κ) (v : Value) (hm : a.eval m = .map (some b)) (hk : a.eval k = K.of i) (hv : a.eval x = v)
    (h : ∀ W, Chg [b] w W → Is K W b (put f i v) → wpList P ops Q rest a W) : wpList P ops Q (⟨none, .mapUpdate T m k x, ty, pos, after, none⟩ :: rest) a w := by
  refine wpList_plain rfl fun J hJ => ?_
  obtain ⟨kt, et, h1, h2, _⟩ := hT.m
  obtain ⟨W, hr, hc, hi⟩ := run_put h1 h2 hb i v
  unfold Oper.wp execOp
  simp [hm, hk, hv, hr]
  exact hJ _ _ (h W hc hi)
end
end Map
end Go.Proofs.YtaipelkegemoeaaGreatDoor
/- load: sizes, the least bytes of each known command. -/
namespace Go.Proofs.YtaipelkegemoeaaGreatDoor
open Go.RowKit
set_option maxRecDepth 100000

/-- How many bytes a known command has at least (0: it is not known). -/
def leastF (c : Int) : Int :=
  if c = 25 then 72 else if c = 34 ∨ c = 2147483682 then 48 else if c = 2 ∨ c = 12 ∨ c = 13 ∨ c = 2147483672 ∨ c = 2147483679 ∨ c = 2147483683 ∨ c = 2147483688 then 24 else if c = 2147483699 ∨ c = 2147483700 then 16 else 0
end Go.Proofs.YtaipelkegemoeaaGreatDoor
/- Rows of bytes; chain.put. -/
namespace Go.Proofs.YtaipelkegemoeaaGreatDoor
open Go.RowKit
set_option maxRecDepth 100000

def byteL : Lay UInt8 := ⟨1, fun b => [.int .u8 b.toNat], 0, fun _ => rfl, by decide, fun x u hu => by
  simp only [List.mem_singleton] at hu
  subst hu
  rfl⟩
abbrev BB (w : World) (base : Nat) (v : Value) (l : List UInt8) : Prop := byteL.Buf 5 w base v l
theorem Tryz.infoByte : Lay.Info Tryz.prog 22 5 byteL.n 1 := Lay.Info.mk' (z := .int .u8 0) (by kernel_rfl) (by kernel_rfl) rfl
/-- A number's bytes, the lowest first. -/
def leB (n size : Nat) : List UInt8 := (List.range size).map fun i => UInt8.ofNat (n / 2 ^ (8 * i))
theorem leB_len (n k : Nat) : (leB n k).length = k := by simp [leB]
/-- Where a row that grew lies. -/
def Loc (w : World) (v v' : Value) : Prop := v'.ownBlock = v.ownBlock ∨ ∃ k, v'.ownBlock = some k ∧ w.heap.size ≤ k
end Go.Proofs.YtaipelkegemoeaaGreatDoor
/- Records: imports (printed by mkrecs.sh). -/
namespace Go.Proofs.YtaipelkegemoeaaGreatDoor
open Go.RowKit
set_option maxRecDepth 100000

/-- A record Imp. -/
structure Imp where
  ord : Int
  weak : Bool
  sym : ByteArray
  add : Int
def Imp.cells (s : Imp) : List Value := [.int .i64 s.ord, .bool s.weak, .string s.sym, .int .i64 s.add]
abbrev Imp.v (s : Imp) : Value := .agg #[.int .i64 s.ord, .bool s.weak, .string s.sym, .int .i64 s.add]
/-- Its numbers are of their kinds. -/
def Imp.wf (s : Imp) : Prop := (Lit.int .i64 s.ord).wf = true ∧ (Lit.int .i64 s.add).wf = true
def Imp.zero : Imp := ⟨0, false, ⟨#[]⟩, 0⟩
def impL : Lay Imp := ⟨4, Imp.cells, Imp.zero, fun _ => rfl, by decide, fun x u hu => by
  simp only [Imp.cells, List.mem_cons, List.not_mem_nil, or_false] at hu
  rcases hu with rfl | rfl | rfl | rfl <;> rfl⟩
theorem Imp.at {w : World} {b o : Nat} {s : Imp} (h : impL.In w b o s) : w.cell? ⟨b, o, none⟩ = some (.int .i64 s.ord) ∧ w.cell? ⟨b, o + 1, none⟩ = some (.bool s.weak) ∧ w.cell? ⟨b, o + 2, none⟩ = some (.string s.sym) ∧ w.cell? ⟨b, o + 3, none⟩ = some (.int .i64 s.add) :=
  ⟨h 0 (by decide), h 1 (by decide), h 2 (by decide), h 3 (by decide)⟩
/-- A record in a block of its own: made, written, a field written. -/
theorem Imp.box (w : World) (s : Imp) (T : TypeId) : impL.Box (w.alloc (.cells #[.int .i64 s.ord, .bool s.weak, .string s.sym, .int .i64 s.add] T)) w.heap.size s := Lay.Box.of_alloc (L := impL) w s T
theorem Imp.ext' {s r : Imp} (h0 : s.ord = r.ord) (h1 : s.weak = r.weak) (h2 : s.sym = r.sym) (h3 : s.add = r.add) : s = r := by
  cases s; cases r; simp only at h0 h1 h2 h3; subst h0 h1 h2 h3; rfl
instance : DecidableEq Imp := fun s r => decidable_of_iff (s.ord = r.ord ∧ s.weak = r.weak ∧ s.sym = r.sym ∧ s.add = r.add) ⟨fun h => Imp.ext' h.1 h.2.1 h.2.2.1 h.2.2.2, fun h => by rw [h]; exact ⟨rfl, rfl, rfl, rfl⟩⟩
theorem Imp.eqv (s r : Imp) : decide (s = r) = (decide (s.ord = r.ord) && (decide (s.weak = r.weak) && (decide (s.sym.toList = r.sym.toList) && (decide (s.add = r.add))))) := by
  have e : s = r ↔ (s.ord = r.ord ∧ s.weak = r.weak ∧ s.sym = r.sym ∧ s.add = r.add) := ⟨fun h => by rw [h]; exact ⟨rfl, rfl, rfl, rfl⟩, fun h => Imp.ext' h.1 h.2.1 h.2.2.1 h.2.2.2⟩
  have hsym : (s.sym.toList = r.sym.toList) = (s.sym = r.sym) := by rw [Lib.toList_data, Lib.toList_data]; exact propext ⟨fun e => ByteArray.ext (Array.toList_inj.1 e), fun e => by rw [e]⟩
  simp only [hsym, ← Bool.decide_and]
  exact decide_eq_decide.2 e
end Go.Proofs.YtaipelkegemoeaaGreatDoor
/- chain.bytes: an import's bytes (formats 1 and 2). -/
namespace Go.Proofs.YtaipelkegemoeaaGreatDoor
open Go.RowKit
set_option maxRecDepth 100000

def u64N (z : Int) : Nat := (z % 18446744073709551616).toNat
/-- An import's word of 4 bytes, its name at a place. -/
def impW (x : Imp) (name : Nat) : Nat := u64N x.ord % 256 + (if x.weak then 256 else 0) + name * 512
/-- An import's bytes, in the formats 1 and 2. -/
def impB (x : Imp) (name : Nat) (fmt : Int) : List UInt8 := leB (impW x name) 4 ++ (if fmt = 2 then leB (u64N x.add) 4 else [])
end Go.Proofs.YtaipelkegemoeaaGreatDoor
/- append(b, s...) of a string, onto bytes of the call's own; where it lies. -/
namespace Go.Proofs.YtaipelkegemoeaaGreatDoor
open Go.RowKit
set_option maxRecDepth 100000

theorem byte_vals (l : List UInt8) : byteL.vals l = l.map fun b => Value.int .u8 b.toNat := by
  induction l with
  | nil => rfl
  | cons b r ih => rw [Lay.vals_cons, ih]; rfl
theorem str_len (s : ByteArray) : s.data.toList.length = s.size := by rw [Array.length_toList]; rfl
end Go.Proofs.YtaipelkegemoeaaGreatDoor
/- chain.Stride, chain.Format and the document's. -/
namespace Go.Proofs.YtaipelkegemoeaaGreatDoor
open Go.RowKit
set_option maxRecDepth 100000

end Go.Proofs.YtaipelkegemoeaaGreatDoor
