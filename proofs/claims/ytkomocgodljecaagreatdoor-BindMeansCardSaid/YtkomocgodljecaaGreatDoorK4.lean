/- Lemmas, laid together: part 4 of 41. Conditions: none but each lemma's own. -/
import Derived.Test.YtkomocgodljecaaGreatDoorK3
import Derived.Test.YtkomocgodljecaaGreatDoorProg
import Derived.Deep.CutRange
import Derived.StillTailTactics
import Derived.Handy
import Derived.Shelf.Strings.Builder1
import Derived.Shelf.Strings.Builder2
import Derived.Shelf.Strings.OnBuilder
import Derived.Shelf.Strconv.Itoa1
import Derived.Shelf.LaysM
import Derived.Shelf.Strconv.Itoa2
import Derived.Shelf.Strconv.Itoa3
import Derived.Shelf.Strconv.Itoa4
import Derived.Shelf.Strings.Search1
import Derived.Shelf.Strings.Search2
import Derived.Shelf.Strings.Search3
import Derived.WalkKit
import Derived.Test.YtkomocgodljecaaGreatDoorK1
import Derived.LaidEql
import Derived.Stop.Asserts
import Derived.RowKitTokens
import Derived.Maps.AppendAt
import Derived.Laws.BitsLemmas
import Derived.Laws.Externs
import Derived.Lib.ConvBytes
/- An image's lowest address: image.Low and the document's. -/
namespace Go.Proofs.YtkomocgodljecaaGreatDoor
open Go.RowKit
set_option maxRecDepth 100000

/-- The place of the first one of which p is true. -/
def idx {α : Type} (p : α → Bool) : List α → Option Nat
  | [] => none
  | x :: r => if p x then some 0 else (idx p r).map (· + 1)
theorem idx_some {α : Type} {p : α → Bool} {d : α} : ∀ {l : List α} {k : Nat}, k < l.length → p (l.getD k d) = true → (∀ j, j < k → p (l.getD j d) = false) → idx p l = some k
  | [], _, h, _, _ => by simp at h
  | x :: r, 0, _, h, _ => by
    unfold idx
    rw [if_pos (by simpa using h)]
  | x :: r, k + 1, hk, h, hn => by
    have h0 := hn 0 (by omega)
    have ih := idx_some (p := p) (d := d) (l := r) (k := k) (by simpa using hk) (by simpa using h) (fun j hj => by simpa using hn (j + 1) (by omega))
    unfold idx
    rw [if_neg (by simpa using h0), ih]
    rfl
theorem idx_none {α : Type} {p : α → Bool} {d : α} : ∀ {l : List α}, (∀ j, j < l.length → p (l.getD j d) = false) → idx p l = none
  | [], _ => rfl
  | x :: r, hn => by
    have h0 := hn 0 (by simp)
    have ih := idx_none (p := p) (d := d) (l := r) (fun j hj => by simpa using hn (j + 1) (by simpa using hj))
    unfold idx
    rw [if_neg (by simpa using h0), ih]
    rfl
theorem idx_lt {α : Type} {p : α → Bool} : ∀ {l : List α} {k : Nat}, idx p l = some k → k < l.length
  | [], _, h => by cases h
  | x :: r, k, h => by
    unfold idx at h
    split at h
    · cases h; simp
    · cases hi : idx p r with
      | none => rw [hi] at h; cases h
      | some m =>
        rw [hi] at h
        cases h
        have := idx_lt hi
        simpa using this
def idxI (o : Option Nat) : Int := match o with | some k => k | none => -1
/-- Is a segment not laid? -/
def holeS (s : Seg) : Bool := decide (s.prot = 0) && decide (s.fsize = 0)
/-- The lowest address. -/
def lowS (ls : List Seg) : Int := match idx (fun s => !holeS s) ls with | some k => (ls.getD k .zero).addr | none => 0

theorem hole_any (s : Seg) (w : World) : Calls Tryz.prog 42 #[s.v] w fun e w' => e = .returned (.bool (holeS s)) ∧ Chg [] w w' := by
  unfold holeS
  by_cases hp : s.prot = 0
  · rw [hp, decide_eq_true rfl, Bool.true_and]
    unfold Seg.v
    rw [hp]
    clear hp
    go_enter Tryz.func42, Tryz.ntmps42
    go_wp2
    go_ret
    exact ⟨rfl, (Chg.refl _ _).alloc _⟩
  · have d1 : decide (s.prot = 0) = false := by simpa using hp
    have d2 : (s.prot == 0) = false := by simpa using hp
    rw [d1, Bool.false_and]
    clear hp
    go_enter Tryz.func42, Tryz.ntmps42
    go_wp2
    go_ret
    exact ⟨rfl, (Chg.refl _ _).alloc _⟩
theorem refHole_any (s : Seg) (w : World) : Calls Tryz.prog 46 #[s.v] w fun e w' => e = .returned (.bool (holeS s)) ∧ Chg [] w w' := by
  unfold holeS
  by_cases hp : s.prot = 0
  · rw [hp, decide_eq_true rfl, Bool.true_and]
    unfold Seg.v
    rw [hp]
    clear hp
    go_enter Tryz.func46, Tryz.ntmps46
    go_wp2
    go_ret
    exact ⟨rfl, (Chg.refl _ _).alloc _⟩
  · have d1 : decide (s.prot = 0) = false := by simpa using hp
    have d2 : (s.prot == 0) = false := by simpa using hp
    rw [d1, Bool.false_and]
    clear hp
    go_enter Tryz.func46, Tryz.ntmps46
    go_wp2
    go_ret
    exact ⟨rfl, (Chg.refl _ _).alloc _⟩
theorem Tryz.tImg : Lay.Ty imgL Tryz.prog 30 := Lay.Ty.mk' (by kernel_rfl) (by kernel_rfl)
theorem refLow_any (m : Img) (ls : List Seg) (w : World) (rd : segL.Rd w m.segs.v ls) :
    Calls Tryz.prog 27 #[imgL.val m] w fun e w' => e = .returned (.int .u64 (lowS ls)) ∧ Chg [] w w' := by
  obtain ⟨a, cap, hv, hc1, hc2⟩ := rd.shape
  have Rd := Lib.hid rd
  clear rd
  go_enter Tryz.func27, Tryz.ntmps27
  go_wp2_with ((with_reducible refine Lay.bxL (L := imgL) 30 m ?_ ?_); exact rfl; intro W bm hbm hcW hbox; replace hbm := Lib.hid hbm; replace hcW := Lib.hid hcW; replace hbox := Lib.hid hbox; refine Hid.out ?_)
  refine Lib.hid ?_
  clear hbm
  go_wp2_with fail
  go_loopw [3] (fun s3 wr => ∃ k : Nat, k ≤ ls.length ∧ s3 = .int .i64 (k : Int) ∧ (∀ j, j < k → (!holeS (ls.getD j .zero)) = false) ∧ Chg [] W wr) (fun s3 _ => ls.length - (intOf s3).toNat)
  case atStart => exact ⟨0, Nat.zero_le _, rfl, fun _ h => absurd h (Nat.not_lt_zero _), Chg.refl _ _⟩
  case round =>
    obtain ⟨k, hk, rfl, hno, hch⟩ := hrel
    have Hno := Lib.hid hno
    have Hch := Lib.hid hch
    clear hno hch
    have x4 := Img.c_segs (hbox.out.frame Hch.out)
    have hv2 := hv
    unfold SlV.v at hv2
    rw [hv2] at x4
    by_cases hlt : k < ls.length
    · have rd2 := (Rd.out.frame hcW.out).frame Hch.out
      rw [hv] at rd2
      obtain ⟨b, off, rfl, hb, hcell⟩ := rd2.at (by omega)
      have hI : segL.In wr b (off + k * 7) (ls.getD k .zero) := hcell k hlt
      obtain ⟨s, hs⟩ : ∃ s, s = ls.getD k .zero := ⟨_, rfl⟩
      rw [← hs] at hI
      obtain ⟨y0, y1, y2, y3, y4, y5, y6⟩ := Seg.at hI
      clear hcell hb rd2 hv hv2
      have Hs := Lib.hid hs
      have HI := Lib.hid hI
      clear hs hI
      have HF := Lib.hid (refHole_any s)
      obtain ⟨q, hq⟩ : ∃ q, q = holeS s := ⟨_, rfl⟩
      rw [← hq] at HF
      go_wp2_with fail
      refine (HF.out _).mono ?_
      rintro e w' ⟨rfl, hc⟩
      have HC := Lib.hid (Hch.out.then hc)
      replace x4 := hc.cell x4 (by simp)
      replace y1 := hc.cell y1 (by simp)
      clear hc y0 y2 y3 y4 y5 y6
      cases q with
      | false =>
        have HE : Hid (lowS ls = s.addr) := by
          refine Lib.hid ?_
          rw [Hs.out] at hq
          have := idx_some (p := fun s => !holeS s) (d := Seg.zero) (l := ls) (k := k) hlt (by rw [← hq]; rfl) (fun j hj => Hno.out j hj)
          unfold lowS
          rw [this, Hs.out]
        clear hq
        go_wp2
        go_ret
        exact ⟨by rw [HE.out]; rfl, hcW.out.then HC.out⟩
      | true =>
        have Hq := Lib.hid hq
        clear hq
        go_wp2
        go_roundw
        case rel =>
          refine ⟨k + 1, hlt, by go_num, fun j hj => ?_, HC.out⟩
          by_cases e : j = k
          · subst e; rw [← Hs.out, ← Hq.out]; rfl
          · exact Hno.out j (by omega)
        case measure => simp [intOf]; omega
    · have HE : Hid (lowS ls = 0) := by
        refine Lib.hid ?_
        have := idx_none (p := fun s => !holeS s) (d := Seg.zero) (l := ls) (fun j hj => Hno.out j (by omega))
        unfold lowS
        rw [this]
      clear hv hv2
      go_wp2
      go_ret
      exact ⟨by rw [HE.out]; rfl, hcW.out.then Hch.out⟩
end Go.Proofs.YtkomocgodljecaaGreatDoor
/- Contracts of the library, proved once in the kit, laid at this seat's program (made by the kit's tools lay-shelf and lay-plain). -/
namespace Go.Proofs
open Go.Shelf
def Tryz.lays144N_ren : Go.Shelf.Ren := ⟨fun | 144 => 67 | 143 => 92 | 219 => 115 | 217 => 126 | 225 => 127 | 224 => 128 | 267 => 129 | 266 => 135 | 314 => 136 | n => n, fun | 9 => 9 | 4 => 4 | 3 => 3 | 5 => 5 | 46 => 77 | 146 => 171 | 51 => 23 | n => n, fun | 1 => 0 | n => n⟩
theorem Tryz.lays144N : Go.Proofs.Lays.n144 Tryz.prog Tryz.lays144N_ren := {
  mixed := by kernel_rfl
  f143 := Tryz.func92.trans (congrArg some (by kernel_rfl))
  f144 := Tryz.func67.trans (congrArg some (by kernel_rfl))
  f217 := Tryz.func126.trans (congrArg some (by kernel_rfl))
  f219 := Tryz.func115.trans (congrArg some (by kernel_rfl))
  f224 := Tryz.func128.trans (congrArg some (by kernel_rfl))
  f225 := Tryz.func127.trans (congrArg some (by kernel_rfl))
  f266 := Tryz.func135.trans (congrArg some (by kernel_rfl))
  f267 := Tryz.func129.trans (congrArg some (by kernel_rfl))
  f314 := Tryz.func136.trans (congrArg some (by kernel_rfl))
  t3 := Tryz.underlying3
  a3 := Tryz.isAgg3
  z3 := Tryz.sizeOf3
  v3 := Tryz.zeroValue3
  t4 := Tryz.underlying4
  a4 := Tryz.isAgg4
  z4 := Tryz.sizeOf4
  v4 := Tryz.zeroValue4
  t5 := Tryz.underlying5
  a5 := Tryz.isAgg5
  z5 := Tryz.sizeOf5
  v5 := Tryz.zeroValue5
  t9 := Tryz.underlying9
  a9 := Tryz.isAgg9
  z9 := Tryz.sizeOf9
  v9 := Tryz.zeroValue9
  t46 := Tryz.underlying77
  a46 := Tryz.isAgg77
  z46 := Tryz.sizeOf77
  v46 := Tryz.zeroValue77
  t51 := Tryz.underlying23
  a51 := Tryz.isAgg23
  z51 := Tryz.sizeOf23
  v51 := Tryz.zeroValue23
  t146 := Tryz.underlying171
  a146 := Tryz.isAgg171
  z146 := Tryz.sizeOf171
  v146 := Tryz.zeroValue171
  g1 := by kernel_rfl }
open Go.RowKit Go.Lib in
theorem Tryz.strings_Contains_one (s : ByteArray) (c : UInt8) (w : World) :
    Calls Tryz.prog 67 #[.string s, .string ⟨#[c]⟩] w fun e w' => e = .returned (.bool (decide (0 ≤ Lib.indexByte s.data.toList c))) ∧ w' = w := Any.strings_Contains_one Tryz.lays144N s c w
end Go.Proofs
/- Plain: an integer argument as a natural number, its bounds. -/
namespace Go.Proofs.YtkomocgodljecaaGreatDoor
open Go.RowKit

end Go.Proofs.YtkomocgodljecaaGreatDoor
/- What chapter 12's sentences lean on, cut out of this claim's other texts by shake.py; what is known of chapter 12. -/
namespace Go.Proofs.YtkomocgodljecaaGreatDoor
open Go.RowKit
open Go.RowKit
theorem Tryz.infoU8 : (Tryz.prog.info? 5).map (fun i => (i.zero, i.size, i.bytes)) = some (some (.int .u8 0), 1, 1) := by kernel_rfl
open Go.RowKit
theorem Addr_add (b off j : Nat) : (⟨b, off, none⟩ : Addr).add j = ⟨b, off + j, none⟩ := by
  unfold Addr.add; split <;> simp_all
open Go.RowKit
set_option maxRecDepth 100000
theorem owned_frame12 {w w' : World} {base : Nat} {e : TypeId} {size : Nat} {v : Value} {n : Nat} {xs : List Value} (h : w.ownsRow base e size v n xs) {S : List Nat} (k : Chg S w w') (hn : ∀ b, v.ownBlock = some b → b ∉ S) : w'.ownsRow base e size v n xs := by
  refine ⟨h.1, ?_⟩
  rcases h.2 with hn' | ⟨g, cap, cur, rfl, hb, hgg, rest⟩
  · exact .inl hn'
  · exact .inr ⟨g, cap, cur, rfl, hb, k.heap hgg (hn g rfl), rest⟩
theorem owned_base12 {w : World} {base base' : Nat} {e : TypeId} {size : Nat} {v : Value} {n : Nat} {xs : List Value} (h : w.ownsRow base e size v n xs) (hb : base' ≤ base) : w.ownsRow base' e size v n xs := by
  refine ⟨h.1, ?_⟩
  rcases h.2 with hn' | ⟨g, cap, cur, rfl, hb', hgg, rest⟩
  · exact .inl hn'
  · exact .inr ⟨g, cap, cur, rfl, by omega, hgg, rest⟩
theorem bytesV_append12 (a b : List UInt8) : bytesV (a ++ b) = bytesV a ++ bytesV b := by simp [bytesV]
/-- A buffer of the call's own: its bytes. -/
def Buf12 (w : World) (base : Nat) (v : Value) (l : List UInt8) : Prop := w.ownsRow base 5 1 v l.length (bytesV l)
theorem Buf12.nil (w : World) (base : Nat) : Buf12 w base (.slice none 0 0) [] := World.ownsRow_nil w base 5 1
theorem Buf12.frame {w w' : World} {base : Nat} {v : Value} {l : List UInt8} (h : Buf12 w base v l) {S : List Nat} (k : Chg S w w') (hn : ∀ b, v.ownBlock = some b → b ∉ S) : Buf12 w' base v l := owned_frame12 h k hn
theorem Buf12.pure {w w' : World} {base : Nat} {v : Value} {l : List UInt8} (h : Buf12 w base v l) (k : Chg [] w w') : Buf12 w' base v l := h.frame k (fun _ _ hm => by cases hm)
theorem Buf12.rd {w : World} {base : Nat} {v : Value} {l : List UInt8} (h : Buf12 w base v l) : Rd w v (bytesV l) := Rd.owned h
theorem Buf12.app {w' : World} {base : Nat} {v : Value} {l m : List UInt8} (h : w'.ownsRow base 5 1 v (l.length + m.length) (bytesV l ++ bytesV m)) : Buf12 w' base v (l ++ m) := by
  unfold Buf12; rw [List.length_append, bytesV_append12]; exact h
section
variable {w w' : World} {base : Nat} {v1 v2 : Value} {l1 l2 : List UInt8}
end
set_option maxRecDepth 100000
theorem Chg.of_grown {a b : World} {row : Option Nat} (g : a.grownBy b row) : Chg row.toList a b :=
  ⟨g.os, g.tape, g.output, g.size, fun k hk hn => g.block k hk (fun e => hn (by rw [← e]; simp))⟩
open Go.RowKit
set_option maxRecDepth 100000
open Go.RowKit
set_option maxRecDepth 100000
theorem Buf12.mono {w : World} {base base' : Nat} {v : Value} {l : List UInt8} (h : Buf12 w base v l) (hb : base' ≤ base) : Buf12 w base' v l := owned_base12 h hb
open Go.RowKit
set_option maxRecDepth 100000
open Go.RowKit
set_option maxRecDepth 100000
theorem getD_take {α : Type} (ls : List α) (d : α) (k : Nat) (h : k < ls.length) : ls.take (k + 1) = ls.take k ++ [ls.getD k d] := by
  rw [List.take_succ_eq_append_getElem h]; simp [List.getD_eq_getElem?_getD, h]
open Go.RowKit
set_option maxRecDepth 100000
open Go.RowKit
set_option maxRecDepth 100000
open Go.RowKit
set_option maxRecDepth 100000
section
end
open Go.RowKit
set_option maxRecDepth 100000
section
variable {o : Oper} {a : Act} {w : World} {K : Act → World → Prop} {Q : Exit → Act → World → Prop} {tm : Nat → Option Bool}
end
open Go.RowKit
set_option maxRecDepth 100000
section
variable {w0 w w' : World} {vb vp v' : Value} {lb new : List UInt8} {lp lp' : List Nat}
end
open Go.RowKit
set_option maxRecDepth 100000
def BufQ (w : World) (base : Nat) (v : Value) (l : List UInt8) : Prop :=
  ∃ g cap cur fz, v = .slice (some ⟨g, 0, none⟩) l.length cap ∧ base ≤ g ∧ w.heap[g]? = some (.cells cur 5 fz) ∧ (cap ≤ fz.1 ∨ fz.2 = 0) ∧ l.length ≤ cap ∧ cap ≤ maxLen ∧ cur.size = cap ∧ cur.toList.take l.length = bytesV l
theorem BufQ.lt {w : World} {base : Nat} {v : Value} {l : List UInt8} (h : BufQ w base v l) : ∀ k, v.ownBlock = some k → base ≤ k ∧ k < w.heap.size := by
  obtain ⟨g, cap, cur, fz, rfl, hb, hg, _⟩ := h
  intro k hk
  cases hk
  exact ⟨hb, lt_of_heap hg⟩
theorem BufQ.frame {w w' : World} {base : Nat} {v : Value} {l : List UInt8} (h : BufQ w base v l) {S : List Nat} (k : Chg S w w') (hn : ∀ b, v.ownBlock = some b → b ∉ S) : BufQ w' base v l := by
  obtain ⟨g, cap, cur, fz, rfl, hb, hg, rest⟩ := h
  exact ⟨g, cap, cur, fz, rfl, hb, k.heap hg (hn g rfl), rest⟩
theorem BufQ.pure {w w' : World} {base : Nat} {v : Value} {l : List UInt8} (h : BufQ w base v l) (k : Chg [] w w') : BufQ w' base v l := h.frame k (fun _ _ hm => by cases hm)
theorem BufQ.mono {w : World} {base base' : Nat} {v : Value} {l : List UInt8} (h : BufQ w base v l) (hb : base' ≤ base) : BufQ w base' v l := by
  obtain ⟨g, cap, cur, fz, hv, hg, rest⟩ := h
  exact ⟨g, cap, cur, fz, hv, Nat.le_trans hb hg, rest⟩
theorem BufQ.rd {w : World} {base : Nat} {v : Value} {l : List UInt8} (h : BufQ w base v l) : Rd w v (bytesV l) := by
  obtain ⟨g, cap, cur, fz, rfl, hb, hg, _, hc, hm, hs, ht⟩ := h
  refine ⟨_, _, _, rfl, (bytesV_length l).symm, hc, hm, fun _ => ⟨g, 0, rfl, fun j hj => ?_⟩⟩
  rw [bytesV_length] at hj
  rw [Nat.zero_add, cell_of_heap hg, ← ht, List.getElem?_take, if_pos hj]
  simp
section
variable {w0 w w' : World} {vb vp v' : Value} {lb new : List UInt8} {lp lp' : List Nat}
end
open Go.RowKit
set_option maxRecDepth 100000
open Go.RowKit
set_option maxRecDepth 100000
open Go.RowKit
set_option maxRecDepth 100000
open Go.RowKit
set_option maxRecDepth 100000
end Go.Proofs.YtkomocgodljecaaGreatDoor
/- The order of fixups (plain): comparisons, one behind the other. -/
namespace Go.Proofs.YtkomocgodljecaaGreatDoor
open Go.RowKit
set_option maxRecDepth 100000

/-- Which of two comes first. -/
structure IsCmp {α : Type} (c : α → α → Int) : Prop where
  anti : ∀ a b, c a b = - c b a
  one : ∀ a b, c a b = -1 ∨ c a b = 0 ∨ c a b = 1
  left : ∀ a b d, c a b = 0 → c a d = c b d
  trans : ∀ a b d, c a b ≤ 0 → c b d ≤ 0 → c a d ≤ 0
theorem IsCmp.right {α : Type} {c : α → α → Int} (h : IsCmp c) (a b d : α) (e : c a b = 0) : c d a = c d b := by
  rw [h.anti d a, h.anti d b, h.left a b d e]
def th (x y : Int) : Int := if x = 0 then y else x
theorem IsCmp.lex {α : Type} {c d : α → α → Int} (hc : IsCmp c) (hd : IsCmp d) : IsCmp fun a b => th (c a b) (d a b) := by
  refine ⟨fun a b => ?_, fun a b => ?_, fun a b x => ?_, fun a b x => ?_⟩
  · have h1 := hc.anti a b
    have h2 := hd.anti a b
    unfold th
    by_cases h : c a b = 0
    · rw [if_pos h, if_pos (by omega)]; exact h2
    · rw [if_neg h, if_neg (by omega)]; exact h1
  · have h1 := hc.one a b
    have h2 := hd.one a b
    unfold th
    split <;> assumption
  · unfold th
    intro h
    by_cases h0 : c a b = 0
    · rw [if_pos h0] at h
      rw [hc.left a b x h0, hd.left a b x h]
    · rw [if_neg h0] at h; exact absurd h h0
  · unfold th
    intro h1 h2
    have o1 := hc.one a b
    have o2 := hc.one b x
    have o3 := hc.one a x
    by_cases h0 : c a b = 0
    · rw [if_pos h0] at h1
      have e := hc.left a b x h0
      by_cases h3 : c b x = 0
      · rw [if_pos h3] at h2
        rw [if_pos (by omega)]
        exact hd.trans a b x h1 h2
      · rw [if_neg h3] at h2
        rw [if_neg (by omega)]
        omega
    · rw [if_neg h0] at h1
      by_cases h3 : c b x = 0
      · have e := hc.right b x a h3
        rw [if_neg (by omega)]
        omega
      · rw [if_neg h3] at h2
        have ht := hc.trans a b x h1 h2
        by_cases h4 : c a x = 0
        · have e := hc.left a x b h4
          have e2 := hc.anti x b
          omega
        · rw [if_neg h4]; exact ht
theorem IsCmp.by {α β : Type} {c : β → β → Int} (h : IsCmp c) (f : α → β) : IsCmp fun a b => c (f a) (f b) :=
  ⟨fun _ _ => h.anti _ _, fun _ _ => h.one _ _, fun _ _ _ => h.left _ _ _, fun _ _ _ => h.trans _ _ _⟩
def cmpI (x y : Int) : Int := if x < y then -1 else if y < x then 1 else 0
theorem cmpI_is : IsCmp cmpI := by
  refine ⟨fun a b => ?_, fun a b => ?_, fun a b d => ?_, fun a b d => ?_⟩ <;> unfold cmpI <;> (repeat' split) <;> omega
theorem cmpI_eq {x y : Int} : cmpI x y = 0 ↔ x = y := by unfold cmpI; (repeat' split) <;> omega
theorem bl_irrefl : ∀ l : List UInt8, Op.bytesLess l l = false
  | [] => rfl
  | a :: r => by simp [Op.bytesLess, bl_irrefl r]
theorem bl_asymm : ∀ l m : List UInt8, Op.bytesLess l m = true → Op.bytesLess m l = false
  | _, [], h => by simp [Op.bytesLess] at h
  | [], _ :: _, _ => by simp [Op.bytesLess]
  | a :: l, b :: m, h => by
    simp only [Op.bytesLess, Bool.or_eq_true, Bool.and_eq_true, decide_eq_true_eq, beq_iff_eq, Bool.or_eq_false_iff, decide_eq_false_iff_not, Bool.and_eq_false_iff, beq_eq_false_iff_ne] at h ⊢
    simp only [UInt8.lt_iff_toNat_lt, ← UInt8.toNat_inj, ne_eq] at h ⊢
    rcases h with h | ⟨h1, h2⟩
    · exact ⟨by omega, .inl (by omega)⟩
    · exact ⟨by omega, .inr (bl_asymm l m h2)⟩
theorem bl_tri : ∀ l m : List UInt8, Op.bytesLess l m = false → Op.bytesLess m l = false → l = m
  | [], [], _, _ => rfl
  | a :: l, [], _, h => by simp [Op.bytesLess] at h
  | [], _ :: _, h, _ => by simp [Op.bytesLess] at h
  | a :: l, b :: m, h, k => by
    simp only [Op.bytesLess, Bool.or_eq_false_iff, decide_eq_false_iff_not, Bool.and_eq_false_iff, beq_eq_false_iff_ne] at h k
    simp only [UInt8.lt_iff_toNat_lt, ← UInt8.toNat_inj, ne_eq] at h k
    have hab : a = b := UInt8.toNat_inj.1 (by omega)
    subst hab
    have h2 : Op.bytesLess l m = false := by rcases h.2 with h | h; · exact absurd rfl h
                                             · exact h
    have k2 : Op.bytesLess m l = false := by rcases k.2 with h | h; · exact absurd rfl h
                                             · exact h
    rw [bl_tri l m h2 k2]
theorem bl_trans : ∀ l m r : List UInt8, Op.bytesLess l m = true → Op.bytesLess m r = true → Op.bytesLess l r = true
  | _, [], _, h, _ => by simp [Op.bytesLess] at h
  | _, _ :: _, [], _, h => by simp [Op.bytesLess] at h
  | [], _ :: _, _ :: _, _, _ => by simp [Op.bytesLess]
  | a :: l, b :: m, c :: r, h, k => by
    simp only [Op.bytesLess, Bool.or_eq_true, Bool.and_eq_true, decide_eq_true_eq, beq_iff_eq] at h k ⊢
    simp only [UInt8.lt_iff_toNat_lt, ← UInt8.toNat_inj] at h k ⊢
    rcases h with h | ⟨h1, h2⟩
    · exact .inl (by rcases k with k | ⟨k, _⟩ <;> omega)
    · rcases k with k | ⟨k1, k2⟩
      · exact .inl (by omega)
      · exact .inr ⟨by omega, bl_trans l m r h2 k2⟩
def cmpS (x y : ByteArray) : Int := if Op.bytesLess x.toList y.toList then -1 else if Op.bytesLess y.toList x.toList then 1 else 0
theorem cmpS_is : IsCmp cmpS := by
  refine ⟨fun a b => ?_, fun a b => ?_, fun a b d => ?_, fun a b d => ?_⟩
  · unfold cmpS
    have h1 := bl_asymm a.toList b.toList
    have h2 := bl_asymm b.toList a.toList
    cases e1 : Op.bytesLess a.toList b.toList <;> cases e2 : Op.bytesLess b.toList a.toList <;> simp_all
  · unfold cmpS
    (repeat' split) <;> simp
  · unfold cmpS
    intro h
    have h3 := bl_tri a.toList b.toList
    have : a.toList = b.toList := by
      cases e1 : Op.bytesLess a.toList b.toList <;> cases e2 : Op.bytesLess b.toList a.toList <;> simp_all
    rw [this]
  · unfold cmpS
    intro h k
    cases e1 : Op.bytesLess b.toList a.toList with
    | true =>
      have := bl_asymm _ _ e1
      rw [this, e1] at h
      simp at h
    | false =>
      cases e2 : Op.bytesLess d.toList b.toList with
      | true =>
        have := bl_asymm _ _ e2
        rw [this, e2] at k
        simp at k
      | false =>
        have e3 : Op.bytesLess d.toList a.toList = false := by
          cases e : Op.bytesLess d.toList a.toList with
          | false => rfl
          | true =>
            cases e4 : Op.bytesLess a.toList b.toList with
            | true => rw [bl_trans _ _ _ e e4] at e2; cases e2
            | false => rw [bl_tri _ _ e4 e1] at e; rw [e] at e2; cases e2
        rw [e3]
        split <;> simp
theorem cmpS_eq {x y : ByteArray} : cmpS x y = 0 ↔ x = y := by
  constructor
  · intro h
    have : x.toList = y.toList := by
      refine bl_tri _ _ ?_ ?_ <;> unfold cmpS at h
      · cases e1 : Op.bytesLess x.toList y.toList <;> simp_all
      · cases e1 : Op.bytesLess x.toList y.toList <;> cases e2 : Op.bytesLess y.toList x.toList <;> simp_all
    rw [Lib.toList_data, Lib.toList_data] at this
    exact ByteArray.ext (Array.toList_inj.1 this)
  · rintro rfl
    unfold cmpS
    simp [bl_irrefl]

structure Fx where
  at_ : Int
  kind : Int
  tgt : Int
  ord : Int
  sym : ByteArray
  add : Int
  weak : Bool
def Fx.v (f : Fx) : Value := .agg #[.int .u64 f.at_, .int .i64 f.kind, .int .u64 f.tgt, .int .i64 f.ord, .string f.sym, .int .i64 f.add, .bool f.weak]
def wt (b : Bool) : Int := if b then 1 else 0
def ordF (a b : Fx) : Int := th (cmpI a.at_ b.at_) (th (cmpI a.kind b.kind) (th (cmpI a.tgt b.tgt) (th (cmpI a.ord b.ord) (th (cmpS a.sym b.sym) (th (cmpI a.add b.add) (cmpI (wt a.weak) (wt b.weak)))))))
theorem ordF_is : IsCmp ordF :=
  (cmpI_is.by Fx.at_).lex ((cmpI_is.by Fx.kind).lex ((cmpI_is.by Fx.tgt).lex ((cmpI_is.by Fx.ord).lex ((cmpS_is.by Fx.sym).lex ((cmpI_is.by Fx.add).lex (cmpI_is.by fun a : Fx => wt a.weak))))))
theorem th_eq {x y : Int} : th x y = 0 ↔ x = 0 ∧ y = 0 := by unfold th; split <;> omega
theorem wt_eq {x y : Bool} : wt x = wt y ↔ x = y := by cases x <;> cases y <;> decide
theorem ordF_eq {a b : Fx} : ordF a b = 0 ↔ a = b := by
  unfold ordF
  rw [th_eq, th_eq, th_eq, th_eq, th_eq, th_eq, cmpI_eq, cmpI_eq, cmpI_eq, cmpI_eq, cmpS_eq, cmpI_eq, cmpI_eq, wt_eq]
  cases a; cases b
  simp
end Go.Proofs.YtkomocgodljecaaGreatDoor
