/- Lemmas, laid together: part 9 of 46. Conditions: none but each lemma's own. -/
import Derived.Test.YtaipelkegemoeaaGreatDoorJ6
import Derived.Test.YtaipelkegemoeaaGreatDoorJ8
import Derived.Handy
import Derived.Test.YtaipelkegemoeaaGreatDoorJ3
import Derived.Deep.CutRange
import Derived.Lib.IfaceEq
import Derived.RangeFuncNested
import Derived.RangeFuncBound
import Derived.RangeFuncCalls
import Derived.RangeFuncLeaves
import Derived.Shelf.Abstract
import Derived.Shelf.RegionOpen
import Derived.OwnWalkIn
import Derived.TacticsInMore
import Derived.LoopNIn
import Derived.LoopIn
import Derived.StillTailTactics
import Derived.Test.YtaipelkegemoeaaGreatDoorJ2
import Derived.Test.YtaipelkegemoeaaGreatDoorJ4
import Derived.BigQuiet
import Derived.Deep.QuietTactic
import Derived.WalkMore
/- command.put: four bytes, the lowest first; append of noughts at this program. -/
namespace Go.Proofs.YtaipelkegemoeaaGreatDoor
open Go.RowKit
set_option maxRecDepth 100000

/-- A buffer of the call's own has grown by some bytes. -/
structure Grew (w : World) (base : Nat) (v : Value) (l : List UInt8) (w' : World) (v' : Value) (new : List UInt8) : Prop where
  buf : Buf w' base v' (l ++ new)
  chg : Chg v.ownBlock.toList w w'
  own : v'.ownBlock = v.ownBlock ∨ ∃ k, v'.ownBlock = some k ∧ w.heap.size ≤ k
theorem Grew.trans {w w1 w2 : World} {base : Nat} {v v1 v2 : Value} {l n1 n2 : List UInt8} (h : Grew w base v l w1 v1 n1) (k : Grew w1 base v1 (l ++ n1) w2 v2 n2) : Grew w base v l w2 v2 (n1 ++ n2) := by
  refine ⟨by rw [← List.append_assoc]; exact k.buf, h.chg.trans k.chg (fun i hm hi => ?_), ?_⟩
  · rcases h.own with e | ⟨j, e, hj⟩
    · rw [e] at hm; exact hm
    · rw [e] at hm; simp at hm; omega
  · rcases k.own with e | ⟨j, e, hj⟩
    · rcases h.own with e' | ⟨j, e', hj⟩
      · exact .inl (e.trans e')
      · exact .inr ⟨j, e.trans e', hj⟩
    · exact .inr ⟨j, e, Nat.le_trans h.chg.size hj⟩
theorem Grew.mk' {w w0 w' : World} {base : Nat} {v v' : Value} {l new : List UInt8} (hg : Chg [] w w0) (hb : Buf w' base v' (l ++ new)) (hc : w0.grownBy w' v.ownBlock) (ho : v'.ownBlock = v.ownBlock ∨ v'.ownBlock = some w0.heap.size) : Grew w base v l w' v' new :=
  ⟨hb, hg.add.same (Chg.of_grown hc), ho.imp id fun h => ⟨_, h, hg.size⟩⟩

end Go.Proofs.YtaipelkegemoeaaGreatDoor
/- command.One and command.kind, walked. -/
namespace Go.Proofs.YtaipelkegemoeaaGreatDoor
open Go.RowKit
set_option maxRecDepth 100000

theorem Buf.form {w : World} {base : Nat} {v : Value} {l : List UInt8} (h : Buf w base v l) : ∃ a cap, v = .slice a l.length cap := by
  obtain ⟨a, n, cap, rfl, hn, _⟩ := h.rd
  rw [bytesV_length] at hn
  subst hn
  exact ⟨a, cap, rfl⟩
theorem Buf.mono {w : World} {base base' : Nat} {v : Value} {l : List UInt8} (h : Buf w base v l) (hb : base' ≤ base) : Buf w base' v l := owned_base h hb


/-- What command.kind says of a subtype and a kind: nil, or an errno. -/
def kindB (sub kind : Int) : Bool := (sub = 0 ∨ sub = 2) ∧ (kind = 2 ∨ kind = 6)
end Go.Proofs.YtaipelkegemoeaaGreatDoor
/- command.May, walked. -/
namespace Go.Proofs.YtaipelkegemoeaaGreatDoor
open Go.RowKit
set_option maxRecDepth 100000

theorem leNum4_lt (l : List UInt8) (p : Nat) : leNum ((l.drop p).take 4) < 4294967296 := by
  have h := leNum_lt ((l.drop p).take 4)
  have h2 : ((l.drop p).take 4).length ≤ 4 := List.length_take_le _ _
  exact Nat.lt_of_lt_of_le h (Nat.pow_le_pow_right (by decide) h2)

end Go.Proofs.YtaipelkegemoeaaGreatDoor
/- command.Make, walked. -/
namespace Go.Proofs.YtaipelkegemoeaaGreatDoor
open Go.RowKit
set_option maxRecDepth 100000

/-- A command's number, its bytes. -/
abbrev Cmd := Nat × List UInt8
/-- The slice value v of commands reads as cs. -/
def CmdRd (w : World) (v : Value) (cs : List Cmd) : Prop :=
  ∃ a n cap, v = .slice a n cap ∧ n = cs.length ∧ n ≤ cap ∧ cap ≤ maxLen ∧
    (cs ≠ [] → ∃ b off, a = some ⟨b, off, none⟩ ∧ b < w.heap.size ∧ ∀ j, j < cs.length → w.cell? ⟨b, off + j * 2, none⟩ = some (.int .u32 (cs.getD j (0, [])).1) ∧
      ∃ a' cap', w.cell? ⟨b, off + j * 2 + 1, none⟩ = some (.slice a' (cs.getD j (0, [])).2.length cap') ∧ Rd w (.slice a' (cs.getD j (0, [])).2.length cap') (bytesV (cs.getD j (0, [])).2))
theorem CmdRd.frame {w w' : World} {v : Value} {cs : List Cmd} (h : CmdRd w v cs) (k : Chg [] w w') : CmdRd w' v cs := by
  obtain ⟨a, n, cap, rfl, hn, hc, hm, hx⟩ := h
  refine ⟨a, n, cap, rfl, hn, hc, hm, fun hne => ?_⟩
  obtain ⟨b, off, rfl, hb, hcell⟩ := hx hne
  refine ⟨b, off, rfl, Nat.lt_of_lt_of_le hb k.size, fun j hj => ?_⟩
  obtain ⟨h1, a', cap', h2, h3⟩ := hcell j hj
  exact ⟨k.cell h1 (by simp), a', cap', k.cell h2 (by simp), h3.frame k (fun _ _ hm => by cases hm)⟩
end Go.Proofs.YtaipelkegemoeaaGreatDoor
/- errors.As at the target *api.Errno, of an api.Errno: true, and it stands there; cursor.Code of one. -/
namespace Go.Proofs.YtaipelkegemoeaaGreatDoor
open Go.RowKit Go.Extern.Stop Go.Stop Go.Extern

end Go.Proofs.YtaipelkegemoeaaGreatDoor
/- command.head: a header's numbers, or why there is none. -/
namespace Go.Proofs.YtaipelkegemoeaaGreatDoor
open Go.RowKit
set_option maxRecDepth 100000

/-- The number of four bytes at a place, the lowest first. -/
def nL (l : List UInt8) (p : Nat) : Nat := leNum ((l.drop p).take 4)
theorem nL_lt (l : List UInt8) (p : Nat) : nL l p < 4294967296 := leNum4_lt l p
def hdSub (l : List UInt8) : Nat := nL l 8 % 16777216
def headE (l : List UInt8) : Int :=
  if l.length < 32 then 3 else if nL l 0 ≠ 4277009103 then 5 else if nL l 4 ≠ 16777228 then 6
  else if kindB (hdSub l) (nL l 12) = false then (if hdSub l = 0 ∨ hdSub l = 2 then 7 else 6)
  else if 256 < nL l 16 then 11 else if l.length - 32 < nL l 20 then 3 else 0

section
variable {w0 w w' : World} {c r p s k f m z : Nat} {l : List UInt8}
end
end Go.Proofs.YtaipelkegemoeaaGreatDoor
/- command.read, Read, of bytes whose header is none. -/
namespace Go.Proofs.YtaipelkegemoeaaGreatDoor
open Go.RowKit
set_option maxRecDepth 100000


end Go.Proofs.YtaipelkegemoeaaGreatDoor
/- What commands stand in bytes (plain); errors.Is of an api.Errno and of none; the walk over commands (command.commands's closure). -/
namespace Go.Proofs.YtaipelkegemoeaaGreatDoor
open Go.RowKit Go.Extern.Stop Go.Stop Go.Extern
set_option maxRecDepth 100000

/-- Where the k-th command stands, and how many bytes are left there. -/
def stC (l : List UInt8) (z0 : Nat) : Nat → Nat × Nat
  | 0 => (32, z0)
  | k + 1 => ((stC l z0 k).1 + nL l ((stC l z0 k).1 + 4), (stC l z0 k).2 - nL l ((stC l z0 k).1 + 4))
def szC (l : List UInt8) (z0 k : Nat) : Nat := nL l ((stC l z0 k).1 + 4)
def okC (l : List UInt8) (z0 k : Nat) : Bool := decide (8 ≤ (stC l z0 k).2) && decide (8 ≤ szC l z0 k) && decide (szC l z0 k % 8 = 0) && decide (szC l z0 k ≤ (stC l z0 k).2)
def allC (l : List UInt8) (z0 k : Nat) : Bool := (List.range k).all (okC l z0)
def cmdC (l : List UInt8) (z0 k : Nat) : Cmd := (nL l (stC l z0 k).1, (l.drop (stC l z0 k).1).take (szC l z0 k))
def cmdsC (l : List UInt8) (z0 k : Nat) : List Cmd := (List.range k).map (cmdC l z0)
theorem allC_succ (l : List UInt8) (z0 k : Nat) : allC l z0 (k + 1) = (allC l z0 k && okC l z0 k) := by simp [allC, List.range_succ]
theorem cmdsC_succ (l : List UInt8) (z0 k : Nat) : cmdsC l z0 (k + 1) = cmdsC l z0 k ++ [cmdC l z0 k] := by simp [cmdsC, List.range_succ]
theorem cmdsC_len (l : List UInt8) (z0 k : Nat) : (cmdsC l z0 k).length = k := by simp [cmdsC]
theorem okC_eq (l : List UInt8) (z0 k : Nat) : okC l z0 k = true ↔ 8 ≤ (stC l z0 k).2 ∧ 8 ≤ szC l z0 k ∧ szC l z0 k % 8 = 0 ∧ szC l z0 k ≤ (stC l z0 k).2 := by simp [okC, and_assoc]
theorem allC_mono {l : List UInt8} {z0 k n : Nat} (h : allC l z0 n = true) (hk : k ≤ n) : allC l z0 k = true := by
  unfold allC at *
  rw [List.all_eq_true] at *
  intro x hx
  exact h x (List.mem_range.2 (Nat.lt_of_lt_of_le (List.mem_range.1 hx) hk))
theorem stC_sum (l : List UInt8) (z0 : Nat) : ∀ k, allC l z0 k = true → (stC l z0 k).1 + (stC l z0 k).2 = 32 + z0
  | 0, _ => rfl
  | k + 1, h => by
    rw [allC_succ, Bool.and_eq_true] at h
    have ih := stC_sum l z0 k h.1
    have := ((okC_eq l z0 k).1 h.2).2.2.2
    unfold szC at this
    show (stC l z0 k).1 + nL l ((stC l z0 k).1 + 4) + ((stC l z0 k).2 - nL l ((stC l z0 k).1 + 4)) = 32 + z0
    omega
structure ItS (w : World) (c bm bl bc : Nat) (l : List UInt8) (many p z : Nat) : Prop where
  cur : CurB w c ⟨l, p, false, false⟩
  m : w.heap[bm]? = some (.cells #[.int .i64 (many : Int)] 3 (0, 0))
  l : w.heap[bl]? = some (.cells #[.int .i64 (z : Int)] 3 (0, 0))
  c : w.heap[bc]? = some (.cells #[.pointer (some ⟨c, 0, none⟩)] 68 (0, 0))
theorem ItS.step {w w' : World} {c bm bl bc many p z p' : Nat} {l : List UInt8} (h : ItS w c bm bl bc l many p z) (hd : c < bm ∧ c < bl ∧ c < bc) (k : Chg [c] w w') (hc : CurB w' c ⟨l, p', false, false⟩) : ItS w' c bm bl bc l many p' z :=
  ⟨hc, k.heap h.m (by simp; omega), k.heap h.l (by simp; omega), k.heap h.c (by simp; omega)⟩

end Go.Proofs.YtaipelkegemoeaaGreatDoor
/- A range over a function, at the wide fence, where the function may turn cells of its own between the rounds. No program in sight. -/
namespace Go.Proofs.YtaipelkegemoeaaGreatDoor
open Go.RowKit
set_option maxRecDepth 100000

end Go.Proofs.YtaipelkegemoeaaGreatDoor
/- command.read of bytes whose header is sound: the commands, or the error. -/
namespace Go.Proofs.YtaipelkegemoeaaGreatDoor
open Go.RowKit Go.Shelf
attribute [local go_sem] Oper.semAt_some
set_option maxRecDepth 100000

/-- Commands with the slice values that hold their bytes. -/
def cmdV (ps : List (Cmd × Value)) : List Value := ps.flatMap fun p => [.int .u32 (p.1.1 : Nat), p.2]
theorem cmdV_snoc (ps : List (Cmd × Value)) (p : Cmd × Value) : cmdV (ps ++ [p]) = cmdV ps ++ [.int .u32 (p.1.1 : Nat), p.2] := by simp [cmdV]
structure OutC (W : World) (base : Nat) (v : Value) (ps : List (Cmd × Value)) : Prop where
  own : W.ownsRow base 82 2 v ps.length (cmdV ps)
  each : ∀ p ∈ ps, Buf W base p.2 p.1.2
  sep : ps.Pairwise fun a b => a.2.ownBlock ≠ b.2.ownBlock
theorem OutC.frame {W W' : World} {base : Nat} {v : Value} {ps : List (Cmd × Value)} (h : OutC W base v ps) {S : List Nat} (k : Chg S W W') (hS : ∀ i ∈ S, i < base) : OutC W' base v ps := by
  have hb : ∀ {u : Value}, (∀ j, u.ownBlock = some j → base ≤ j) → ∀ b, u.ownBlock = some b → b ∉ S := fun hu b hb hm => by have := hu b hb; have := hS b hm; omega
  refine ⟨owned_frame h.own k (hb fun j hj => (World.ownsRow.lt h.own j hj).1), fun p hp => (h.each p hp).frame k (hb fun j hj => (World.ownsRow.lt (h.each p hp) j hj).1), h.sep⟩
theorem OutC.nil (W : World) (base : Nat) : OutC W base (.slice none 0 0) [] := ⟨World.ownsRow_nil W base _ 2, fun _ h => (by cases h), List.Pairwise.nil⟩

theorem Tryz.infoCmd : (Tryz.prog.info? 82).map (fun i => (i.zero, i.size, i.bytes)) = some (some (.agg #[.int .u32 0, .slice none 0 0]), 2, 32) := by kernel_rfl
theorem Tryz.uCmdsF : Tryz.prog.underlying 50 = some (.slice 82) := by kernel_rfl
theorem own_form {w : World} {base size n : Nat} {e : TypeId} {v : Value} {xs : List Value} (h : w.ownsRow base e size v n xs) : ∃ a m c, v = .slice a m c := by
  rcases h.2 with ⟨h, _⟩ | ⟨g, cap, cur, h, _⟩
  · exact ⟨_, _, _, h⟩
  · exact ⟨_, _, _, h⟩
end Go.Proofs.YtaipelkegemoeaaGreatDoor
/- command.read, Read, Size of any bytes. -/
namespace Go.Proofs.YtaipelkegemoeaaGreatDoor
open Go.RowKit Go.Extern.Stop Go.Stop Go.Extern
set_option maxRecDepth 100000

/-- The error, the numbers, the commands that bytes have as a header and commands. -/
def readE (l : List UInt8) : Int := if headE l = 0 then (if allC l (nL l 20) (nL l 16) = true then 0 else 7) else headE l
def rN (l : List UInt8) (n : Nat) : Nat := if readE l = 0 then n else 0
def readCs (l : List UInt8) : List Cmd := if readE l = 0 then cmdsC l (nL l 20) (nL l 16) else []
end Go.Proofs.YtaipelkegemoeaaGreatDoor
/- Records: headers (printed by mkrecs4.sh). -/
namespace Go.Proofs.YtaipelkegemoeaaGreatDoor
open Go.RowKit
set_option maxRecDepth 100000

/-- A record Hdr. -/
structure Hdr where
  sub : Int
  kind : Int
  flags : Int
def Hdr.cells (s : Hdr) : List Value := [.int .i64 s.sub, .int .i64 s.kind, .int .u32 s.flags]
abbrev Hdr.v (s : Hdr) : Value := .agg #[.int .i64 s.sub, .int .i64 s.kind, .int .u32 s.flags]
/-- Its numbers are of their kinds. -/
def Hdr.wf (s : Hdr) : Prop := (Lit.int .i64 s.sub).wf = true ∧ (Lit.int .i64 s.kind).wf = true ∧ (Lit.int .u32 s.flags).wf = true
def Hdr.zero : Hdr := ⟨0, 0, 0⟩
def hdrL : Lay Hdr := ⟨3, Hdr.cells, Hdr.zero, fun _ => rfl, by decide, fun x u hu => by
  simp only [Hdr.cells, List.mem_cons, List.not_mem_nil, or_false] at hu
  rcases hu with rfl | rfl | rfl <;> rfl⟩
theorem Hdr.at {w : World} {b o : Nat} {s : Hdr} (h : hdrL.In w b o s) : w.cell? ⟨b, o, none⟩ = some (.int .i64 s.sub) ∧ w.cell? ⟨b, o + 1, none⟩ = some (.int .i64 s.kind) ∧ w.cell? ⟨b, o + 2, none⟩ = some (.int .u32 s.flags) :=
  ⟨h 0 (by decide), h 1 (by decide), h 2 (by decide)⟩
/-- A record in a block of its own: made, written, a field written. -/
theorem Hdr.box (w : World) (s : Hdr) (T : TypeId) : hdrL.Box (w.alloc (.cells #[.int .i64 s.sub, .int .i64 s.kind, .int .u32 s.flags] T)) w.heap.size s := Lay.Box.of_alloc (L := hdrL) w s T
theorem Hdr.c_sub {w : World} {b : Nat} {s : Hdr} (h : hdrL.Box w b s) : w.cell? ⟨b, 0, none⟩ = some (.int .i64 s.sub) := by have := h.in 0 (by decide); rw [Nat.zero_add] at this; exact this
theorem Hdr.c_kind {w : World} {b : Nat} {s : Hdr} (h : hdrL.Box w b s) : w.cell? ⟨b, 1, none⟩ = some (.int .i64 s.kind) := by have := h.in 1 (by decide); rw [Nat.zero_add] at this; exact this
theorem Hdr.c_flags {w : World} {b : Nat} {s : Hdr} (h : hdrL.Box w b s) : w.cell? ⟨b, 2, none⟩ = some (.int .u32 s.flags) := by have := h.in 2 (by decide); rw [Nat.zero_add] at this; exact this
end Go.Proofs.YtaipelkegemoeaaGreatDoor
/- load.Image, whatever the bytes. -/
namespace Go.Proofs.YtaipelkegemoeaaGreatDoor
open Go.RowKit
set_option maxRecDepth 100000

theorem Tryz.tIm : Lay.Ty imgL Tryz.prog 32 := Lay.Ty.mk' (by kernel_rfl) (by kernel_rfl)
theorem Tryz.tHdr : Lay.Ty hdrL Tryz.prog 49 := Lay.Ty.mk' (by kernel_rfl) (by kernel_rfl)
/-- Commands in a row: the error of the first one that is not taken in; what was told behind all. -/
def tellE (p : TP) : List (List UInt8) → Int
  | [] => 0
  | l :: r => if tE p l = 0 then tellE (tS p l) r else tE p l
def tellS (p : TP) : List (List UInt8) → TP
  | [] => p
  | l :: r => tellS (tS p l) r
def slOf : Value → SlV
  | .slice a n c => ⟨a, n, c⟩
  | _ => ⟨none, 0, 0⟩
/-- An image in memory, as plain data. -/
def DImg (w : World) (base : Nat) (m : Img) (p : TP) : Prop := ∃ xs, m.bare = p.m ∧ segL.Buf 64 w base (.slice m.segs.a m.segs.n m.segs.cap) xs ∧ SecsIn w base xs p.segs ∧ depL.Buf 117 w base (.slice m.deps.a m.deps.n m.deps.cap) p.deps
theorem DImg.frame {w w' : World} {base : Nat} {m : Img} {p : TP} (h : DImg w base m p) (k : Chg [] w w') : DImg w' base m p := by
  obtain ⟨xs, h1, h2, h3, h4⟩ := h
  exact ⟨xs, h1, h2.pure k, h3.pure k, h4.pure k⟩
theorem DImg.mono {w : World} {base base' : Nat} {m : Img} {p : TP} (h : DImg w base m p) (hb : base' ≤ base) : DImg w base' m p := by
  obtain ⟨xs, h1, h2, h3, h4⟩ := h
  exact ⟨xs, h1, h2.mono hb, ⟨h3.1, fun i hi => ⟨(h3.2 i hi).1, (h3.2 i hi).2.mono hb⟩⟩, h4.mono hb⟩
theorem TInv.img {w1 w : World} {base bt bs : Nat} {p : TP} {t : Tel} {xs : List Seg} (h : TInv w1 base bt bs p t xs w) : DImg w base t.m p := ⟨xs, h.m, h.sg, h.ks, h.dp⟩
theorem Tel.in_m {w : World} {g : Nat} {t : Tel} (h : telL.Box w g t) : imgL.In w g 0 t.m := fun c hc => by
  have hc' : c < 24 := hc
  have h1 := h.in c (Nat.lt_of_lt_of_le hc' (by decide : 24 ≤ 26))
  rw [h1]
  show (t.m.cells ++ [.map t.seen, .int .i64 t.secs])[c]? = t.m.cells[c]?
  rw [List.getElem?_append_left hc']
/-- What bytes tell ahead of their commands. -/
def tp0 (l : List UInt8) : TP := ⟨{ Img.zero with kind := (nL l 12 : Nat), sub := (hdSub l : Nat), flags := (nL l 24 : Nat) }, [], [], fun _ => false, 0⟩
def cmdLs (l : List UInt8) : List (List UInt8) := (readCs l).map Prod.snd
def imgE (l : List UInt8) : Int := if readE l = 0 then tellE (tp0 l) (cmdLs l) else readE l
def imgP (l : List UInt8) : TP := tellS (tp0 l) (cmdLs l)
def ImgSays (l : List UInt8) (w : World) (e : Ending) (w' : World) : Prop := ∃ m : Img, e = .returned (.tuple #[imgL.val m, .int .i64 (imgE l)]) ∧ Chg [] w w' ∧ (imgE l = 0 → DImg w' w.heap.size m (imgP l)) ∧ (¬ imgE l = 0 → m = .zero)
/-- The loop's state. -/
structure ImR (w1 : World) (base bt bs : Nat) (ls : List (List UInt8)) (p0 : TP) (k : Nat) (pk : TP) (wr : World) : Prop where
  e : tellE pk (ls.drop k) = tellE p0 ls
  s : tellS pk (ls.drop k) = tellS p0 ls
  i : ∃ t xs, TInv w1 base bt bs pk t xs wr
theorem DImg.low {w w' : World} {base : Nat} {m : Img} {p : TP} {S : List Nat} (h : DImg w base m p) (k : Chg S w w') (hS : ∀ i ∈ S, i < base) : DImg w' base m p := by
  obtain ⟨xs, h1, h2, h3, h4⟩ := h
  exact ⟨xs, h1, h2.frame k (fun b hb hm => by have := (h2.lt b hb).1; have := hS b hm; omega), h3.low k hS, h4.frame k (fun b hb hm => by have := (h4.lt b hb).1; have := hS b hm; omega)⟩
theorem drop_getD {α : Type} (l : List α) (k : Nat) (d : α) (h : k < l.length) : l.drop k = l.getD k d :: l.drop (k + 1) := by
  rw [List.drop_eq_getElem_cons h]
  simp [List.getD_eq_getElem?_getD, h]
end Go.Proofs.YtaipelkegemoeaaGreatDoor
/- image.segments. -/
namespace Go.Proofs.YtaipelkegemoeaaGreatDoor
open Go.RowKit
set_option maxRecDepth 100000

/-- May the first segment that is laid be so? -/
def firstB (h : Int) (s : Seg) : Bool := decide (s.off = 0) && (!decide (s.fsize < h) && (!(bits BinOp.and IntKind.i64 s.prot 1 == 0) && !(bits BinOp.and IntKind.i64 s.prot 2 != 0)))
def segsB (n h : Int) (ls : List Seg) : Bool := match idx (fun s => !holeS s) ls with
  | none => false
  | some f => goesB n 0 (fun _ => false) ls && firstB h (ls.getD f .zero)
/-- Why the segments may not be (0: they may). -/
def segsE (n h : Int) (ls : List Seg) : Int := if segsB n h ls = true then 0 else 8
def nmF (N : ByteArray → Bool) : ByteArray → Option Value := fun q => if N q then some (.agg #[.bool true]) else none
/-- The loop's state. -/
structure MsR (Wm : World) (n : Int) (ls : List Seg) (bq : Nat) (k : Nat) (at_ : Int) (N : ByteArray → Bool) (wr : World) : Prop where
  chg : Chg [] Wm wr
  mp : Map.Is Map.strK wr bq (nmF N)
  go : goesB n at_ N (ls.drop k) = goesB n 0 (fun _ => false) ls
theorem goes_cons (n at_ : Int) (N : ByteArray → Bool) (s : Seg) (r : List Seg) : goesB n at_ N (s :: r) = (placeB n s && (!N s.name && (decide (at_ ≤ s.addr) && goesB n (s.addr + s.size) (fun x => if x = s.name then true else N x) r))) := rfl
theorem placeB_end {n : Int} {s : Seg} (h : placeB n s = true) : s.addr + s.size ≤ 140737488355328 := by
  unfold placeB withinI at h
  simp only [Bool.and_eq_true, decide_eq_true_eq] at h
  omega
end Go.Proofs.YtaipelkegemoeaaGreatDoor
/- The document's Get, at, field, Least, Dep, Cmd (of layer 5). -/
namespace Go.Proofs.YtaipelkegemoeaaGreatDoor
open Go.RowKit
set_option maxRecDepth 100000

theorem leNum_drop (l : List UInt8) (m : Nat) (h : m < l.length) : leNum (l.drop m) = (l.getD m 0).toNat + 256 * leNum (l.drop (m + 1)) := by
  rw [List.drop_eq_getElem_cons h]
  show l[m].toNat + 256 * leNum (l.drop (m + 1)) = _
  simp [List.getD_eq_getElem?_getD, h]
theorem byte_cell {w : World} {b off n cap : Nat} {l : List UInt8} (h : byteL.Rd w (.slice (some ⟨b, off, none⟩) n cap) l) (j : Nat) (hj : j < l.length) : w.cell? ⟨b, off + j, none⟩ = some (.int .u8 (l.getD j 0).toNat) := by
  obtain ⟨_, _, _, e, _, _, _, hx⟩ := h
  cases e
  obtain ⟨b', o', e, _, hc⟩ := hx (by rintro rfl; simp at hj)
  cases e
  have := hc j hj 0 (by decide)
  rw [show byteL.n = 1 from rfl, Nat.mul_one, Nat.add_zero] at this
  rw [this]
  rfl
set_option maxHeartbeats 4000000 in
theorem Get5_any (l : List UInt8) (hl : l.length ≤ 8) (b off cap : Nat) (w : World) (rd : byteL.Rd w (.slice (some ⟨b, off, none⟩) l.length cap) l) :
    Calls Tryz.prog 99 #[.slice (some ⟨b, off, none⟩) l.length cap] w fun e w' => e = .returned (.int .u64 (leNum l)) ∧ w' = w := by
  have Rd := Lib.hid rd
  clear rd
  go_enter Tryz.func99, Tryz.ntmps99
  go_wp2_with fail
  go_loopw [3, 4] (fun s3 s4 wr => ∃ k : Nat, k ≤ l.length ∧ s4 = .int .i64 ((k : Int) - 1) ∧ s3 = .int .u64 (leNum (l.drop k)) ∧ wr = w) (fun _ s4 _ => (intOf s4 + 1).toNat)
  case atStart => exact ⟨l.length, Nat.le_refl _, rfl, by rw [List.drop_length]; rfl, rfl⟩
  case round =>
    obtain ⟨k, hk, rfl, rfl, rfl⟩ := hrel
    cases k with
    | zero =>
      go_wp2
      go_ret
      exact ⟨rfl, rfl⟩
    | succ m =>
      have hc := byte_cell Rd.out m hk
      have hdr := leNum_drop l m hk
      have hb := leNum_lt (l.drop (m + 1))
      have h7 : (l.drop (m + 1)).length ≤ 7 := by rw [List.length_drop]; omega
      have hp : 256 ^ (l.drop (m + 1)).length ≤ 256 ^ 7 := Nat.pow_le_pow_right (by decide) h7
      have hx := (l.getD m 0).toNat_lt
      obtain ⟨N, hN⟩ : ∃ N, N = leNum (l.drop (m + 1)) := ⟨_, rfl⟩
      obtain ⟨x, hxx⟩ : ∃ x, x = (l.getD m 0).toNat := ⟨_, rfl⟩
      rw [← hN, ← hxx] at hdr
      rw [← hN] at hb ⊢
      rw [← hxx] at hc hx
      have hN7 : N < 72057594037927936 := by omega
      have hw : IntKind.u64.wrap (IntKind.u64.wrap ((N : Int) * 256) + (x : Int)) = ((x + 256 * N : Nat) : Int) := by
        rw [IntKind.wrap_u64, IntKind.wrap_u64]; omega
      rw [show (((m + 1 : Nat) : Int) - 1) = (m : Int) by omega]
      have Hb := Lib.hid hb
      have Hp := Lib.hid hp
      have HN := Lib.hid hN
      have Hxx := Lib.hid hxx
      have HN7 := Lib.hid hN7
      have Hdr := Lib.hid hdr
      have H7 := Lib.hid h7
      clear hb hp hN hxx hN7 hdr h7
      go_wp2
      go_roundw
      case rel => exact ⟨m, by omega, rfl, by rw [Hdr.out]; exact congrArg (Value.int .u64) (by omega), trivial⟩
      case measure => simp [intOf]
theorem at5_any (l : List UInt8) (p m : Nat) (hm : m ≤ 8) (hm0 : 0 < m) (hp : p + m ≤ l.length) (v : Value) (w : World) (rd : byteL.Rd w v l) :
    Calls Tryz.prog 73 #[v, .int .i64 p, .int .i64 m] w fun e w' => e = .returned (.int .u64 (leNum ((l.drop p).take m))) ∧ w' = w := by
  obtain ⟨a, cap, rfl, h1, h2⟩ := rd.shape
  have hne : l.length ≠ 0 := by omega
  obtain ⟨b, off, rfl, _⟩ := rd.at hne
  have hlen : ((l.drop p).take m).length = m := by rw [List.length_take, List.length_drop]; omega
  have hsub := Rd_sub rd p m (cap - p) hp (by omega) (by unfold maxLen; omega)
  have hget := Get5_any ((l.drop p).take m) (by omega) b (off + p) (cap - p) w (by rw [hlen]; exact hsub)
  rw [hlen] at hget
  have Rd := Lib.hid rd
  have Hsub := Lib.hid hsub
  have Hget := Lib.hid hget
  have Hlen := Lib.hid hlen
  clear rd hsub hget hlen
  go_enter Tryz.func73, Tryz.ntmps73
  go_wp2_with fail
  refine (Hget.out).mono ?_
  rintro e W ⟨rfl, rfl⟩
  go_wp2
  go_ret
  exact ⟨rfl, rfl⟩
theorem Least5_any (c : Int) (w : World) : Calls Tryz.prog 54 #[.int .u32 c] w fun e w' => e = .returned (.int .i64 (leastF c)) ∧ w' = w := by
  by_cases hk : leastF c = 0
  · rw [hk]
    have e1 : (c == 25) = false := by rw [beq_eq_false_iff_ne]; rintro rfl; exact absurd hk (by decide)
    have e2 : (c == 34) = false := by rw [beq_eq_false_iff_ne]; rintro rfl; exact absurd hk (by decide)
    have e3 : (c == 2147483682) = false := by rw [beq_eq_false_iff_ne]; rintro rfl; exact absurd hk (by decide)
    have e4 : (c == 2) = false := by rw [beq_eq_false_iff_ne]; rintro rfl; exact absurd hk (by decide)
    have e5 : (c == 12) = false := by rw [beq_eq_false_iff_ne]; rintro rfl; exact absurd hk (by decide)
    have e6 : (c == 13) = false := by rw [beq_eq_false_iff_ne]; rintro rfl; exact absurd hk (by decide)
    have e7 : (c == 2147483672) = false := by rw [beq_eq_false_iff_ne]; rintro rfl; exact absurd hk (by decide)
    have e8 : (c == 2147483679) = false := by rw [beq_eq_false_iff_ne]; rintro rfl; exact absurd hk (by decide)
    have e9 : (c == 2147483683) = false := by rw [beq_eq_false_iff_ne]; rintro rfl; exact absurd hk (by decide)
    have ea : (c == 2147483688) = false := by rw [beq_eq_false_iff_ne]; rintro rfl; exact absurd hk (by decide)
    have eb : (c == 2147483699) = false := by rw [beq_eq_false_iff_ne]; rintro rfl; exact absurd hk (by decide)
    have ec : (c == 2147483700) = false := by rw [beq_eq_false_iff_ne]; rintro rfl; exact absurd hk (by decide)
    clear hk
    go_enter Tryz.func54, Tryz.ntmps54
    go_wp2
    go_ret
    exact ⟨rfl, rfl⟩
  · rcases known_cases hk with rfl | rfl | rfl | rfl | rfl | rfl | rfl | rfl | rfl | rfl | rfl | rfl
    all_goals
      clear hk
      go_enter Tryz.func54, Tryz.ntmps54
      go_wp2
      go_ret
      exact ⟨rfl, rfl⟩
theorem Dep5_any (c : Int) (w : World) : Calls Tryz.prog 56 #[.int .u32 c] w fun e w' => e = .returned (.int .i64 (depK c)) ∧ w' = w := by
  unfold depK
  by_cases h1 : c = 12
  · subst h1
    go_enter Tryz.func56, Tryz.ntmps56
    go_wp2
    go_ret
    exact ⟨rfl, rfl⟩
  · rw [if_neg h1]
    have e1 : (c == 12) = false := by rw [beq_eq_false_iff_ne]; exact h1
    by_cases h2 : c = 2147483672
    · subst h2
      clear h1
      go_enter Tryz.func56, Tryz.ntmps56
      go_wp2
      go_ret
      exact ⟨rfl, rfl⟩
    · rw [if_neg h2]
      have e2 : (c == 2147483672) = false := by rw [beq_eq_false_iff_ne]; exact h2
      by_cases h3 : c = 2147483679
      · subst h3
        clear h1 h2
        go_enter Tryz.func56, Tryz.ntmps56
        go_wp2
        go_ret
        exact ⟨rfl, rfl⟩
      · rw [if_neg h3]
        have e3 : (c == 2147483679) = false := by rw [beq_eq_false_iff_ne]; exact h3
        by_cases h4 : c = 2147483683
        · subst h4
          clear h1 h2 h3
          go_enter Tryz.func56, Tryz.ntmps56
          go_wp2
          go_ret
          exact ⟨rfl, rfl⟩
        · rw [if_neg h4]
          have e4 : (c == 2147483683) = false := by rw [beq_eq_false_iff_ne]; exact h4
          clear h1 h2 h3 h4
          go_enter Tryz.func56, Tryz.ntmps56
          go_wp2
          go_ret
          exact ⟨rfl, rfl⟩
/-- The document's number of a command (0: it is too short for one). -/
def cmdN (l : List UInt8) : Nat := if l.length < 8 then 0 else n4 l 0
set_option maxHeartbeats 4000000 in
theorem Cmd5_any (l : List UInt8) (v : Value) (w : World) (rd : byteL.Rd w v l) :
    Calls Tryz.prog 53 #[v] w fun e w' => e = .returned (.tuple #[.int .u32 (cmdN l), .int .i64 (opE l)]) ∧ w' = w := by
  obtain ⟨a, cap, rfl, hc1, hc2⟩ := rd.shape
  unfold cmdN opE
  by_cases h8 : l.length < 8
  · rw [if_pos h8, if_pos h8]
    have d1 : decide ((l.length : Int) < 8) = true := decide_eq_true (by omega)
    have H8 := Lib.hid h8
    have Rd := Lib.hid rd
    clear h8 rd
    go_enter Tryz.func53, Tryz.ntmps53
    go_wp2
    go_ret2
    exact ⟨rfl, rfl⟩
  · rw [if_neg h8, if_neg h8]
    have d1 : decide ((l.length : Int) < 8) = false := decide_eq_false (by omega)
    have hat := at5_any l 0 4 (by decide) (by decide) (by omega) _ w rd
    have hn := n4_lt l 0
    rw [show leNum ((l.drop 0).take 4) = n4 l 0 from rfl] at hat
    obtain ⟨z, hz⟩ : ∃ z, z = n4 l 0 := ⟨_, rfl⟩
    rw [← hz] at hat hn ⊢
    have hw4 : ((z : Nat) : Int) % 4294967296 = (z : Nat) := by omega
    have hle := Least5_any (z : Int) w
    obtain ⟨q, hq⟩ : ∃ q, q = leastF (z : Int) := ⟨_, rfl⟩
    rw [← hq] at hle ⊢
    have HAT := Lib.hid hat
    have Hz := Lib.hid hz
    have Rd := Lib.hid rd
    have HLE := Lib.hid hle
    have Hn := Lib.hid hn
    have H8 := Lib.hid h8
    have Hq := Lib.hid hq
    clear hat hz rd hle hn h8 hq
    by_cases h9 : (l.length : Int) < q
    · rw [if_pos h9]
      have d9 : decide ((l.length : Int) < q) = true := decide_eq_true h9
      have H9 := Lib.hid h9
      clear h9
      go_enter Tryz.func53, Tryz.ntmps53
      go_wp2_with fail
      refine (HAT.out).mono ?_
      rintro e W ⟨rfl, rfl⟩
      go_wp2_with fail
      refine (HLE.out).mono ?_
      rintro e W ⟨rfl, rfl⟩
      go_wp2
      go_ret2
      exact ⟨rfl, rfl⟩
    · rw [if_neg h9]
      have d9 : decide ((l.length : Int) < q) = false := decide_eq_false h9
      have H9 := Lib.hid h9
      clear h9
      go_enter Tryz.func53, Tryz.ntmps53
      go_wp2_with fail
      refine (HAT.out).mono ?_
      rintro e W ⟨rfl, rfl⟩
      go_wp2_with fail
      refine (HLE.out).mono ?_
      rintro e W ⟨rfl, rfl⟩
      go_wp2
      go_ret2
      exact ⟨rfl, rfl⟩
end Go.Proofs.YtaipelkegemoeaaGreatDoor
/- The document's SameSegment (of layer 5): two segments with the same numbers and the same sections are the same. -/
namespace Go.Proofs.YtaipelkegemoeaaGreatDoor
open Go.RowKit
set_option maxRecDepth 100000

/-- A segment in memory, as plain data. -/
def SegRd (w : World) (s : Seg) (p : SegP) : Prop := s.bare = p.s ∧ secL.Rd w (.slice s.secs.a s.secs.n s.secs.cap) p.ks
theorem SegRd.frame {w w' : World} {s : Seg} {p : SegP} (h : SegRd w s p) (k : Chg [] w w') : SegRd w' s p := ⟨h.1, h.2.frame k⟩
end Go.Proofs.YtaipelkegemoeaaGreatDoor
/- The document's Same (of layer 5): two images of the same plain data are the same. -/
namespace Go.Proofs.YtaipelkegemoeaaGreatDoor
open Go.RowKit
set_option maxRecDepth 100000

/-- An image in memory reads as plain data. -/
def DRd (w : World) (m : Img) (p : TP) : Prop := ∃ xs, m.bare = p.m ∧ segL.Rd w (.slice m.segs.a m.segs.n m.segs.cap) xs ∧ xs.length = p.segs.length ∧ (∀ i, i < xs.length → SegRd w (xs.getD i .zero) (p.segs.getD i .zero)) ∧ depL.Rd w (.slice m.deps.a m.deps.n m.deps.cap) p.deps
theorem DRd.frame {w w' : World} {m : Img} {p : TP} (h : DRd w m p) (k : Chg [] w w') : DRd w' m p := by
  obtain ⟨xs, h1, h2, h3, h4, h5⟩ := h
  exact ⟨xs, h1, h2.frame k, h3, fun i hi => (h4 i hi).frame k, h5.frame k⟩
theorem DImg.rd {w : World} {base : Nat} {m : Img} {p : TP} (h : DImg w base m p) : DRd w m p := by
  obtain ⟨xs, h1, h2, h3, h4⟩ := h
  exact ⟨xs, h1, h2.rd, h3.1, fun i hi => ⟨(h3.2 i hi).1, (h3.2 i hi).2.rd⟩, h4.rd⟩
theorem DRd.zero (w : World) (s : Int → Bool) (n : Nat) : DRd w .zero ⟨Img.zero, [], [], s, n⟩ := ⟨[], rfl, Lay.Rd.nil _, rfl, fun i hi => absurd hi (by simp), Lay.Rd.nil _⟩
end Go.Proofs.YtaipelkegemoeaaGreatDoor
/- image.sections. -/
namespace Go.Proofs.YtaipelkegemoeaaGreatDoor
open Go.RowKit
set_option maxRecDepth 100000

/-- May a section of a segment be? -/
def secB (s : Seg) (x : Sec) : Bool := decide (s.addr ≤ x.addr) && (withinI (x.addr - s.addr) x.size s.size && (decide (x.kind = 1) || (decide (x.off = IntKind.u64.wrap (s.off + (x.addr - s.addr))) && withinI (x.addr - s.addr) x.size s.fsize)))
def segSecB (p : SegP) : Bool := p.ks.all (secB p.s)
def secsE (ps : List SegP) : Int := if ps.all segSecB = true then 0 else 9
def SecB (x : Sec) : Prop := (0 ≤ x.addr ∧ x.addr < 18446744073709551616) ∧ (0 ≤ x.size ∧ x.size < 18446744073709551616) ∧ (0 ≤ x.off ∧ x.off < 18446744073709551616)
/-- The numbers of an image's segments and sections are of their kinds. -/
structure ImB (ps : List SegP) : Prop where
  seg : ∀ k, k < ps.length → SegB (ps.getD k .zero).s
  sec : ∀ k, k < ps.length → ∀ j, j < (ps.getD k .zero).ks.length → SecB ((ps.getD k .zero).ks.getD j .zero)
theorem seg_bare {s : Seg} {q : Seg} (h : s.bare = q) : s.name = q.name ∧ s.addr = q.addr ∧ s.size = q.size ∧ s.off = q.off ∧ s.fsize = q.fsize ∧ s.prot = q.prot := by subst h; exact ⟨rfl, rfl, rfl, rfl, rfl, rfl⟩
theorem meas_w {L k : Nat} (hw : wrap64 ((k : Int) + 1) = (k : Int) + 1) (h : k < L) : L - (intOf (.int .i64 (wrap64 ((k : Int) + 1)))).toNat < L - (intOf (.int .i64 (k : Int))).toNat := by
  rw [hw]
  show L - ((k : Int) + 1).toNat < L - (k : Int).toNat
  omega
theorem bad9 {E : Int} {ps r : List SegP} {p : SegP} {ks : List Sec} {s : Seg} (h1 : E = if ps.all segSecB = true then 0 else 9) (h2 : (segSecB p && r.all segSecB) = ps.all segSecB) (h3 : segSecB p = ks.all (secB s)) (h4 : false = ks.all (secB s)) : E = 9 := by
  rw [h1, ← h2, h3, ← h4]
  rfl
end Go.Proofs.YtaipelkegemoeaaGreatDoor
/- image.High, image.spans, image.names. -/
namespace Go.Proofs.YtaipelkegemoeaaGreatDoor
open Go.RowKit
set_option maxRecDepth 100000

def highF (h : Int) (s : Seg) : Int := if holeS s = true then h else max h (IntKind.u64.wrap (s.addr + s.size))
/-- Where an image ends. -/
def highS (ls : List Seg) : Int := ls.foldl highF 0
def namesE (m : Img) : Int := if (decide (m.kind = 6)) = !(decide (m.name.toList = [])) then 0 else 10
theorem meas_v {L k : Nat} (h : k < L) : L - (intOf (.int .i64 ((k : Int) + 1))).toNat < L - (intOf (.int .i64 (k : Int))).toNat := by
  show L - ((k : Int) + 1).toNat < L - (k : Int).toNat
  omega
/-- An image's spans. -/
def spans8 (m : Img) : List Spn := [⟨m.rbO, m.rbS⟩, ⟨m.bdO, m.bdS⟩, ⟨m.wkO, m.wkS⟩, ⟨m.lzO, m.lzS⟩, ⟨m.trO, m.trS⟩, ⟨m.chO, m.chS⟩, ⟨m.syO, m.syS⟩, ⟨m.stO, m.stS⟩]
def spnB (n : Int) (x : Spn) : Bool := withinI x.off x.size n
def SpnsB (m : Img) : Prop := ∀ j, j < (spans8 m).length → (0 ≤ ((spans8 m).getD j .zero).off ∧ ((spans8 m).getD j .zero).off < 18446744073709551616) ∧ 0 ≤ ((spans8 m).getD j .zero).size ∧ ((spans8 m).getD j .zero).size < 18446744073709551616
/-- Why spans may not be (0: they may): ls are the segments. -/
def spansE (n : Int) (m : Img) (ls : List Seg) : Int :=
  if (spans8 m).all (spnB n) = true then (if m.syS % 16 = 0 then (if m.has = true then (if IntKind.u64.wrap (highS ls - lowS ls) ≤ m.entry then 4 else 0) else 0) else 4) else 4
end Go.Proofs.YtaipelkegemoeaaGreatDoor
/- image.May. -/
namespace Go.Proofs.YtaipelkegemoeaaGreatDoor
open Go.RowKit
set_option maxRecDepth 100000

/-- The first error (0: none). -/
def firstE : List Int → Int
  | [] => 0
  | e :: r => if e = 0 then firstE r else e
theorem firstE_zero {r : List Int} : firstE (0 :: r) = firstE r := rfl
theorem firstE_ne {e : Int} {r : List Int} (h : ¬ e = 0) : firstE (e :: r) = e := if_neg h
end Go.Proofs.YtaipelkegemoeaaGreatDoor
