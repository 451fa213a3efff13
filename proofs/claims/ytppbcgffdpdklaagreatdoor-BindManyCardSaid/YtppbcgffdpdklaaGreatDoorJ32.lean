/- Lemmas, laid together: part 32 of 39. Conditions: none but each lemma's own. -/
import Derived.Test.YtppbcgffdpdklaaGreatDoorJ31
import Derived.Test.YtppbcgffdpdklaaGreatDoorJ22
import Derived.Test.YtppbcgffdpdklaaGreatDoorJ25
import Derived.Lib.Strings
import Derived.Laws.CopyRow
import Derived.Test.YtppbcgffdpdklaaGreatDoorJ16
import Derived.Test.YtppbcgffdpdklaaGreatDoorJ9
/- Plain: a number of three groups, with groups of nothing behind it. -/
namespace Go.Proofs.YtppbcgffdpdklaaGreatDoor
open Go.RowKit

theorem uval3 (x y z : UInt8) (r : List UInt8) (hx : 128 ≤ x.toNat) (hy : 128 ≤ y.toNat) (hz : z.toNat < 128) : uvalV (x :: y :: z :: r) = some (x.toNat % 128 + 128 * (y.toNat % 128 + 128 * z.toNat), 3) := by
  have h : szL (x :: y :: z :: r) 0 = 3 := by
    rw [szL, if_neg (by omega), if_neg (by omega), szL, if_neg (by omega), if_neg (by omega), szL, if_neg (by omega), if_pos hz]
  unfold uvalV
  rw [h]
  simp [gsOf, uval, Nat.mod_eq_of_lt hz]
theorem lebV3 (l : List UInt8) (k : Nat) (big : Bool) (x y z : UInt8) (r : List UInt8) (h : l.drop k = x :: y :: z :: r) (hx : 128 ≤ x.toNat) (hy : 128 ≤ y.toNat) (hz : z.toNat < 128) :
    lebV ulebR ⟨l, k, big, false⟩ = ((x.toNat % 128 + 128 * (y.toNat % 128 + 128 * z.toNat) : Nat) : Int) ∧ lebS ulebR ⟨l, k, big, false⟩ = ⟨l, k + 3, big, false⟩ := by
  constructor
  · simp only [lebV, Bool.false_eq_true, if_false, ulebR_eq, h, uval3 x y z r hx hy hz]; rfl
  · simp only [lebS, Bool.false_eq_true, if_false, ulebR_eq, h, uval3 x y z r hx hy hz]; rfl
/-- A number of one group. -/
theorem lebV1 (l : List UInt8) (k : Nat) (big : Bool) (x : UInt8) (r : List UInt8) (h : l.drop k = x :: r) (hx : x.toNat < 128) :
    lebV ulebR ⟨l, k, big, false⟩ = (x.toNat : Int) ∧ lebS ulebR ⟨l, k, big, false⟩ = ⟨l, k + 1, big, false⟩ := by
  have hv : uvalV (x :: r) = some (x.toNat, 1) := by
    have h : szL (x :: r) 0 = 1 := by rw [szL, if_neg (by omega), if_pos hx]
    unfold uvalV
    rw [h]
    simp [gsOf, uval, Nat.mod_eq_of_lt hx]
  constructor
  · simp only [lebV, Bool.false_eq_true, if_false, ulebR_eq, h, hv]; rfl
  · simp only [lebS, Bool.false_eq_true, if_false, ulebR_eq, h, hv]; rfl
end Go.Proofs.YtppbcgffdpdklaaGreatDoor
/- image.within, slices.Clone of bytes, image.Part. -/
namespace Go.Proofs.YtppbcgffdpdklaaGreatDoor
open Go.RowKit
set_option maxRecDepth 100000

def withinS (off size all : Nat) : Bool := decide (off ≤ all) && decide (size ≤ all - off)
theorem Rd_cut {w : World} {b off n cap : Nat} {l : List UInt8} (rd : byteL.Rd w (.slice (some ⟨b, off, none⟩) n cap) l) (p m c : Nat) (h : p + m ≤ l.length) (hc : m ≤ c) (hc2 : c ≤ maxLen) :
    byteL.Rd w (.slice (some ⟨b, off + p, none⟩) m c) ((l.drop p).take m) := by
  obtain ⟨a', n', cap', he, hn, h1, h2, h3⟩ := rd
  cases he
  have hl : ((l.drop p).take m).length = m := by simp; omega
  refine ⟨_, m, c, rfl, hl.symm, hc, hc2, fun hne => ?_⟩
  have hl0 : l ≠ [] := by rintro rfl; simp at hne
  obtain ⟨b', off', hb, hlt, hcell⟩ := h3 hl0
  cases hb
  refine ⟨b, off + p, rfl, hlt, fun j hj k hk => ?_⟩
  rw [hl] at hj
  have := hcell (p + j) (by omega) k hk
  rw [show byteL.n = 1 from rfl] at this ⊢
  rw [show off + p + j * 1 + k = off + (p + j) * 1 + k by omega, this]
  congr 2
  simp only [List.getD_eq_getElem?_getD, List.getElem?_take, List.getElem?_drop]
  rw [if_pos hj]
end Go.Proofs.YtppbcgffdpdklaaGreatDoor
/- image.Part. -/
namespace Go.Proofs.YtppbcgffdpdklaaGreatDoor
open Go.RowKit
set_option maxRecDepth 100000

def partS (l : List UInt8) (off size : Nat) : List UInt8 := if size = 0 then [] else if withinS off size l.length then (l.drop off).take size else []
end Go.Proofs.YtppbcgffdpdklaaGreatDoor
/- image.Word. -/
namespace Go.Proofs.YtppbcgffdpdklaaGreatDoor
open Go.RowKit
set_option maxRecDepth 100000

def pad8 (l : List UInt8) (o : Nat) : List UInt8 := (List.range 8).map fun j => l.getD (o + j) 0
theorem pad8_len (l : List UInt8) (o : Nat) : (pad8 l o).length = 8 := by simp [pad8]
theorem pad8_get (l : List UInt8) (o k : Nat) (h : k < 8) : (pad8 l o)[k]?.getD 0 = l.getD (o + k) 0 := by simp [pad8, h]
theorem pad8_out (l : List UInt8) (o k : Nat) (h : k < 8) (hl : l.length ≤ o + k) : leNum ((pad8 l o).take (k + 1)) = leNum ((pad8 l o).take k) := by
  rw [take_snoc8 _ _ (by rw [pad8_len]; exact h), leNum_snoc, pad8_get l o k h, List.getD_eq_getElem?_getD, List.getElem?_eq_none hl]
  simp
def padI (l : List UInt8) (o : Nat) : Int := ((leNum (pad8 l o) : Nat) : Int)
/-- What the file has at an address, or why it has nothing. -/
def wordS (ls : List Seg) (l : List UInt8) (addr : Int) : Int × Int := match atS ls addr with
  | none => (0, 4)
  | some k => if (ls.getD k .zero).size - (addr - (ls.getD k .zero).addr) < 8 then (0, 4) else (padI (partS l (ls.getD k .zero).off.toNat (ls.getD k .zero).fsize.toNat) (addr - (ls.getD k .zero).addr).toNat, 0)
end Go.Proofs.YtppbcgffdpdklaaGreatDoor
/- Plain: the state of one who goes over a stream of rebases. -/
namespace Go.Proofs.YtppbcgffdpdklaaGreatDoor
open Go.RowKit
set_option maxRecDepth 100000

structure RS where
  at_ : Nat
  is_ : Bool
  typ : Int
  out : List Fx
def rebF (a t : Int) : Fx := ⟨a, 1, t, 0, ⟨#[]⟩, 0, false⟩
/-- Further by n; one rebase; one and further; so many. -/
def furR (s : RS) (n : Nat) : RS × Int := if s.at_ + n < 18446744073709551616 then ({ s with at_ := s.at_ + n }, 0) else (s, 4)
def oneR (wr : Nat → Bool) (wd : Nat → Int) (s : RS) : RS × Int := if wr s.at_ then furR { s with out := s.out ++ [rebF s.at_ (wd s.at_)] } 8 else (s, 19)
def roundR (wr : Nat → Bool) (wd : Nat → Int) (skip : Nat) (s : RS) : RS × Int := if (oneR wr wd s).2 = 0 then furR (oneR wr wd s).1 skip else oneR wr wd s
def timesR (wr : Nat → Bool) (wd : Nat → Int) (skip : Nat) : Nat → RS → RS × Int
  | 0, s => (s, 0)
  | n + 1, s => if (roundR wr wd skip s).2 = 0 then timesR wr wd skip n (roundR wr wd skip s).1 else roundR wr wd skip s
def manyR (wr : Nat → Bool) (wd : Nat → Int) (n : Nat) (skip : Nat) (s : RS) : RS × Int :=
  if n = 0 then (s, 0) else if 20000 < s.out.length + n then (s, 11) else timesR wr wd skip n s
def readyR (s : RS) (op : Nat) : Bool := if 5 ≤ op ∧ op ≤ 8 then decide (s.typ = 1) && s.is_ else if op = 3 ∨ op = 4 then s.is_ else decide (op ≤ 8)
def numsR (op : Nat) : Nat := if op = 8 then 2 else if op = 2 ∨ op = 3 ∨ op = 6 ∨ op = 7 then 1 else 0
/-- One opcode, its numbers read: pl is the place of a segment's offset (or why there is none). -/
def doR (wr : Nat → Bool) (wd : Nat → Int) (pl : Nat → Nat → Int × Int) (op imm n0 n1 : Nat) (s : RS) : RS × Int :=
  if op = 1 then ({ s with typ := (imm : Int) }, 0)
  else if op = 2 then (if (pl imm n0).2 = 0 then ({ s with at_ := (pl imm n0).1.toNat, is_ := true }, 0) else (s, (pl imm n0).2))
  else if op = 3 then furR s n0
  else if op = 4 then furR s (8 * imm)
  else if op = 5 then manyR wr wd imm 0 s
  else if op = 6 then manyR wr wd n0 0 s
  else if op = 7 then manyR wr wd 1 n0 s
  else manyR wr wd n0 n1 s
def stepR (wr : Nat → Bool) (wd : Nat → Int) (pl : Nat → Nat → Int × Int) (op imm n0 n1 : Nat) (short : Bool) (s : RS) : RS × Int :=
  if short then (s, 3) else if readyR s op then doR wr wd pl op imm n0 n1 s else (s, 14)
/-- So many rebases 8 apart, from a place on, of nothing. -/
def rebs (a : Int) (n : Nat) : List Fx := (List.range n).map fun k : Nat => rebF (a + 8 * (k : Int)) 0
theorem rebs_len (a : Int) (n : Nat) : (rebs a n).length = n := by simp [rebs]
theorem rebs_snoc (a : Int) (n : Nat) : rebs a (n + 1) = rebs a n ++ [rebF (a + 8 * n) 0] := by simp [rebs, List.range_succ]
theorem times_flat (wr : Nat → Bool) (k0 : Nat) : ∀ (n k : Nat) (typ : Int), k + n ≤ k0 → (∀ j, j < k0 → wr (8 * j) = true) → k0 ≤ 100000 →
    timesR wr (fun _ => 0) 0 n ⟨8 * k, true, typ, rebs 0 k⟩ = (⟨8 * (k + n), true, typ, rebs 0 (k + n)⟩, 0)
  | 0, k, typ, _, _, _ => rfl
  | n + 1, k, typ, h, hw, hb => by
    have h1 : roundR wr (fun _ => 0) 0 ⟨8 * k, true, typ, rebs 0 k⟩ = (⟨8 * (k + 1), true, typ, rebs 0 (k + 1)⟩, 0) := by
      have hone : oneR wr (fun _ => 0) ⟨8 * k, true, typ, rebs 0 k⟩ = (⟨8 * (k + 1), true, typ, rebs 0 (k + 1)⟩, 0) := by
        unfold oneR
        rw [if_pos (hw k (by omega))]
        unfold furR
        rw [if_pos (by dsimp only; omega), rebs_snoc]
        simp only [Int.zero_add]
        congr 2
      unfold roundR
      rw [hone, if_pos rfl]
      unfold furR
      rw [if_pos (by dsimp only; omega)]
      simp only [Nat.add_zero]
    unfold timesR
    rw [h1, if_pos rfl, times_flat wr k0 n (k + 1) typ (by omega) hw hb, show k + 1 + n = k + (n + 1) by omega]
end Go.Proofs.YtppbcgffdpdklaaGreatDoor
/- Plain: the image of one great segment. -/
namespace Go.Proofs.YtppbcgffdpdklaaGreatDoor
open Go.RowKit
set_option maxRecDepth 100000

def oneSegs : List Seg := [⟨⟨#[97]⟩, 0, 262144, 0, 0, 3, ⟨none, 0, 0⟩⟩]
theorem oneSegsB : SegsB oneSegs := by
  intro k hk
  obtain rfl : k = 0 := by simp [oneSegs] at hk; exact hk
  show SegB (⟨⟨#[97]⟩, 0, 262144, 0, 0, 3, ⟨none, 0, 0⟩⟩ : Seg)
  unfold SegB
  simp
theorem oneSegs_at (A : Nat) (h : A < 262144) : atS oneSegs (A : Int) = some 0 := by
  unfold atS oneSegs idx inS holeS
  simp; omega
theorem protS3 : protS 3 = true := by decide
theorem oneSegs_w (A : Nat) (h : A + 8 ≤ 262144) : writS oneSegs (A : Int) 8 = true := by
  have hd : decide ((8 : Int) ≤ 262144 - ((A : Int) - 0)) = true := by
    rw [decide_eq_true_iff]
    omega
  unfold writS
  rw [oneSegs_at A (by omega)]
  show (!((8 : Int) == 0) && (protS 3 && decide ((8 : Int) ≤ 262144 - ((A : Int) - 0)))) = true
  rw [hd, protS3]
  rfl
theorem oneSegs_place : placeS oneSegs 0 0 = (0, 0) := by
  unfold placeS oneSegs holeS
  simp
  decide
end Go.Proofs.YtppbcgffdpdklaaGreatDoor
