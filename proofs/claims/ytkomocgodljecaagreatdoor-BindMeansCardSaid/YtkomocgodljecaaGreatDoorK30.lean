/- Lemmas, laid together: part 30 of 41. Conditions: none but each lemma's own. -/
import Derived.Test.YtkomocgodljecaaGreatDoorK21
import Derived.Test.YtkomocgodljecaaGreatDoorK15
import Derived.Test.YtkomocgodljecaaGreatDoorK17
import Derived.Lib.Strings
import Derived.Laws.CopyRow
import Derived.Test.YtkomocgodljecaaGreatDoorK12
import Derived.Test.YtkomocgodljecaaGreatDoorK7
import Derived.Test.YtkomocgodljecaaGreatDoorK20
import Derived.Test.YtkomocgodljecaaGreatDoorK11
import Derived.Test.YtkomocgodljecaaGreatDoorK9
/- Plain: a number of three groups, with groups of nothing behind it. -/
namespace Go.Proofs.YtkomocgodljecaaGreatDoor
open Go.RowKit

/-- A number of one group. -/
theorem lebV1 (l : List UInt8) (k : Nat) (big : Bool) (x : UInt8) (r : List UInt8) (h : l.drop k = x :: r) (hx : x.toNat < 128) :
    lebV ulebR ⟨l, k, big, false⟩ = (x.toNat : Int) ∧ lebS ulebR ⟨l, k, big, false⟩ = ⟨l, k + 1, big, false⟩ := by
  have hv : uvalV (x :: r) = some (x.toNat, 1) := by
    have h : szL (x :: r) 0 = 1 := by rw [szL, if_neg (by omega), if_pos hx]
    unfold uvalV
    rw [h]
    simp [gsOf, uval, Nat.mod_eq_of_lt hx]
  constructor
  · simp only [lebV, Bool.false_eq_true, if_false, ulebR_eq, h, hv]; rfl
  · simp only [lebS, Bool.false_eq_true, if_false, ulebR_eq, h, hv]; rfl
end Go.Proofs.YtkomocgodljecaaGreatDoor
/- image.within, slices.Clone of bytes, image.Part. -/
namespace Go.Proofs.YtkomocgodljecaaGreatDoor
open Go.RowKit
set_option maxRecDepth 100000

end Go.Proofs.YtkomocgodljecaaGreatDoor
/- image.Part. -/
namespace Go.Proofs.YtkomocgodljecaaGreatDoor
open Go.RowKit
set_option maxRecDepth 100000

end Go.Proofs.YtkomocgodljecaaGreatDoor
/- image.Word. -/
namespace Go.Proofs.YtkomocgodljecaaGreatDoor
open Go.RowKit
set_option maxRecDepth 100000

end Go.Proofs.YtkomocgodljecaaGreatDoor
/- Plain: the state of one who goes over a stream of rebases. -/
namespace Go.Proofs.YtkomocgodljecaaGreatDoor
open Go.RowKit
set_option maxRecDepth 100000

structure RS where
  at_ : Nat
  is_ : Bool
  typ : Int
  out : List Fx
end Go.Proofs.YtkomocgodljecaaGreatDoor
/- Plain: the image of one great segment. -/
namespace Go.Proofs.YtkomocgodljecaaGreatDoor
open Go.RowKit
set_option maxRecDepth 100000

theorem protS3 : protS 3 = true := by decide
end Go.Proofs.YtkomocgodljecaaGreatDoor
/- bind.Decode of BindMany's stream, and of the chapter's. -/
namespace Go.Proofs.YtkomocgodljecaaGreatDoor
open Go.RowKit
set_option maxRecDepth 100000

def fB0 : Fx := { Fx.zero with kind := 2 }
def fB1 : Fx := { fB0 with ord := -2 }
def fB2 : Fx := { fB1 with sym := ⟨#[97]⟩, weak := false }
def cF (a b : Nat) : Nat → Fx | 0 => fB0 | 1 => fB1 | 2 => fB2 | 3 => { fB2 with at_ := ((0 : Nat) : Int) } | 4 => { fB2 with at_ := ((0 + 8 * a : Nat) : Int) } | _ => { fB2 with at_ := ((0 + 8 * a + 8 * b : Nat) : Int) }
theorem BSt.start {w W : World} {B : List UInt8} {m : Img} {bc b : Nat} (hw : Env w) (hlo : w.heap.size ≤ bc) (hlt : bc < b) (hc : CurB W bc ⟨B, 0, false, false⟩) (hb : brdL.Box W b (brd0 bc m)) (k : Chg [] w W) : BSt w B m 0 0 fB0 false false [] bc b W :=
  ⟨hlo, hlt, hw.frame k (by simp), hc, k, ⟨none, 0, 0⟩, hb, Lay.Buf.nil _ _⟩
theorem BSt.isR {w W : World} {B : List UInt8} {m : Img} {imm : Int} {p : Nat} {f : Fx} {is_ en : Bool} {fs : List Fx} {bc b : Nat} (h : BSt w B m imm p f is_ en fs bc b W) (L : Nat) (he : p < L → en = false) :
    CurB W bc ⟨B, p, false, false⟩ ∧ Chg [] w W ∧ bc < b ∧ w.heap.size ≤ bc ∧ ∃ r, brdL.Box W b r ∧ r.c = some ⟨bc, 0, none⟩ ∧ (p < L → r.ended = false) ∧ FB W (b + 1) r.out.v fs := by
  obtain ⟨so, h1, h2⟩ := h.box
  exact ⟨h.cur, h.chg, h.hi, h.lo, _, h1, rfl, he, h2⟩
theorem symB : ¬ (⟨#[95, 97]⟩ : ByteArray).toList = [] := by decide +kernel
theorem hcfSy (args : Array Value) (W : World) : (callFunc 52 args).run Tryz.prog W = .ok (.enter 52 args) W := by kernel_rfl
theorem hcfPl (args : Array Value) (W : World) : (callFunc 55 args).run Tryz.prog W = .ok (.enter 55 args) W := by kernel_rfl
theorem hcfOr (args : Array Value) (W : World) : (callFunc 49 args).run Tryz.prog W = .ok (.enter 49 args) W := by kernel_rfl
theorem hcfOn (args : Array Value) (W : World) : (callFunc 57 args).run Tryz.prog W = .ok (.enter 57 args) W := by kernel_rfl
theorem hcfEn (args : Array Value) (W : World) : (callFunc 48 args).run Tryz.prog W = .ok (.enter 48 args) W := by kernel_rfl
/-- A text that stands there. -/
theorem text_at (B : List UInt8) (p n : Nat) (t : List UInt8) (hz : Lib.indexByte (B.drop p) 0 = (n : Int)) (hn : n ≤ 1000) (ht : (B.drop p).take n = t) : textS ⟨B, p, false, false⟩ 1099511627776 = ⟨B, p + n + 1, false, false⟩ ∧ textL ⟨B, p, false, false⟩ 1099511627776 = t := by
  have hz2 : zeroAt ⟨B, p, false, false⟩ = (n : Int) := hz
  have hok : textOk ⟨B, p, false, false⟩ 1099511627776 = true := by
    unfold textOk
    rw [hz2]
    simp
    omega
  constructor
  · unfold textS
    rw [if_pos hok, hz2]
    rfl
  · unfold textL
    rw [if_pos hok, hz2]
    exact ht
end Go.Proofs.YtkomocgodljecaaGreatDoor
/- bind.Decode of the chapter's streams; BindMany's results. -/
namespace Go.Proofs.YtkomocgodljecaaGreatDoor
open Go.RowKit
set_option maxRecDepth 100000

def tw4 : List Seg := [⟨⟨#[97]⟩, 0, 4096, 0, 4096, 5, ⟨none, 0, 0⟩⟩, ⟨⟨#[98]⟩, 4096, 4096, 0, 0, 3, ⟨none, 0, 0⟩⟩]
theorem tw4B : SegsB tw4 := by
  intro k hk
  have : k = 0 ∨ k = 1 := by simp [tw4] at hk; omega
  rcases this with rfl | rfl
  · show SegB (⟨⟨#[97]⟩, 0, 4096, 0, 4096, 5, ⟨none, 0, 0⟩⟩ : Seg)
    unfold SegB
    simp
  · show SegB (⟨⟨#[98]⟩, 4096, 4096, 0, 0, 3, ⟨none, 0, 0⟩⟩ : Seg)
    unfold SegB
    simp
theorem tw4_at (A : Nat) (h0 : 4096 ≤ A) (h : A < 8192) : atS tw4 (A : Int) = some 1 := by
  have d1 : decide ((4096 : Int) ≤ (A : Int)) = true := by rw [decide_eq_true_iff]; omega
  have d2 : decide ((A : Int) - 4096 < 4096) = true := by rw [decide_eq_true_iff]; omega
  have d3 : decide ((A : Int) - 0 < 4096) = false := by rw [decide_eq_false_iff_not]; omega
  refine idx_some (d := Seg.zero) (by decide) ?_ (fun j hj => ?_)
  · show (!(decide ((3 : Int) = 0) && decide ((0 : Int) = 0)) && (decide ((4096 : Int) ≤ (A : Int)) && decide ((A : Int) - 4096 < 4096))) = true
    rw [d1, d2]
    rfl
  · obtain rfl : j = 0 := by omega
    show (!(decide ((5 : Int) = 0) && decide ((4096 : Int) = 0)) && (decide ((0 : Int) ≤ (A : Int)) && decide ((A : Int) - 0 < 4096))) = false
    rw [d3, Bool.and_false, Bool.and_false]
theorem tw4_w (A : Nat) (h0 : 4096 ≤ A) (h : A + 8 ≤ 8192) : writS tw4 (A : Int) 8 = true := by
  have hd : decide ((8 : Int) ≤ 4096 - ((A : Int) - 4096)) = true := by
    rw [decide_eq_true_iff]
    omega
  unfold writS
  rw [tw4_at A h0 (by omega)]
  show (!((8 : Int) == 0) && (protS 3 && decide ((8 : Int) ≤ 4096 - ((A : Int) - 4096)))) = true
  rw [hd, protS3]
  rfl
theorem tw4_place : placeS tw4 1 0 = (4096, 0) := by
  unfold placeS tw4 holeS
  simp
  decide
def dP : Nat → Nat | 0 => 0 | 1 => 1 | 2 => 5 | 3 => 7 | 4 => 8 | _ => 9
def dOp : Nat → Nat | 0 => 1 | 1 => 4 | 2 => 7 | 3 => 9 | _ => 0
def dIm : Nat → Nat | 0 => 1 | 1 => 0 | 2 => 1 | _ => 0
def dFn : Nat → Nat | 0 => 49 | 1 => 52 | 2 => 55 | 3 => 57 | _ => 48
def fD1 : Fx := { fB0 with ord := ((1 : Nat) : Int) }
def fD2 : Fx := { fD1 with sym := ⟨#[95, 97]⟩, weak := false }
def fD3 : Fx := { fD2 with at_ := ((4096 : Nat) : Int) }
def dF : Nat → Fx | 0 => fB0 | 1 => fD1 | 2 => fD2 | 3 => fD3 | _ => { fD3 with at_ := ((4096 + 8 * 1 : Nat) : Int) }
def dIs : Nat → Bool | 0 => false | 1 => false | 2 => false | _ => true
def dEn : Nat → Bool | 0 => false | 1 => false | 2 => false | 3 => false | 4 => false | _ => true
def dL : Nat → List Fx | 0 => [] | 1 => [] | 2 => [] | 3 => [] | _ => [] ++ bndW fD3 4096 1
def dB : List UInt8 := [17, 64, 95, 97, 0, 113, 0, 144, 0]
theorem dknown_row (w : World) (hw : Env w) (m : Img) (hd : BIn w m tw4) (hm : m.deps.n = 1) :
    BRow w dB m dP dOp dIm dFn 5 0 (fun _ b' i so W => FB W (b' + 1) so.v (dL i)) (fun bc b' i W => ∃ imm, BSt w dB m imm (dP i) (dF i) (dIs i) (dEn i) (dL i) bc b' W) := by
  have v1 : lebV ulebR ⟨dB, 6, false, false⟩ = ((0 : Nat) : Int) ∧ lebS ulebR ⟨dB, 6, false, false⟩ = ⟨dB, 7, false, false⟩ := lebV1 _ 6 false 0 _ rfl (by decide)
  have vt := text_at dB 2 2 [95, 97] rfl (by decide) rfl
  refine ⟨fun bc b' W h1 h2 h3 h4 h5 => ⟨0, BSt.start hw h1 h2 h3 h4 h5⟩, rfl, fun bc b' i W W' ⟨im, hs⟩ k => ⟨im, hs.pure k⟩, fun bc b' i so W W' hk k => Lay.Buf.pure hk k, fun bc b' i W ⟨im, hs⟩ => hs.isR 9 (fun hp => ?_), fun i => ?_, fun i hi => ?_, fun i hi hl => ?_, fun i hi hl => ?_, fun bc b' i W0 W hi ⟨im, hs⟩ k hc => ?_, .inl ⟨rfl, rfl⟩⟩
  · match i, hp with
    | 0, _ => rfl
    | 1, _ => rfl
    | 2, _ => rfl
    | 3, _ => rfl
    | 4, _ => rfl
    | _ + 5, hp => exact absurd hp (by show ¬ (9 : Nat) < 9; decide)
  · match i with
    | 0 => exact (by decide : (0 : Nat) ≤ 9)
    | 1 => exact (by decide : (1 : Nat) ≤ 9)
    | 2 => exact (by decide : (5 : Nat) ≤ 9)
    | 3 => exact (by decide : (7 : Nat) ≤ 9)
    | 4 => exact (by decide : (8 : Nat) ≤ 9)
    | _ + 5 => exact (by decide : (9 : Nat) ≤ 9)
  · match i, hi with
    | 0, _ => exact (by decide : (0 : Nat) < 9 ∧ (0 : Nat) < 1)
    | 1, _ => exact (by decide : (1 : Nat) < 9 ∧ (1 : Nat) < 5)
    | 2, _ => exact (by decide : (5 : Nat) < 9 ∧ (5 : Nat) < 7)
    | 3, _ => exact (by decide : (7 : Nat) < 9 ∧ (7 : Nat) < 8)
    | 4, _ => exact (by decide : (8 : Nat) < 9 ∧ (8 : Nat) < 9)
    | _ + 5, hi => omega
  · match i, hl with
    | 0, _ => exact ⟨rfl, by decide, by decide⟩
    | 1, _ => exact ⟨rfl, by decide, by decide⟩
    | 2, _ => exact ⟨rfl, by decide, by decide⟩
    | 3, _ => exact ⟨rfl, by decide, by decide⟩
    | 4, _ => exact ⟨rfl, by decide, by decide⟩
    | _ + 5, hl => exact absurd hl (by show ¬ (9 : Nat) < 9; decide)
  · match i, hl with
    | 0, _ => exact ⟨rfl, hcfOr⟩
    | 1, _ => exact ⟨rfl, hcfSy⟩
    | 2, _ => exact ⟨rfl, hcfPl⟩
    | 3, _ => exact ⟨rfl, hcfOn⟩
    | 4, _ => exact ⟨rfl, hcfEn⟩
    | _ + 5, hl => exact absurd hl (by show ¬ (9 : Nat) < 9; decide)
  · have ht := hs.took hw k hc (dIm i : Nat)
    match i, hi, hs, ht with
    | 0, _, _, ht =>
      refine (BSt.ordinal (n := 1) ht hw (by rw [hm]; decide) (by decide) (by rw [hm]; decide)).mono ?_
      rintro e w' ⟨rfl, h1, h2⟩
      exact ⟨rfl, ⟨_, h1⟩, h2⟩
    | 1, _, _, ht =>
      refine (BSt.symbol ht hw ⟨#[95, 97]⟩ (.inr rfl) vt.1 (congrArg (fun l : List UInt8 => (⟨l.toArray⟩ : ByteArray)) vt.2)).mono ?_
      rintro e w' ⟨rfl, h1, h2⟩
      exact ⟨rfl, ⟨_, h1⟩, h2⟩
    | 2, _, _, ht =>
      refine (BSt.place (im := 1) ht hw hd (by decide) v1 tw4_place).mono ?_
      rintro e w' ⟨rfl, h1, h2⟩
      exact ⟨rfl, ⟨_, h1⟩, h2⟩
    | 3, hi, _, ht =>
      refine (BSt.one ht hw hd rfl symB (by decide) (fun j hj => tw4_w _ (by omega) (by omega)) (by show 0 + 1 ≤ 20000; decide)).mono ?_
      rintro e w' ⟨rfl, h1, h2⟩
      exact ⟨rfl, ⟨_, h1⟩, h2⟩
    | 4, hi, _, ht =>
      refine (BSt.endS ht hw).mono ?_
      rintro e w' ⟨rfl, h1, h2⟩
      exact ⟨rfl, ⟨_, h1⟩, h2⟩
    | _ + 5, hi, _, _ => omega
def d14l : List Fx := [fD3]
theorem Decode_b1 (w : World) (hw : Env w) (m : Img) (hd : BIn w m tw4) (hm : m.deps.n = 1) (stv : Value) (hst : Rd w stv (bytesV dB)) :
    Calls Tryz.prog 10 #[imgL.val m, .int .i64 1, stv] w fun e w' => ∃ so : SlV, e = .returned (.tuple #[so.v, .int .i64 0]) ∧ Chg [] w w' ∧ FB w' w.heap.size so.v d14l := by
  refine (Decode_rowB m stv dB (by decide) w hst dP dOp dIm dFn 5 0 (fun _ _ b' i so W => FB W (b' + 1) so.v (dL i)) (fun w1 bc b' i W => ∃ imm, BSt w1 dB m imm (dP i) (dF i) (dIs i) (dEn i) (dL i) bc b' W) (fun w1 k => dknown_row w1 (hw.frame k (by simp)) m ⟨hd.hls, hd.rd.frame k, fun i hi => Nat.lt_of_lt_of_le (hd.o1 i hi) k.size⟩ hm)).mono ?_
  rintro e w' ⟨so, rfl, hc, _, h2⟩
  obtain ⟨w1, bc, b', W0, S, k1, h3, h4, _, hk, h5, h6⟩ := h2 rfl
  refine ⟨so, rfl, hc, ?_⟩
  have hk' : FB W0 (b' + 1) so.v d14l := hk
  exact (hk'.frame h5 (fun k hk2 hm2 => by have := (hk'.lt k hk2).1; have := h6 k hm2; omega)).mono (by have := k1.size; omega)
def eP : Nat → Nat | 0 => 0 | _ => 2
def eOp : Nat → Nat | 0 => 7 | _ => 9
def eIm : Nat → Nat | 0 => 1 | _ => 0
def eFn : Nat → Nat | 0 => 55 | _ => 57
def eF : Nat → Fx | 0 => fB0 | _ => { fB0 with at_ := ((4096 : Nat) : Int) }
def eIs : Nat → Bool | 0 => false | _ => true
theorem eknown_row (w : World) (hw : Env w) (m : Img) (hd : BIn w m tw4) :
    BRow w [113, 0, 144] m eP eOp eIm eFn 1 14 (fun _ b' _ so W => FB W (b' + 1) so.v []) (fun bc b' i W => ∃ imm, BSt w [113, 0, 144] m imm (eP i) (eF i) (eIs i) false [] bc b' W) := by
  have v1 : lebV ulebR ⟨[113, 0, 144], 1, false, false⟩ = ((0 : Nat) : Int) ∧ lebS ulebR ⟨[113, 0, 144], 1, false, false⟩ = ⟨[113, 0, 144], 2, false, false⟩ := lebV1 _ 1 false 0 _ rfl (by decide)
  refine ⟨fun bc b' W h1 h2 h3 h4 h5 => ⟨0, BSt.start hw h1 h2 h3 h4 h5⟩, rfl, fun bc b' i W W' ⟨im, hs⟩ k => ⟨im, hs.pure k⟩, fun bc b' i so W W' hk k => Lay.Buf.pure hk k, fun bc b' i W ⟨im, hs⟩ => hs.isR 3 (fun _ => rfl), fun i => ?_, fun i hi => ?_, fun i hi hl => ?_, fun i hi hl => ?_, fun bc b' i W0 W hi ⟨im, hs⟩ k hc => ?_, ?_⟩
  · match i with
    | 0 => exact (by decide : (0 : Nat) ≤ 3)
    | _ + 1 => exact (by decide : (2 : Nat) ≤ 3)
  · obtain rfl : i = 0 := by omega
    exact (by decide : (0 : Nat) < 3 ∧ (0 : Nat) < 2)
  · match i, hi with
    | 0, _ => exact ⟨rfl, by decide, by decide⟩
    | 1, _ => exact ⟨rfl, by decide, by decide⟩
    | _ + 2, hi => omega
  · match i, hi with
    | 0, _ => exact ⟨rfl, hcfPl⟩
    | 1, _ => exact ⟨rfl, hcfOn⟩
    | _ + 2, hi => omega
  · obtain rfl : i = 0 := by omega
    have ht := hs.took hw k hc (eIm 0 : Nat)
    refine (BSt.place (im := 1) ht hw hd (by decide) v1 tw4_place).mono ?_
    rintro e w' ⟨rfl, h1, h2⟩
    exact ⟨rfl, ⟨_, h1⟩, h2⟩
  · refine .inr ⟨by decide, by show (2 : Nat) < 3; decide, fun bc b' W0 W ⟨im, hs⟩ k hc => ?_⟩
    exact (hs.took hw k hc _).one_not rfl
theorem Decode_b2 (w : World) (hw : Env w) (m : Img) (hd : BIn w m tw4) (stv : Value) (hst : Rd w stv (bytesV [113, 0, 144])) :
    Calls Tryz.prog 10 #[imgL.val m, .int .i64 1, stv] w fun e w' => e = .returned (.tuple #[.slice none 0 0, .int .i64 14]) ∧ Chg [] w w' := by
  refine (Decode_rowB m stv [113, 0, 144] (by decide) w hst eP eOp eIm eFn 1 14 (fun _ _ b' _ so W => FB W (b' + 1) so.v []) (fun w1 bc b' i W => ∃ imm, BSt w1 [113, 0, 144] m imm (eP i) (eF i) (eIs i) false [] bc b' W) (fun w1 k => eknown_row w1 (hw.frame k (by simp)) m ⟨hd.hls, hd.rd.frame k, fun i hi => Nat.lt_of_lt_of_le (hd.o1 i hi) k.size⟩)).mono ?_
  rintro e w' ⟨so, rfl, hc, h1, _⟩
  rw [h1 (by decide)]
  exact ⟨rfl, hc⟩
end Go.Proofs.YtkomocgodljecaaGreatDoor
/- bind.may, of the chapter's bind. -/
namespace Go.Proofs.YtkomocgodljecaaGreatDoor
open Go.RowKit
set_option maxRecDepth 100000

theorem May_d (w : World) : Calls Tryz.prog 38 #[fxl.val fD3] w fun e w' => e = .returned (.bool true) ∧ Chg [] w w' := by
  show Calls Tryz.prog 38 #[.agg #[.int .u64 4096, .int .i64 2, .int .u64 0, .int .i64 1, .string ⟨#[95, 97]⟩, .int .i64 0, .bool false]] w _
  have hc : Hid (Calls Tryz.prog 67 #[.string ⟨#[95, 97]⟩, .string ⟨#[0]⟩] (w.alloc (.cells #[.int .u64 4096, .int .i64 2, .int .u64 0, .int .i64 1, .string ⟨#[95, 97]⟩, .int .i64 0, .bool false] 53)) fun e w' => e = .returned (.bool false) ∧ w' = (w.alloc (.cells #[.int .u64 4096, .int .i64 2, .int .u64 0, .int .i64 1, .string ⟨#[95, 97]⟩, .int .i64 0, .bool false] 53))) := by
    refine Lib.hid ((Tryz.strings_Contains_one _ 0 _).mono fun e w' ⟨he, hw⟩ => ⟨?_, hw⟩)
    rw [he]
    have : decide (0 ≤ Lib.indexByte [95, 97] 0) = false := by decide
    exact congrArg (fun b => Ending.returned (.bool b)) this
  go_enter Tryz.func38, Tryz.ntmps38
  go_wp2_with fail
  refine (hc.out).mono ?_
  rintro e w' ⟨rfl, rfl⟩
  go_wp2
  go_ret
  exact ⟨rfl, (Chg.refl _ _).alloc _⟩
theorem d14_set : setF d14l = d14l := rfl
theorem d14_meet : meetF d14l = false := by
  rw [← adj_meet, d14_set]
  rfl
set_option maxHeartbeats 4000000 in
theorem may_d (m : Img) (d : Nat) (hm : m.deps.n = d) (hd1 : d = 1) (g cap : Nat) (w : World) (rd : segL.Rd w m.segs.v tw4) (hl : FxRd w (.slice (some ⟨g, 0, none⟩) 1 cap) d14l) :
    Calls Tryz.prog 15 #[imgL.val m, .int .i64 1, .slice (some ⟨g, 0, none⟩) 1 cap] w fun e w' => e = .returned (.int .i64 0) ∧ Chg [] w w' := by
  have HME := Lib.hid (fun w rd => FMeet_any d14l (.slice (some ⟨g, 0, none⟩) 1 cap) w rd (by decide) (by decide))
  rw [d14_meet] at HME
  have HWR : Hid (∀ w, segL.Rd w m.segs.v tw4 → Calls Tryz.prog 39 #[imgL.val m, .int .u64 4096, .int .u64 8] w fun e w' => e = .returned (.bool true) ∧ Chg [] w w') := by
    refine Lib.hid ?_
    intro w rd
    have := Writable_any m tw4 tw4B (4096 : Int) 8 (by decide) w rd
    rw [show writS tw4 4096 8 = true from tw4_w 4096 (by decide) (by decide)] at this
    exact this
  have HMA := Lib.hid (May_d)
  have hI : fxl.In w g 0 fD3 := by
    obtain ⟨b, off, e, _, h⟩ := (fx_toL hl).at (by decide)
    cases e
    have := h 0 (by decide)
    rwa [Nat.zero_mul, Nat.zero_add] at this
  have HRD := Lib.hid rd
  have Hl := Lib.hid hl
  have HI := Lib.hid hI
  clear rd hl hI
  go_enter Tryz.func15, Tryz.ntmps15
  go_wp2_with ((with_reducible refine Lay.bxL (L := imgL) 30 m ?_ ?_); exact rfl; intro W1 bi ebi cbi xbi; replace ebi := Lib.hid ebi; replace cbi := Lib.hid cbi; replace xbi := Lib.hid xbi; refine Hid.out ?_)
  refine Lib.hid ?_
  have I1 := Lib.hid (HI.out.frame cbi.out)
  go_wp2_with fail
  refine (HME.out _ (Hl.out.frame cbi.out)).mono ?_
  rintro e W2 ⟨rfl, h2⟩
  have C2 : Hid (Chg [] W1 W2) := Lib.hid (h2)
  clear h2
  go_wp2_with fail
  go_loopw [25] (fun s25 wr => ∃ k : Nat, k ≤ 1 ∧ s25 = .int .i64 (k : Int) ∧ Chg [] W1 wr) (fun s25 _ => 1 - (intOf s25).toNat)
  case atStart => exact ⟨0, by decide, rfl, C2.out⟩
  case round =>
    obtain ⟨k, hk, rfl, hc⟩ := hrel
    have CW := Lib.hid hc
    clear hc
    by_cases hlt : k < 1
    · obtain rfl : k = 0 := by omega
      go_wp2_with ((with_reducible refine Lay.ldL Tryz.tFx fD3 ((I1.out.frame CW.out)) ?_ ?_); exact rfl; refine Hid.out ?_)
      refine Lib.hid ?_
      go_wp2_with ((with_reducible refine Lay.alL Tryz.tFx ?_); intro W3 bx ebx cbx xbx; replace ebx := Lib.hid ebx; replace cbx := Lib.hid cbx; replace xbx := Lib.hid xbx; refine Hid.out ?_)
      refine Lib.hid ?_
      go_wp2_with ((with_reducible refine Lay.stL Tryz.tFx fD3 (xbx.out) ?_ ?_ ?_); exact rfl; exact rfl; intro W4 cW4 xW4; replace cW4 := Lib.hid cW4; replace xW4 := Lib.hid xW4; refine Hid.out ?_)
      refine Lib.hid ?_
      have f1 : W4.cell? ⟨bx, 1, none⟩ = some (.int .i64 2) := by
        have := xW4.out.in 1 (by decide)
        rw [Nat.zero_add] at this
        rw [this]
        rfl
      have C4 : Hid (Chg [] W1 W4) := Lib.hid (CW.out.then (cbx.out.new cW4.out (by rw [ebx.out]; exact Nat.le_refl _)))
      go_wp2_with ((with_reducible refine Lay.ldG2 Tryz.tFx fD3 (xW4.out.in) ?_ ?_ ?_); exact rfl; exact rfl; refine Hid.out ?_)
      refine Lib.hid ?_
      go_wp2_with fail
      refine (HMA.out _).mono ?_
      rintro e W5 ⟨rfl, h5⟩
      have C5 := Lib.hid (C4.out.then h5)
      clear h5
      go_wp2
      go_roundw
      case rel => exact ⟨1, by decide, rfl, C5.out⟩
      case measure => simp [intOf]
    · obtain rfl : k = 1 := by omega
      rw [show ((1 : Nat) : Int) = 1 from rfl]
      go_wp2_with fail
      go_loopw [49] (fun s49 wr => ∃ k : Nat, k ≤ 1 ∧ s49 = .int .i64 (k : Int) ∧ Chg [] W1 wr) (fun s49 _ => 1 - (intOf s49).toNat)
      case atStart => exact ⟨0, by decide, rfl, CW.out⟩
      case round =>
        clear hlt hk CW
        obtain ⟨k, hk, rfl, hc⟩ := hrel
        have CW := Lib.hid hc
        clear hc
        by_cases hlt : k < 1
        · obtain rfl : k = 0 := by omega
          go_wp2_with ((with_reducible refine Lay.ldL Tryz.tFx fD3 ((I1.out.frame CW.out)) ?_ ?_); exact rfl; refine Hid.out ?_)
          refine Lib.hid ?_
          go_wp2_with ((with_reducible refine Lay.alL Tryz.tFx ?_); intro W3 bx ebx cbx xbx; replace ebx := Lib.hid ebx; replace cbx := Lib.hid cbx; replace xbx := Lib.hid xbx; refine Hid.out ?_)
          refine Lib.hid ?_
          go_wp2_with ((with_reducible refine Lay.stL Tryz.tFx fD3 (xbx.out) ?_ ?_ ?_); exact rfl; exact rfl; intro W4 cW4 xW4; replace cW4 := Lib.hid cW4; replace xW4 := Lib.hid xW4; refine Hid.out ?_)
          refine Lib.hid ?_
          have f3 : W4.cell? ⟨bx, 3, none⟩ = some (.int .i64 1) := by
            have := xW4.out.in 3 (by decide)
            rw [Nat.zero_add] at this
            rw [this]
            rfl
          have C4 : Hid (Chg [] W1 W4) := Lib.hid (CW.out.then (cbx.out.new cW4.out (by rw [ebx.out]; exact Nat.le_refl _)))
          have x5 := Img.c_deps (xbi.out.frame C4.out)
          rw [hm, hd1] at x5
          go_wp2
          go_roundw
          case rel => exact ⟨1, by decide, rfl, C4.out⟩
          case measure => simp [intOf]
        · obtain rfl : k = 1 := by omega
          rw [show ((1 : Nat) : Int) = 1 from rfl]
          go_wp2_with fail
          go_loopw [65] (fun s65 wr => ∃ k : Nat, k ≤ 1 ∧ s65 = .int .i64 (k : Int) ∧ Chg [] W1 wr) (fun s65 _ => 1 - (intOf s65).toNat)
          case atStart => exact ⟨0, by decide, rfl, CW.out⟩
          case round =>
            clear hlt hk CW
            obtain ⟨k, hk, rfl, hc⟩ := hrel
            have CW := Lib.hid hc
            clear hc
            by_cases hlt : k < 1
            · obtain rfl : k = 0 := by omega
              go_wp2_with ((with_reducible refine Lay.ldL Tryz.tFx fD3 ((I1.out.frame CW.out)) ?_ ?_); exact rfl; refine Hid.out ?_)
              refine Lib.hid ?_
              go_wp2_with ((with_reducible refine Lay.alL Tryz.tFx ?_); intro W3 bx ebx cbx xbx; replace ebx := Lib.hid ebx; replace cbx := Lib.hid cbx; replace xbx := Lib.hid xbx; refine Hid.out ?_)
              refine Lib.hid ?_
              go_wp2_with ((with_reducible refine Lay.stL Tryz.tFx fD3 (xbx.out) ?_ ?_ ?_); exact rfl; exact rfl; intro W4 cW4 xW4; replace cW4 := Lib.hid cW4; replace xW4 := Lib.hid xW4; refine Hid.out ?_)
              refine Lib.hid ?_
              have f0 : W4.cell? ⟨bx, 0, none⟩ = some (.int .u64 4096) := by
                have := xW4.out.in 0 (by decide)
                rw [Nat.zero_add] at this
                rw [this]
                rfl
              have C4 : Hid (Chg [] W1 W4) := Lib.hid (CW.out.then (cbx.out.new cW4.out (by rw [ebx.out]; exact Nat.le_refl _)))
              go_wp2_with ((with_reducible refine Lay.ldL Tryz.tImg m (((xbi.out.frame C4.out).in)) ?_ ?_); exact rfl; refine Hid.out ?_)
              refine Lib.hid ?_
              go_wp2_with fail
              refine (HWR.out _ (HRD.out.frame (cbi.out.then C4.out))).mono ?_
              rintro e W5 ⟨rfl, h5⟩
              have C5 := Lib.hid (C4.out.then h5)
              clear h5
              go_wp2
              go_roundw
              case rel => exact ⟨1, by decide, rfl, C5.out⟩
              case measure => simp [intOf]
            · obtain rfl : k = 1 := by omega
              go_wp2
              go_ret
              exact ⟨rfl, cbi.out.then CW.out⟩
end Go.Proofs.YtkomocgodljecaaGreatDoor
