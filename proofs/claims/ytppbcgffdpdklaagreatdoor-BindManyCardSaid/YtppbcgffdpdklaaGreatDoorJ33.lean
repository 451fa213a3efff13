/- Lemmas, laid together: part 33 of 39. Conditions: none but each lemma's own. -/
import Derived.Test.YtppbcgffdpdklaaGreatDoorJ29
import Derived.Test.YtppbcgffdpdklaaGreatDoorJ32
/- bind.Decode of BindMany's stream, and of the chapter's. -/
namespace Go.Proofs.YtppbcgffdpdklaaGreatDoor
open Go.RowKit
set_option maxRecDepth 100000

theorem bndW_congr (f : Fx) (x : Int) (A n : Nat) : bndW { f with at_ := x } A n = bndW f A n := rfl
theorem bndW_add (f : Fx) (A n m : Nat) : bndW f A n ++ bndW f (A + 8 * n) m = bndW f A (n + m) := by
  induction m with
  | zero => simp [bndW]
  | succ k ih =>
    rw [bndW_snoc, ← List.append_assoc, ih, show n + (k + 1) = (n + k) + 1 by omega, bndW_snoc, show A + 8 * n + 8 * k = A + 8 * (n + k) by omega]
def cP : Nat → Nat | 0 => 0 | 1 => 1 | 2 => 4 | 3 => 6 | 4 => 11 | _ => 16
def cOp : Nat → Nat | 0 => 3 | 1 => 4 | 2 => 7 | _ => 12
def cIm : Nat → Nat | 0 => 14 | _ => 0
def cFn : Nat → Nat | 0 => 23 | 1 => 24 | 2 => 27 | _ => 32
def fB0 : Fx := { Fx.zero with kind := 2 }
def fB1 : Fx := { fB0 with ord := -2 }
def fB2 : Fx := { fB1 with sym := ⟨#[97]⟩, weak := false }
def cF (a b : Nat) : Nat → Fx | 0 => fB0 | 1 => fB1 | 2 => fB2 | 3 => { fB2 with at_ := ((0 : Nat) : Int) } | 4 => { fB2 with at_ := ((0 + 8 * a : Nat) : Int) } | _ => { fB2 with at_ := ((0 + 8 * a + 8 * b : Nat) : Int) }
def cIs : Nat → Bool | 0 => false | 1 => false | 2 => false | _ => true
def cL (a b : Nat) : Nat → List Fx | 0 => [] | 1 => [] | 2 => [] | 3 => [] | 4 => [] ++ bndW fB2 0 a | _ => ([] ++ bndW fB2 0 a) ++ bndW fB2 (0 + 8 * a) b
def cB (x1 x2 x3 y1 y2 y3 : UInt8) : List UInt8 := [62, 64, 97, 0, 112, 0, 192, x1, x2, x3, 0, 192, y1, y2, y3, 0]
theorem BSt.start {w W : World} {B : List UInt8} {m : Img} {bc b : Nat} (hw : Env w) (hlo : w.heap.size ≤ bc) (hlt : bc < b) (hc : CurB W bc ⟨B, 0, false, false⟩) (hb : brdL.Box W b (brd0 bc m)) (k : Chg [] w W) : BSt w B m 0 0 fB0 false false [] bc b W :=
  ⟨hlo, hlt, hw.frame k (by simp), hc, k, ⟨none, 0, 0⟩, hb, Lay.Buf.nil _ _⟩
theorem BSt.isR {w W : World} {B : List UInt8} {m : Img} {imm : Int} {p : Nat} {f : Fx} {is_ en : Bool} {fs : List Fx} {bc b : Nat} (h : BSt w B m imm p f is_ en fs bc b W) (L : Nat) (he : p < L → en = false) :
    CurB W bc ⟨B, p, false, false⟩ ∧ Chg [] w W ∧ bc < b ∧ w.heap.size ≤ bc ∧ ∃ r, brdL.Box W b r ∧ r.c = some ⟨bc, 0, none⟩ ∧ (p < L → r.ended = false) ∧ FB W (b + 1) r.out.v fs := by
  obtain ⟨so, h1, h2⟩ := h.box
  exact ⟨h.cur, h.chg, h.hi, h.lo, _, h1, rfl, he, h2⟩
theorem symA : ¬ (⟨#[97]⟩ : ByteArray).toList = [] := by decide +kernel
theorem symB : ¬ (⟨#[95, 97]⟩ : ByteArray).toList = [] := by decide +kernel
theorem hcfSp (args : Array Value) (W : World) : (callFunc 23 args).run Tryz.prog W = .ok (.enter 23 args) W := by kernel_rfl
theorem hcfSy (args : Array Value) (W : World) : (callFunc 24 args).run Tryz.prog W = .ok (.enter 24 args) W := by kernel_rfl
theorem hcfPl (args : Array Value) (W : World) : (callFunc 27 args).run Tryz.prog W = .ok (.enter 27 args) W := by kernel_rfl
theorem hcfMa (args : Array Value) (W : World) : (callFunc 32 args).run Tryz.prog W = .ok (.enter 32 args) W := by kernel_rfl
theorem hcfOr (args : Array Value) (W : World) : (callFunc 21 args).run Tryz.prog W = .ok (.enter 21 args) W := by kernel_rfl
theorem hcfOn (args : Array Value) (W : World) : (callFunc 29 args).run Tryz.prog W = .ok (.enter 29 args) W := by kernel_rfl
theorem hcfEn (args : Array Value) (W : World) : (callFunc 20 args).run Tryz.prog W = .ok (.enter 20 args) W := by kernel_rfl
/-- A text that stands there. -/
theorem text_at (B : List UInt8) (p n : Nat) (t : List UInt8) (hz : Lib.indexByte (B.drop p) 0 = (n : Int)) (hn : n ≤ 1000) (ht : (B.drop p).take n = t) : textS ⟨B, p, false, false⟩ 1099511627776 = ⟨B, p + n + 1, false, false⟩ ∧ textL ⟨B, p, false, false⟩ 1099511627776 = t := by
  have hz2 : zeroAt ⟨B, p, false, false⟩ = (n : Int) := hz
  have hok : textOk ⟨B, p, false, false⟩ 1099511627776 = true := by
    unfold textOk
    rw [hz2]
    simp
    omega
  constructor
  · unfold textS
    rw [if_pos hok, hz2]
    rfl
  · unfold textL
    rw [if_pos hok, hz2]
    exact ht
theorem cmany_row (x1 x2 x3 y1 y2 y3 : UInt8) (hx1 : 128 ≤ x1.toNat) (hx2 : 128 ≤ x2.toNat) (hx3 : x3.toNat < 128) (hy1 : 128 ≤ y1.toNat) (hy2 : 128 ≤ y2.toNat) (hy3 : y3.toNat < 128) (a b : Nat) (ha : x1.toNat % 128 + 128 * (x2.toNat % 128 + 128 * x3.toNat) = a) (hb : y1.toNat % 128 + 128 * (y2.toNat % 128 + 128 * y3.toNat) = b)
    (w : World) (hw : Env w) (m : Img) (hd : BIn w m oneSegs) (N : Nat) (q : Int) (h : (N = 3 ∧ q = 11 ∧ 20000 < a) ∨ (N = 4 ∧ q = 11 ∧ a ≤ 20000 ∧ 20000 < a + b) ∨ (N = 5 ∧ q = 0 ∧ a + b ≤ 20000)) :
    BRow w (cB x1 x2 x3 y1 y2 y3) m cP cOp cIm cFn N q (fun _ b' i so W => FB W (b' + 1) so.v (cL a b i)) (fun bc b' i W => ∃ imm, BSt w (cB x1 x2 x3 y1 y2 y3) m imm (cP i) (cF a b i) (cIs i) false (cL a b i) bc b' W) := by
  have hN : N ≤ 5 := by omega
  have ha2 : a < 2097152 := by omega
  have hb2 : b < 2097152 := by omega
  have v1 : lebV ulebR ⟨cB x1 x2 x3 y1 y2 y3, 5, false, false⟩ = ((0 : Nat) : Int) ∧ lebS ulebR ⟨cB x1 x2 x3 y1 y2 y3, 5, false, false⟩ = ⟨cB x1 x2 x3 y1 y2 y3, 6, false, false⟩ := lebV1 _ 5 false 0 _ rfl (by decide)
  have v2 := lebV3 (cB x1 x2 x3 y1 y2 y3) 7 false x1 x2 x3 _ rfl hx1 hx2 hx3
  have v3 : lebV ulebR ⟨cB x1 x2 x3 y1 y2 y3, 10, false, false⟩ = ((0 : Nat) : Int) ∧ lebS ulebR ⟨cB x1 x2 x3 y1 y2 y3, 10, false, false⟩ = ⟨cB x1 x2 x3 y1 y2 y3, 11, false, false⟩ := lebV1 _ 10 false 0 _ rfl (by decide)
  have v4 := lebV3 (cB x1 x2 x3 y1 y2 y3) 12 false y1 y2 y3 _ rfl hy1 hy2 hy3
  have v5 : lebV ulebR ⟨cB x1 x2 x3 y1 y2 y3, 15, false, false⟩ = ((0 : Nat) : Int) ∧ lebS ulebR ⟨cB x1 x2 x3 y1 y2 y3, 15, false, false⟩ = ⟨cB x1 x2 x3 y1 y2 y3, 16, false, false⟩ := lebV1 _ 15 false 0 _ rfl (by decide)
  have vt := text_at (cB x1 x2 x3 y1 y2 y3) 2 1 [97] rfl (by decide) rfl
  rw [ha] at v2
  rw [hb] at v4
  have f3 : (([] : List Fx) ++ bndW fB2 0 a).length = a := by rw [List.nil_append, bndW_len]
  refine ⟨fun bc b' W h1 h2 h3 h4 h5 => ⟨0, BSt.start hw h1 h2 h3 h4 h5⟩, rfl, fun bc b' i W W' ⟨im, hs⟩ k => ⟨im, hs.pure k⟩, fun bc b' i so W W' hk k => Lay.Buf.pure hk k, fun bc b' i W ⟨im, hs⟩ => hs.isR 16 (fun _ => rfl), fun i => ?_, fun i hi => ?_, fun i hi hl => ?_, fun i hi hl => ?_, fun bc b' i W0 W hi ⟨im, hs⟩ k hc => ?_, ?_⟩
  · match i with
    | 0 => exact (by decide : (0 : Nat) ≤ 16)
    | 1 => exact (by decide : (1 : Nat) ≤ 16)
    | 2 => exact (by decide : (4 : Nat) ≤ 16)
    | 3 => exact (by decide : (6 : Nat) ≤ 16)
    | 4 => exact (by decide : (11 : Nat) ≤ 16)
    | _ + 5 => exact (by decide : (16 : Nat) ≤ 16)
  · match i, hi with
    | 0, _ => exact (by decide : (0 : Nat) < 16 ∧ (0 : Nat) < 1)
    | 1, _ => exact (by decide : (1 : Nat) < 16 ∧ (1 : Nat) < 4)
    | 2, _ => exact (by decide : (4 : Nat) < 16 ∧ (4 : Nat) < 6)
    | 3, _ => exact (by decide : (6 : Nat) < 16 ∧ (6 : Nat) < 11)
    | 4, _ => exact (by decide : (11 : Nat) < 16 ∧ (11 : Nat) < 16)
    | _ + 5, hi => omega
  · match i, hl with
    | 0, _ => exact ⟨rfl, by decide, by decide⟩
    | 1, _ => exact ⟨rfl, by decide, by decide⟩
    | 2, _ => exact ⟨rfl, by decide, by decide⟩
    | 3, _ => exact ⟨rfl, by decide, by decide⟩
    | 4, _ => exact ⟨rfl, by decide, by decide⟩
    | _ + 5, hl => exact absurd hl (by show ¬ (16 : Nat) < 16; decide)
  · match i, hl with
    | 0, _ => exact ⟨rfl, hcfSp⟩
    | 1, _ => exact ⟨rfl, hcfSy⟩
    | 2, _ => exact ⟨rfl, hcfPl⟩
    | 3, _ => exact ⟨rfl, hcfMa⟩
    | 4, _ => exact ⟨rfl, hcfMa⟩
    | _ + 5, hl => exact absurd hl (by show ¬ (16 : Nat) < 16; decide)
  · have ht := hs.took hw k hc (cIm i : Nat)
    match i, hi, hs, ht with
    | 0, _, _, ht =>
      refine (BSt.special ht hw).mono ?_
      rintro e w' ⟨rfl, h1, h2⟩
      exact ⟨rfl, ⟨_, h1⟩, h2⟩
    | 1, _, _, ht =>
      refine (BSt.symbol ht hw ⟨#[97]⟩ (.inl rfl) vt.1 (congrArg (fun l : List UInt8 => (⟨l.toArray⟩ : ByteArray)) vt.2)).mono ?_
      rintro e w' ⟨rfl, h1, h2⟩
      exact ⟨rfl, ⟨_, h1⟩, h2⟩
    | 2, _, _, ht =>
      refine (BSt.place (im := 0) ht hw hd (by decide) v1 oneSegs_place).mono ?_
      rintro e w' ⟨rfl, h1, h2⟩
      exact ⟨rfl, ⟨_, h1⟩, h2⟩
    | 3, hi, _, ht =>
      refine (BSt.many ht hw hd rfl symA v2 v3 (by show 0 + 8 * a < 18446744073709551616; omega) (fun j hj => oneSegs_w _ (by show 0 + 8 * j + 8 ≤ 262144; omega)) (by show 0 + a ≤ 20000; omega)).mono ?_
      rintro e w' ⟨rfl, h1, h2⟩
      exact ⟨rfl, ⟨_, h1⟩, h2⟩
    | 4, hi, _, ht =>
      refine (BSt.many ht hw hd rfl symA v4 v5 (by show 0 + 8 * a + 8 * b < 18446744073709551616; omega) (fun j hj => oneSegs_w _ (by show 0 + 8 * a + 8 * j + 8 ≤ 262144; omega)) (by show (([] : List Fx) ++ bndW fB2 0 a).length + b ≤ 20000; rw [f3]; omega)).mono ?_
      rintro e w' ⟨rfl, h1, h2⟩
      exact ⟨rfl, ⟨_, h1⟩, h2⟩
    | _ + 5, hi, _, _ => omega
  · rcases h with ⟨rfl, rfl, h⟩ | ⟨rfl, rfl, h1, h2⟩ | ⟨rfl, rfl, h⟩
    · refine .inr ⟨by decide, by show (6 : Nat) < 16; decide, fun bc b' W0 W ⟨im, hs⟩ k hc => ?_⟩
      exact (hs.took hw k hc _).many_big hw rfl v2 v3 (by omega) (Nat.zero_le _) (by show 20000 < 0 + a; omega)
    · refine .inr ⟨by decide, by show (11 : Nat) < 16; decide, fun bc b' W0 W ⟨im, hs⟩ k hc => ?_⟩
      exact (hs.took hw k hc _).many_big hw rfl v4 v5 (by omega) (by show (([] : List Fx) ++ bndW fB2 0 a).length ≤ 20000; rw [f3]; omega) (by show 20000 < (([] : List Fx) ++ bndW fB2 0 a).length + b; rw [f3]; omega)
    · exact .inl ⟨rfl, rfl⟩
end Go.Proofs.YtppbcgffdpdklaaGreatDoor
