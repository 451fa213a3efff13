/- Lemmas, laid together: part 34 of 39. Conditions: none but each lemma's own. -/
import Derived.Test.YtppbcgffdpdklaaGreatDoorJ33
/- bind.Decode of the chapter's streams; BindMany's results. -/
namespace Go.Proofs.YtppbcgffdpdklaaGreatDoor
open Go.RowKit
set_option maxRecDepth 100000

def tw4 : List Seg := [⟨⟨#[97]⟩, 0, 4096, 0, 4096, 5, ⟨none, 0, 0⟩⟩, ⟨⟨#[98]⟩, 4096, 4096, 0, 0, 3, ⟨none, 0, 0⟩⟩]
theorem tw4B : SegsB tw4 := by
  intro k hk
  have : k = 0 ∨ k = 1 := by simp [tw4] at hk; omega
  rcases this with rfl | rfl
  · show SegB (⟨⟨#[97]⟩, 0, 4096, 0, 4096, 5, ⟨none, 0, 0⟩⟩ : Seg)
    unfold SegB
    simp
  · show SegB (⟨⟨#[98]⟩, 4096, 4096, 0, 0, 3, ⟨none, 0, 0⟩⟩ : Seg)
    unfold SegB
    simp
theorem tw4_at (A : Nat) (h0 : 4096 ≤ A) (h : A < 8192) : atS tw4 (A : Int) = some 1 := by
  have d1 : decide ((4096 : Int) ≤ (A : Int)) = true := by rw [decide_eq_true_iff]; omega
  have d2 : decide ((A : Int) - 4096 < 4096) = true := by rw [decide_eq_true_iff]; omega
  have d3 : decide ((A : Int) - 0 < 4096) = false := by rw [decide_eq_false_iff_not]; omega
  refine idx_some (d := Seg.zero) (by decide) ?_ (fun j hj => ?_)
  · show (!(decide ((3 : Int) = 0) && decide ((0 : Int) = 0)) && (decide ((4096 : Int) ≤ (A : Int)) && decide ((A : Int) - 4096 < 4096))) = true
    rw [d1, d2]
    rfl
  · obtain rfl : j = 0 := by omega
    show (!(decide ((5 : Int) = 0) && decide ((4096 : Int) = 0)) && (decide ((0 : Int) ≤ (A : Int)) && decide ((A : Int) - 0 < 4096))) = false
    rw [d3, Bool.and_false, Bool.and_false]
theorem tw4_w (A : Nat) (h0 : 4096 ≤ A) (h : A + 8 ≤ 8192) : writS tw4 (A : Int) 8 = true := by
  have hd : decide ((8 : Int) ≤ 4096 - ((A : Int) - 4096)) = true := by
    rw [decide_eq_true_iff]
    omega
  unfold writS
  rw [tw4_at A h0 (by omega)]
  show (!((8 : Int) == 0) && (protS 3 && decide ((8 : Int) ≤ 4096 - ((A : Int) - 4096)))) = true
  rw [hd, protS3]
  rfl
theorem tw4_place : placeS tw4 1 0 = (4096, 0) := by
  unfold placeS tw4 holeS
  simp
  decide
def dP : Nat → Nat | 0 => 0 | 1 => 1 | 2 => 5 | 3 => 7 | 4 => 8 | _ => 9
def dOp : Nat → Nat | 0 => 1 | 1 => 4 | 2 => 7 | 3 => 9 | _ => 0
def dIm : Nat → Nat | 0 => 1 | 1 => 0 | 2 => 1 | _ => 0
def dFn : Nat → Nat | 0 => 21 | 1 => 24 | 2 => 27 | 3 => 29 | _ => 20
def fD1 : Fx := { fB0 with ord := ((1 : Nat) : Int) }
def fD2 : Fx := { fD1 with sym := ⟨#[95, 97]⟩, weak := false }
def fD3 : Fx := { fD2 with at_ := ((4096 : Nat) : Int) }
def dF : Nat → Fx | 0 => fB0 | 1 => fD1 | 2 => fD2 | 3 => fD3 | _ => { fD3 with at_ := ((4096 + 8 * 1 : Nat) : Int) }
def dIs : Nat → Bool | 0 => false | 1 => false | 2 => false | _ => true
def dEn : Nat → Bool | 0 => false | 1 => false | 2 => false | 3 => false | 4 => false | _ => true
def dL : Nat → List Fx | 0 => [] | 1 => [] | 2 => [] | 3 => [] | _ => [] ++ bndW fD3 4096 1
def dB : List UInt8 := [17, 64, 95, 97, 0, 113, 0, 144, 0]
theorem dknown_row (w : World) (hw : Env w) (m : Img) (hd : BIn w m tw4) (hm : m.deps.n = 1) :
    BRow w dB m dP dOp dIm dFn 5 0 (fun _ b' i so W => FB W (b' + 1) so.v (dL i)) (fun bc b' i W => ∃ imm, BSt w dB m imm (dP i) (dF i) (dIs i) (dEn i) (dL i) bc b' W) := by
  have v1 : lebV ulebR ⟨dB, 6, false, false⟩ = ((0 : Nat) : Int) ∧ lebS ulebR ⟨dB, 6, false, false⟩ = ⟨dB, 7, false, false⟩ := lebV1 _ 6 false 0 _ rfl (by decide)
  have vt := text_at dB 2 2 [95, 97] rfl (by decide) rfl
  refine ⟨fun bc b' W h1 h2 h3 h4 h5 => ⟨0, BSt.start hw h1 h2 h3 h4 h5⟩, rfl, fun bc b' i W W' ⟨im, hs⟩ k => ⟨im, hs.pure k⟩, fun bc b' i so W W' hk k => Lay.Buf.pure hk k, fun bc b' i W ⟨im, hs⟩ => hs.isR 9 (fun hp => ?_), fun i => ?_, fun i hi => ?_, fun i hi hl => ?_, fun i hi hl => ?_, fun bc b' i W0 W hi ⟨im, hs⟩ k hc => ?_, .inl ⟨rfl, rfl⟩⟩
  · match i, hp with
    | 0, _ => rfl
    | 1, _ => rfl
    | 2, _ => rfl
    | 3, _ => rfl
    | 4, _ => rfl
    | _ + 5, hp => exact absurd hp (by show ¬ (9 : Nat) < 9; decide)
  · match i with
    | 0 => exact (by decide : (0 : Nat) ≤ 9)
    | 1 => exact (by decide : (1 : Nat) ≤ 9)
    | 2 => exact (by decide : (5 : Nat) ≤ 9)
    | 3 => exact (by decide : (7 : Nat) ≤ 9)
    | 4 => exact (by decide : (8 : Nat) ≤ 9)
    | _ + 5 => exact (by decide : (9 : Nat) ≤ 9)
  · match i, hi with
    | 0, _ => exact (by decide : (0 : Nat) < 9 ∧ (0 : Nat) < 1)
    | 1, _ => exact (by decide : (1 : Nat) < 9 ∧ (1 : Nat) < 5)
    | 2, _ => exact (by decide : (5 : Nat) < 9 ∧ (5 : Nat) < 7)
    | 3, _ => exact (by decide : (7 : Nat) < 9 ∧ (7 : Nat) < 8)
    | 4, _ => exact (by decide : (8 : Nat) < 9 ∧ (8 : Nat) < 9)
    | _ + 5, hi => omega
  · match i, hl with
    | 0, _ => exact ⟨rfl, by decide, by decide⟩
    | 1, _ => exact ⟨rfl, by decide, by decide⟩
    | 2, _ => exact ⟨rfl, by decide, by decide⟩
    | 3, _ => exact ⟨rfl, by decide, by decide⟩
    | 4, _ => exact ⟨rfl, by decide, by decide⟩
    | _ + 5, hl => exact absurd hl (by show ¬ (9 : Nat) < 9; decide)
  · match i, hl with
    | 0, _ => exact ⟨rfl, hcfOr⟩
    | 1, _ => exact ⟨rfl, hcfSy⟩
    | 2, _ => exact ⟨rfl, hcfPl⟩
    | 3, _ => exact ⟨rfl, hcfOn⟩
    | 4, _ => exact ⟨rfl, hcfEn⟩
    | _ + 5, hl => exact absurd hl (by show ¬ (9 : Nat) < 9; decide)
  · have ht := hs.took hw k hc (dIm i : Nat)
    match i, hi, hs, ht with
    | 0, _, _, ht =>
      refine (BSt.ordinal (n := 1) ht hw (by rw [hm]; decide) (by decide) (by rw [hm]; decide)).mono ?_
      rintro e w' ⟨rfl, h1, h2⟩
      exact ⟨rfl, ⟨_, h1⟩, h2⟩
    | 1, _, _, ht =>
      refine (BSt.symbol ht hw ⟨#[95, 97]⟩ (.inr rfl) vt.1 (congrArg (fun l : List UInt8 => (⟨l.toArray⟩ : ByteArray)) vt.2)).mono ?_
      rintro e w' ⟨rfl, h1, h2⟩
      exact ⟨rfl, ⟨_, h1⟩, h2⟩
    | 2, _, _, ht =>
      refine (BSt.place (im := 1) ht hw hd (by decide) v1 tw4_place).mono ?_
      rintro e w' ⟨rfl, h1, h2⟩
      exact ⟨rfl, ⟨_, h1⟩, h2⟩
    | 3, hi, _, ht =>
      refine (BSt.one ht hw hd rfl symB (by decide) (fun j hj => tw4_w _ (by omega) (by omega)) (by show 0 + 1 ≤ 20000; decide)).mono ?_
      rintro e w' ⟨rfl, h1, h2⟩
      exact ⟨rfl, ⟨_, h1⟩, h2⟩
    | 4, hi, _, ht =>
      refine (BSt.endS ht hw).mono ?_
      rintro e w' ⟨rfl, h1, h2⟩
      exact ⟨rfl, ⟨_, h1⟩, h2⟩
    | _ + 5, hi, _, _ => omega
def d14l : List Fx := [fD3]
theorem d14_bnd : ([] : List Fx) ++ bndW fD3 4096 1 = d14l := rfl
theorem Decode_b1 (w : World) (hw : Env w) (m : Img) (hd : BIn w m tw4) (hm : m.deps.n = 1) (stv : Value) (hst : Rd w stv (bytesV dB)) :
    Calls Tryz.prog 5 #[imgL.val m, .int .i64 1, stv] w fun e w' => ∃ so : SlV, e = .returned (.tuple #[so.v, .int .i64 0]) ∧ Chg [] w w' ∧ FB w' w.heap.size so.v d14l := by
  refine (Decode_rowB m stv dB (by decide) w hst dP dOp dIm dFn 5 0 (fun _ _ b' i so W => FB W (b' + 1) so.v (dL i)) (fun w1 bc b' i W => ∃ imm, BSt w1 dB m imm (dP i) (dF i) (dIs i) (dEn i) (dL i) bc b' W) (fun w1 k => dknown_row w1 (hw.frame k (by simp)) m ⟨hd.hls, hd.rd.frame k, fun i hi => Nat.lt_of_lt_of_le (hd.o1 i hi) k.size⟩ hm)).mono ?_
  rintro e w' ⟨so, rfl, hc, _, h2⟩
  obtain ⟨w1, bc, b', W0, S, k1, h3, h4, _, hk, h5, h6⟩ := h2 rfl
  refine ⟨so, rfl, hc, ?_⟩
  have hk' : FB W0 (b' + 1) so.v d14l := hk
  exact (hk'.frame h5 (fun k hk2 hm2 => by have := (hk'.lt k hk2).1; have := h6 k hm2; omega)).mono (by have := k1.size; omega)
def eP : Nat → Nat | 0 => 0 | _ => 2
def eOp : Nat → Nat | 0 => 7 | _ => 9
def eIm : Nat → Nat | 0 => 1 | _ => 0
def eFn : Nat → Nat | 0 => 27 | _ => 29
def eF : Nat → Fx | 0 => fB0 | _ => { fB0 with at_ := ((4096 : Nat) : Int) }
def eIs : Nat → Bool | 0 => false | _ => true
theorem eknown_row (w : World) (hw : Env w) (m : Img) (hd : BIn w m tw4) :
    BRow w [113, 0, 144] m eP eOp eIm eFn 1 14 (fun _ b' _ so W => FB W (b' + 1) so.v []) (fun bc b' i W => ∃ imm, BSt w [113, 0, 144] m imm (eP i) (eF i) (eIs i) false [] bc b' W) := by
  have v1 : lebV ulebR ⟨[113, 0, 144], 1, false, false⟩ = ((0 : Nat) : Int) ∧ lebS ulebR ⟨[113, 0, 144], 1, false, false⟩ = ⟨[113, 0, 144], 2, false, false⟩ := lebV1 _ 1 false 0 _ rfl (by decide)
  refine ⟨fun bc b' W h1 h2 h3 h4 h5 => ⟨0, BSt.start hw h1 h2 h3 h4 h5⟩, rfl, fun bc b' i W W' ⟨im, hs⟩ k => ⟨im, hs.pure k⟩, fun bc b' i so W W' hk k => Lay.Buf.pure hk k, fun bc b' i W ⟨im, hs⟩ => hs.isR 3 (fun _ => rfl), fun i => ?_, fun i hi => ?_, fun i hi hl => ?_, fun i hi hl => ?_, fun bc b' i W0 W hi ⟨im, hs⟩ k hc => ?_, ?_⟩
  · match i with
    | 0 => exact (by decide : (0 : Nat) ≤ 3)
    | _ + 1 => exact (by decide : (2 : Nat) ≤ 3)
  · obtain rfl : i = 0 := by omega
    exact (by decide : (0 : Nat) < 3 ∧ (0 : Nat) < 2)
  · match i, hi with
    | 0, _ => exact ⟨rfl, by decide, by decide⟩
    | 1, _ => exact ⟨rfl, by decide, by decide⟩
    | _ + 2, hi => omega
  · match i, hi with
    | 0, _ => exact ⟨rfl, hcfPl⟩
    | 1, _ => exact ⟨rfl, hcfOn⟩
    | _ + 2, hi => omega
  · obtain rfl : i = 0 := by omega
    have ht := hs.took hw k hc (eIm 0 : Nat)
    refine (BSt.place (im := 1) ht hw hd (by decide) v1 tw4_place).mono ?_
    rintro e w' ⟨rfl, h1, h2⟩
    exact ⟨rfl, ⟨_, h1⟩, h2⟩
  · refine .inr ⟨by decide, by show (2 : Nat) < 3; decide, fun bc b' W0 W ⟨im, hs⟩ k hc => ?_⟩
    exact (hs.took hw k hc _).one_not rfl
theorem Decode_b2 (w : World) (hw : Env w) (m : Img) (hd : BIn w m tw4) (stv : Value) (hst : Rd w stv (bytesV [113, 0, 144])) :
    Calls Tryz.prog 5 #[imgL.val m, .int .i64 1, stv] w fun e w' => e = .returned (.tuple #[.slice none 0 0, .int .i64 14]) ∧ Chg [] w w' := by
  refine (Decode_rowB m stv [113, 0, 144] (by decide) w hst eP eOp eIm eFn 1 14 (fun _ _ b' _ so W => FB W (b' + 1) so.v []) (fun w1 bc b' i W => ∃ imm, BSt w1 [113, 0, 144] m imm (eP i) (eF i) (eIs i) false [] bc b' W) (fun w1 k => eknown_row w1 (hw.frame k (by simp)) m ⟨hd.hls, hd.rd.frame k, fun i hi => Nat.lt_of_lt_of_le (hd.o1 i hi) k.size⟩)).mono ?_
  rintro e w' ⟨so, rfl, hc, h1, _⟩
  rw [h1 (by decide)]
  exact ⟨rfl, hc⟩
/-- BindMany's stream. -/
theorem Decode_c (x1 x2 x3 y1 y2 y3 : UInt8) (hx1 : 128 ≤ x1.toNat) (hx2 : 128 ≤ x2.toNat) (hx3 : x3.toNat < 128) (hy1 : 128 ≤ y1.toNat) (hy2 : 128 ≤ y2.toNat) (hy3 : y3.toNat < 128) (a b : Nat) (ha : x1.toNat % 128 + 128 * (x2.toNat % 128 + 128 * x3.toNat) = a) (hb : y1.toNat % 128 + 128 * (y2.toNat % 128 + 128 * y3.toNat) = b)
    (w : World) (hw : Env w) (m : Img) (hd : BIn w m oneSegs) (stv : Value) (hst : Rd w stv (bytesV (cB x1 x2 x3 y1 y2 y3))) (q : Int) (hq : (20000 < a + b ∧ q = 11) ∨ (a + b ≤ 20000 ∧ q = 0)) :
    Calls Tryz.prog 5 #[imgL.val m, .int .i64 1, stv] w fun e w' => ∃ so : SlV, e = .returned (.tuple #[so.v, .int .i64 q]) ∧ Chg [] w w' ∧ (q ≠ 0 → so = ⟨none, 0, 0⟩) ∧ (q = 0 → FB w' w.heap.size so.v (bndW fB2 0 (a + b))) := by
  obtain ⟨N, h⟩ : ∃ N, (N = 3 ∧ q = 11 ∧ 20000 < a) ∨ (N = 4 ∧ q = 11 ∧ a ≤ 20000 ∧ 20000 < a + b) ∨ (N = 5 ∧ q = 0 ∧ a + b ≤ 20000) := by
    by_cases h1 : 20000 < a
    · exact ⟨3, .inl ⟨rfl, by omega, h1⟩⟩
    · by_cases h2 : 20000 < a + b
      · exact ⟨4, .inr (.inl ⟨rfl, by omega, by omega, h2⟩)⟩
      · exact ⟨5, .inr (.inr ⟨rfl, by omega, by omega⟩)⟩
  refine (Decode_rowB m stv (cB x1 x2 x3 y1 y2 y3) (by show (16 : Nat) ≤ _; decide) w hst cP cOp cIm cFn N q (fun _ _ b' i so W => FB W (b' + 1) so.v (cL a b i)) (fun w1 bc b' i W => ∃ imm, BSt w1 (cB x1 x2 x3 y1 y2 y3) m imm (cP i) (cF a b i) (cIs i) false (cL a b i) bc b' W) (fun w1 k => cmany_row x1 x2 x3 y1 y2 y3 hx1 hx2 hx3 hy1 hy2 hy3 a b ha hb w1 (hw.frame k (by simp)) m ⟨hd.hls, hd.rd.frame k, fun i hi => Nat.lt_of_lt_of_le (hd.o1 i hi) k.size⟩ N q h)).mono ?_
  rintro e w' ⟨so, rfl, hc, h1, h2⟩
  refine ⟨so, rfl, hc, h1, fun hq0 => ?_⟩
  obtain ⟨w1, bc, b', W0, S, k1, h3, h4, _, hk, h5, h6⟩ := h2 hq0
  have hN : N = 5 := by
    rcases h with ⟨_, h, _⟩ | ⟨_, h, _⟩ | ⟨h, _⟩
    · exact absurd (hq0.symm.trans h) (by decide)
    · exact absurd (hq0.symm.trans h) (by decide)
    · exact h
  subst hN
  have hk' : FB W0 (b' + 1) so.v (bndW fB2 0 (a + b)) := by
    have h7 : FB W0 (b' + 1) so.v (([] ++ bndW fB2 0 a) ++ bndW fB2 (0 + 8 * a) b) := hk
    rw [List.nil_append, bndW_add] at h7
    exact h7
  exact (hk'.frame h5 (fun k hk2 hm2 => by have := (hk'.lt k hk2).1; have := h6 k hm2; omega)).mono (by have := k1.size; omega)
end Go.Proofs.YtppbcgffdpdklaaGreatDoor
