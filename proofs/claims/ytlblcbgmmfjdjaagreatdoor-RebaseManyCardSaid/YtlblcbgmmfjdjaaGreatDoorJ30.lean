/- Lemmas, laid together: part 30 of 35. Conditions: none but each lemma's own. -/
import Derived.Test.YtlblcbgmmfjdjaaGreatDoorJ29
/- rebase.Decode of the chapter's two streams. -/
namespace Go.Proofs.YtlblcbgmmfjdjaaGreatDoor
open Go.RowKit
set_option maxRecDepth 100000

set_option maxHeartbeats 2000000 in
theorem step_not (b bc : Nat) (r : Rdr) (imm : Nat) (s : CS) (ht : r.typ = 0) (hc : r.c = some ⟨bc, 0, none⟩) (w : World) (hcur : CurB w bc s) (hf : s.failed = false) (hb : rdrL.Box w b r) :
    Calls Tryz.prog 11 #[.pointer (some ⟨b, 0, none⟩), .int .u8 5, .int .u8 imm] w fun e w' => e = .returned (.int .i64 14) ∧ Chg [] w w' := by
  have HNU := Lib.hid (fun w => numbers_any 5 (by decide) w)
  have HER := Lib.hid (fun w hcur => Err_ok bc s w hcur hf)
  have HRE := Lib.hid (fun w hb => ready_any b r 5 (by decide) w hb)
  rw [show readyOf 5 r.typ r.is_ = false by rw [ht]; rfl] at HRE
  have HC := Lib.hid hcur
  have Hb := Lib.hid hb
  have Hf := Lib.hid hf
  have Ht := Lib.hid ht
  clear hcur hb hf ht
  go_enter Tryz.func11, Tryz.ntmps11
  go_wp2_with fail
  refine (HNU.out _).mono ?_
  rintro e W1 ⟨rfl, h1⟩
  rw [show ((numsOf 5 : Nat) : Int) = 0 from rfl]
  have C1 : Hid (Chg [] w W1) := Lib.hid (((Chg.refl [] w).alloc _).then h1)
  clear h1
  go_wp2_with fail
  go_loopw [13] (fun s13 wr => s13 = .int .i64 0 ∧ wr = W1) (fun _ _ => 0)
  case atStart => exact ⟨rfl, rfl⟩
  case round =>
    obtain ⟨rfl, rfl⟩ := hrel
    have B1 := Lib.hid (Hb.out.frame C1.out)
    have x0 := Rdr.c_c B1.out
    rw [hc] at x0
    go_wp2_with fail
    refine (HER.out _ (HC.out.frame C1.out)).mono ?_
    rintro e W2 ⟨rfl, h2⟩
    have C2 := Lib.hid (C1.out.then h2)
    clear h2
    go_wp2_with fail
    refine (HRE.out _ (Hb.out.frame C2.out)).mono ?_
    rintro e W3 ⟨rfl, h3⟩
    have C3 := Lib.hid (C2.out.then h3)
    clear h3 x0
    go_wp2
    go_ret
    exact ⟨rfl, C3.out⟩
theorem DSt.not5 {w W : World} {B : List UInt8} {c0 : Rdr} {p A : Nat} {is_ : Bool} {fs : List Fx} {bc b : Nat} (h : DSt w B c0 p A is_ 0 fs bc b W) (imm : Nat) :
    Calls Tryz.prog 11 #[.pointer (some ⟨b, 0, none⟩), .int .u8 5, .int .u8 imm] W fun e w' => e = .returned (.int .i64 14) ∧ Chg [] w w' := by
  obtain ⟨so, h1, _⟩ := h.box
  refine (step_not b bc _ imm _ rfl rfl W h.cur rfl h1).mono ?_
  rintro e w' ⟨rfl, hc⟩
  exact ⟨rfl, h.chg.then hc⟩
theorem twoSegsB : SegsB twoSegs := by
  intro k hk
  have : k = 0 ∨ k = 1 := by simp [twoSegs] at hk; omega
  rcases this with rfl | rfl
  · show SegB (⟨⟨#[97]⟩, 0, 4096, 0, 4096, 5, ⟨none, 0, 0⟩⟩ : Seg)
    unfold SegB
    simp
  · show SegB (⟨⟨#[98]⟩, 4096, 4096, 4096, 16, 3, ⟨none, 0, 0⟩⟩ : Seg)
    unfold SegB
    simp
theorem twoSegs_at (A : Nat) (h0 : 4096 ≤ A) (h : A < 8192) : atS twoSegs (A : Int) = some 1 := by
  have d1 : decide ((4096 : Int) ≤ (A : Int)) = true := by rw [decide_eq_true_iff]; omega
  have d2 : decide ((A : Int) - 4096 < 4096) = true := by rw [decide_eq_true_iff]; omega
  have d3 : decide ((A : Int) - 0 < 4096) = false := by rw [decide_eq_false_iff_not]; omega
  refine idx_some (d := Seg.zero) (by decide) ?_ (fun j hj => ?_)
  · show (!(decide ((3 : Int) = 0) && decide ((16 : Int) = 0)) && (decide ((4096 : Int) ≤ (A : Int)) && decide ((A : Int) - 4096 < 4096))) = true
    rw [d1, d2]
    rfl
  · obtain rfl : j = 0 := by omega
    show (!(decide ((5 : Int) = 0) && decide ((4096 : Int) = 0)) && (decide ((0 : Int) ≤ (A : Int)) && decide ((A : Int) - 0 < 4096))) = false
    rw [d3, Bool.and_false, Bool.and_false]
theorem twoSegs_w (A : Nat) (h0 : 4096 ≤ A) (h : A + 8 ≤ 8192) : writS twoSegs (A : Int) 8 = true := by
  have hd : decide ((8 : Int) ≤ 4096 - ((A : Int) - 4096)) = true := by
    rw [decide_eq_true_iff]
    omega
  unfold writS
  rw [twoSegs_at A h0 (by omega)]
  show (!((8 : Int) == 0) && (protS 3 && decide ((8 : Int) ≤ 4096 - ((A : Int) - 4096)))) = true
  rw [hd, protS3]
  rfl
theorem twoSegs_place : placeS twoSegs 1 0 = (4096, 0) := by
  unfold placeS twoSegs holeS
  simp
  decide
def slice13 : List UInt8 := List.replicate 4096 0 ++ [7, 0, 0, 0, 0, 0, 0, 0, 9, 0, 0, 0, 0, 0, 0, 0]
theorem slice13_part : partS slice13 4096 16 = [7, 0, 0, 0, 0, 0, 0, 0, 9, 0, 0, 0, 0, 0, 0, 0] := by
  have hl : slice13.length = 4112 := by unfold slice13; rw [List.length_append, List.length_replicate]; rfl
  unfold partS
  rw [hl, if_neg (by decide), if_pos (by decide)]
  unfold slice13
  rw [List.drop_left' (by rw [List.length_replicate])]
  rfl
theorem slice13_word (A n : Nat) (h0 : 4096 ≤ A) (h : A + 8 ≤ 4112) (hn : leNum (pad8 [7, 0, 0, 0, 0, 0, 0, 0, 9, 0, 0, 0, 0, 0, 0, 0] (A - 4096)) = n) : wordS twoSegs slice13 (A : Int) = ((n : Int), 0) := by
  unfold wordS
  rw [twoSegs_at A h0 (by omega)]
  show (if (4096 : Int) - ((A : Int) - 4096) < 8 then ((0 : Int), (4 : Int)) else (padI (partS slice13 4096 16) ((A : Int) - 4096).toNat, 0)) = _
  rw [if_neg (by omega), slice13_part, show ((A : Int) - 4096).toNat = A - 4096 by omega]
  unfold padI
  rw [hn]
def known13l : List Fx := [rebF 4096 7, rebF 4104 9]
theorem known13_reb : rebW twoSegs slice13 4096 2 = known13l := by
  show [rebF (((4096 + 8 * 0 : Nat)) : Int) (wordS twoSegs slice13 ((4096 + 8 * 0 : Nat) : Int)).1, rebF (((4096 + 8 * 1 : Nat)) : Int) (wordS twoSegs slice13 ((4096 + 8 * 1 : Nat) : Int)).1] = _
  rw [slice13_word (4096 + 8 * 0) 7 (by decide) (by decide) (by decide), slice13_word (4096 + 8 * 1) 9 (by decide) (by decide) (by decide)]
  rfl
def kP : Nat → Nat | 0 => 0 | 1 => 1 | 2 => 3 | _ => 4
def kOp : Nat → Nat | 0 => 1 | 1 => 2 | 2 => 5 | _ => 0
def kIm : Nat → Nat | 0 => 1 | 1 => 1 | 2 => 2 | _ => 0
def kA : Nat → Nat | 0 => 0 | 1 => 0 | 2 => 4096 | _ => 4096 + 8 * 2
def kF : Nat → List Fx | 0 => [] | 1 => [] | 2 => [] | _ => [] ++ rebW twoSegs slice13 4096 2
def kB : List UInt8 := [17, 33, 0, 82, 0]
theorem known_row (w : World) (hw : Env w) (slv : SlV) (m : Img) (hd : DIn w { Rdr.zero with sl := slv, m := m } twoSegs slice13) :
    DRow w kB { Rdr.zero with sl := slv, m := m } kP kOp kIm 3 0 (fun _ b' i so W => FB W (b' + 1) so.v (kF i)) (fun bc b' i W => DSt w kB { Rdr.zero with sl := slv, m := m } (kP i) (kA i) (mIs i) (mTy i) (kF i) bc b' W) := by
  have v1 : lebV ulebR ⟨kB, 2, false, false⟩ = ((0 : Nat) : Int) ∧ lebS ulebR ⟨kB, 2, false, false⟩ = ⟨kB, 3, false, false⟩ := lebV1 _ 2 false 0 _ rfl (by decide)
  refine ⟨fun bc b' W h1 h2 h3 h4 h5 => DSt.start hw h1 h2 h3 h4 h5, rfl, fun bc b' i W hs => hs.isR, fun i => ?_, fun i hi => ?_, fun i hi hl => ?_, fun i hi => ?_, fun bc b' i W0 W hi hs k hc => ?_, ?_⟩
  · match i with
    | 0 => exact (by decide : (0 : Nat) ≤ 5)
    | 1 => exact (by decide : (1 : Nat) ≤ 5)
    | 2 => exact (by decide : (3 : Nat) ≤ 5)
    | _ + 3 => exact (by decide : (4 : Nat) ≤ 5)
  · match i, hi with
    | 0, _ => exact (by decide : (0 : Nat) < 5 ∧ (0 : Nat) < 1)
    | 1, _ => exact (by decide : (1 : Nat) < 5 ∧ (1 : Nat) < 3)
    | 2, _ => exact (by decide : (3 : Nat) < 5 ∧ (3 : Nat) < 4)
    | _ + 3, hi => omega
  · match i, hi with
    | 0, _ => exact ⟨rfl, by decide, by decide⟩
    | 1, _ => exact ⟨rfl, by decide, by decide⟩
    | 2, _ => exact ⟨rfl, by decide, by decide⟩
    | 3, _ => exact ⟨rfl, by decide, by decide⟩
    | _ + 4, hi => omega
  · match i, hi with
    | 0, _ => decide
    | 1, _ => decide
    | 2, _ => decide
    | _ + 3, hi => omega
  · have ht := hs.took hw k hc
    match i, hi, hs, ht with
    | 0, _, _, ht => exact ht.typ1 hw 1
    | 1, _, _, ht => exact ht.place2 hw hd 1 (by decide) v1 twoSegs_place
    | 2, hi, _, ht => exact ht.imm5 hw hd 2 (by decide) (by show 4096 + 8 * 2 < 18446744073709551616; decide) (fun j hj => twoSegs_w _ (by show 4096 ≤ 4096 + 8 * j; omega) (by show 4096 + 8 * j + 8 ≤ 8192; omega)) (by show 0 + 2 ≤ 20000; decide) (by decide)
    | _ + 3, hi, _, _ => omega
  · exact .inl ⟨rfl, fun _ => rfl⟩
theorem Decode_k1 (w : World) (hw : Env w) (slv : SlV) (m : Img) (hd : DIn w { Rdr.zero with sl := slv, m := m } twoSegs slice13) (stv : Value) (hst : Rd w stv (bytesV kB)) :
    Calls Tryz.prog 5 #[slv.v, imgL.val m, stv] w fun e w' => ∃ so : SlV, e = .returned (.tuple #[so.v, .int .i64 0]) ∧ Chg [] w w' ∧ FB w' w.heap.size so.v known13l := by
  refine (Decode_row slv m stv kB (by show (5 : Nat) ≤ _; decide) w hst kP kOp kIm 3 0 _ _ (known_row w hw slv m hd)).mono ?_
  rintro e w' ⟨so, rfl, hc, _, h2⟩
  obtain ⟨bc, b', W0, _, hk, h3, h4, h5⟩ := h2 rfl
  refine ⟨so, rfl, hc, ?_⟩
  rw [← known13_reb]
  exact ((hk : FB W0 (b' + 1) so.v ([] ++ rebW twoSegs slice13 4096 2)).frame h5 (fun k hk' hm => by have := (hk.lt k hk').1; simp at hm; omega)).mono (by omega)
theorem known_row2 (w : World) (hw : Env w) (slv : SlV) (m : Img) :
    DRow w [81] { Rdr.zero with sl := slv, m := m } (fun _ => 0) (fun _ => 5) (fun _ => 1) 0 14 (fun _ b' _ so W => FB W (b' + 1) so.v []) (fun bc b' _ W => DSt w [81] { Rdr.zero with sl := slv, m := m } 0 0 false 0 [] bc b' W) :=
  ⟨fun bc b' W h1 h2 h3 h4 h5 => DSt.start hw h1 h2 h3 h4 h5, rfl, fun bc b' i W hs => hs.isR, fun i => Nat.zero_le _, fun i hi => absurd hi (Nat.not_lt_zero _), fun i hi hl => ⟨rfl, by decide, by decide⟩, fun i hi => absurd hi (Nat.not_lt_zero _), fun bc b' i W0 W hi => absurd hi (Nat.not_lt_zero _), .inr ⟨by decide, by decide, by decide, fun bc b' W0 W hs k hc => (hs.took hw k hc).not5 1⟩⟩
theorem Decode_k2 (w : World) (hw : Env w) (slv : SlV) (m : Img) (stv : Value) (hst : Rd w stv (bytesV [81])) :
    Calls Tryz.prog 5 #[slv.v, imgL.val m, stv] w fun e w' => e = .returned (.tuple #[.slice none 0 0, .int .i64 14]) ∧ Chg [] w w' := by
  refine (Decode_row slv m stv [81] (by decide) w hst _ _ _ 0 14 _ _ (known_row2 w hw slv m)).mono ?_
  rintro e w' ⟨so, rfl, hc, h1, _⟩
  rw [h1 (by decide)]
  exact ⟨rfl, hc⟩
end Go.Proofs.YtlblcbgmmfjdjaaGreatDoor
