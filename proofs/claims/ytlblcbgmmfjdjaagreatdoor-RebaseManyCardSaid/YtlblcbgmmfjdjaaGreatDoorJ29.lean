/- Lemmas, laid together: part 29 of 35. Conditions: none but each lemma's own. -/
import Derived.Test.YtlblcbgmmfjdjaaGreatDoorJ28
import Derived.Test.YtlblcbgmmfjdjaaGreatDoorJ9
import Derived.Test.YtlblcbgmmfjdjaaGreatDoorJ12
import Derived.Test.YtlblcbgmmfjdjaaGreatDoorJ27
import Derived.Test.YtlblcbgmmfjdjaaGreatDoorJ5
/- Plain: a number of three groups, with groups of nothing behind it. -/
namespace Go.Proofs.YtlblcbgmmfjdjaaGreatDoor
open Go.RowKit

theorem uval3 (x y z : UInt8) (r : List UInt8) (hx : 128 ≤ x.toNat) (hy : 128 ≤ y.toNat) (hz : z.toNat < 128) : uvalV (x :: y :: z :: r) = some (x.toNat % 128 + 128 * (y.toNat % 128 + 128 * z.toNat), 3) := by
  have h : szL (x :: y :: z :: r) 0 = 3 := by
    rw [szL, if_neg (by omega), if_neg (by omega), szL, if_neg (by omega), if_neg (by omega), szL, if_neg (by omega), if_pos hz]
  unfold uvalV
  rw [h]
  simp [gsOf, uval, Nat.mod_eq_of_lt hz]
theorem lebV3 (l : List UInt8) (k : Nat) (big : Bool) (x y z : UInt8) (r : List UInt8) (h : l.drop k = x :: y :: z :: r) (hx : 128 ≤ x.toNat) (hy : 128 ≤ y.toNat) (hz : z.toNat < 128) :
    lebV ulebR ⟨l, k, big, false⟩ = ((x.toNat % 128 + 128 * (y.toNat % 128 + 128 * z.toNat) : Nat) : Int) ∧ lebS ulebR ⟨l, k, big, false⟩ = ⟨l, k + 3, big, false⟩ := by
  constructor
  · simp only [lebV, Bool.false_eq_true, if_false, ulebR_eq, h, uval3 x y z r hx hy hz]; rfl
  · simp only [lebS, Bool.false_eq_true, if_false, ulebR_eq, h, uval3 x y z r hx hy hz]; rfl
/-- A number of one group. -/
theorem lebV1 (l : List UInt8) (k : Nat) (big : Bool) (x : UInt8) (r : List UInt8) (h : l.drop k = x :: r) (hx : x.toNat < 128) :
    lebV ulebR ⟨l, k, big, false⟩ = (x.toNat : Int) ∧ lebS ulebR ⟨l, k, big, false⟩ = ⟨l, k + 1, big, false⟩ := by
  have hv : uvalV (x :: r) = some (x.toNat, 1) := by
    have h : szL (x :: r) 0 = 1 := by rw [szL, if_neg (by omega), if_pos hx]
    unfold uvalV
    rw [h]
    simp [gsOf, uval, Nat.mod_eq_of_lt hx]
  constructor
  · simp only [lebV, Bool.false_eq_true, if_false, ulebR_eq, h, hv]; rfl
  · simp only [lebS, Bool.false_eq_true, if_false, ulebR_eq, h, hv]; rfl
end Go.Proofs.YtlblcbgmmfjdjaaGreatDoor
/- Plain: the image of one great segment. -/
namespace Go.Proofs.YtlblcbgmmfjdjaaGreatDoor
open Go.RowKit
set_option maxRecDepth 100000

def oneSegs : List Seg := [⟨⟨#[97]⟩, 0, 262144, 0, 0, 3, ⟨none, 0, 0⟩⟩]
theorem oneSegsB : SegsB oneSegs := by
  intro k hk
  obtain rfl : k = 0 := by simp [oneSegs] at hk; exact hk
  show SegB (⟨⟨#[97]⟩, 0, 262144, 0, 0, 3, ⟨none, 0, 0⟩⟩ : Seg)
  unfold SegB
  simp
theorem oneSegs_at (A : Nat) (h : A < 262144) : atS oneSegs (A : Int) = some 0 := by
  unfold atS oneSegs idx inS holeS
  simp; omega
theorem protS3 : protS 3 = true := by decide
theorem oneSegs_w (A : Nat) (h : A + 8 ≤ 262144) : writS oneSegs (A : Int) 8 = true := by
  have hd : decide ((8 : Int) ≤ 262144 - ((A : Int) - 0)) = true := by
    rw [decide_eq_true_iff]
    omega
  unfold writS
  rw [oneSegs_at A (by omega)]
  show (!((8 : Int) == 0) && (protS 3 && decide ((8 : Int) ≤ 262144 - ((A : Int) - 0)))) = true
  rw [hd, protS3]
  rfl
theorem oneSegs_place : placeS oneSegs 0 0 = (0, 0) := by
  unfold placeS oneSegs holeS
  simp
  decide
end Go.Proofs.YtlblcbgmmfjdjaaGreatDoor
/- rebase.Decode of a stream of two opcodes of so many. -/
namespace Go.Proofs.YtlblcbgmmfjdjaaGreatDoor
open Go.RowKit
set_option maxRecDepth 100000

def mP : Nat → Nat | 0 => 0 | 1 => 1 | 2 => 3 | 3 => 7 | _ => 11
def mOp : Nat → Nat | 0 => 1 | 1 => 2 | _ => 6
def mIm : Nat → Nat | 0 => 1 | _ => 0
def mA (a b : Nat) : Nat → Nat | 0 => 0 | 1 => 0 | 2 => 0 | 3 => 0 + 8 * a | _ => 0 + 8 * a + 8 * b
def mIs : Nat → Bool | 0 => false | 1 => false | _ => true
def mTy : Nat → Int | 0 => 0 | _ => 1
def mF (a b : Nat) : Nat → List Fx | 0 => [] | 1 => [] | 2 => [] | 3 => [] ++ rebW oneSegs [] 0 a | _ => ([] ++ rebW oneSegs [] 0 a) ++ rebW oneSegs [] (0 + 8 * a) b
def mB (x1 x2 x3 y1 y2 y3 : UInt8) : List UInt8 := [17, 32, 0, 96, x1, x2, x3, 96, y1, y2, y3]
theorem DSt.start {w W : World} {B : List UInt8} {slv : SlV} {m : Img} {bc b : Nat} (hw : Env w) (hlo : w.heap.size ≤ bc) (hlt : bc < b) (hc : CurB W bc ⟨B, 0, false, false⟩) (hb : rdrL.Box W b { ({ Rdr.zero with sl := slv, m := m } : Rdr) with c := some ⟨bc, 0, none⟩ }) (k : Chg [] w W) : DSt w B { Rdr.zero with sl := slv, m := m } 0 0 false 0 [] bc b W :=
  ⟨hlo, hlt, hw.frame k (by simp), hc, k, ⟨none, 0, 0⟩, hb, Lay.Buf.nil _ _⟩
theorem DSt.isR {w W : World} {B : List UInt8} {c0 : Rdr} {p A : Nat} {is_ : Bool} {typ : Int} {fs : List Fx} {bc b : Nat} (h : DSt w B c0 p A is_ typ fs bc b W) :
    CurB W bc ⟨B, p, false, false⟩ ∧ Chg [] w W ∧ bc < b ∧ ∃ r, rdrL.Box W b r ∧ r.c = some ⟨bc, 0, none⟩ ∧ FB W (b + 1) r.out.v fs := by
  obtain ⟨so, h1, h2⟩ := h.box
  exact ⟨h.cur, h.chg, h.hi, _, h1, rfl, h2⟩
theorem many_row (x1 x2 x3 y1 y2 y3 : UInt8) (hx1 : 128 ≤ x1.toNat) (hx2 : 128 ≤ x2.toNat) (hx3 : x3.toNat < 128) (hy1 : 128 ≤ y1.toNat) (hy2 : 128 ≤ y2.toNat) (hy3 : y3.toNat < 128) (a b : Nat) (ha : x1.toNat % 128 + 128 * (x2.toNat % 128 + 128 * x3.toNat) = a) (hb : y1.toNat % 128 + 128 * (y2.toNat % 128 + 128 * y3.toNat) = b)
    (w : World) (hw : Env w) (m : Img) (hd : DIn w { Rdr.zero with sl := ⟨none, 0, 0⟩, m := m } oneSegs []) (N : Nat) (q : Int) (h : (N = 2 ∧ q = 11 ∧ 20000 < a) ∨ (N = 3 ∧ q = 11 ∧ a ≤ 20000 ∧ 20000 < a + b) ∨ (N = 4 ∧ q = 0 ∧ a + b ≤ 20000)) :
    DRow w (mB x1 x2 x3 y1 y2 y3) { Rdr.zero with sl := ⟨none, 0, 0⟩, m := m } mP mOp mIm N q (fun _ b' i so W => FB W (b' + 1) so.v (mF a b i)) (fun bc b' i W => DSt w (mB x1 x2 x3 y1 y2 y3) { Rdr.zero with sl := ⟨none, 0, 0⟩, m := m } (mP i) (mA a b i) (mIs i) (mTy i) (mF a b i) bc b' W) := by
  have hN : N ≤ 4 := by omega
  have ha2 : a < 2097152 := by omega
  have hb2 : b < 2097152 := by omega
  have v1 : lebV ulebR ⟨mB x1 x2 x3 y1 y2 y3, 2, false, false⟩ = ((0 : Nat) : Int) ∧ lebS ulebR ⟨mB x1 x2 x3 y1 y2 y3, 2, false, false⟩ = ⟨mB x1 x2 x3 y1 y2 y3, 3, false, false⟩ := lebV1 _ 2 false 0 _ rfl (by decide)
  have v2 := lebV3 (mB x1 x2 x3 y1 y2 y3) 4 false x1 x2 x3 _ rfl hx1 hx2 hx3
  have v3 := lebV3 (mB x1 x2 x3 y1 y2 y3) 8 false y1 y2 y3 _ rfl hy1 hy2 hy3
  rw [ha] at v2
  rw [hb] at v3
  have f3 : (([] : List Fx) ++ rebW oneSegs [] 0 a).length = a := by rw [List.nil_append, rebW_len]
  refine ⟨fun bc b' W h1 h2 h3 h4 h5 => DSt.start hw h1 h2 h3 h4 h5, rfl, fun bc b' i W hs => hs.isR, fun i => ?_, fun i hi => ?_, fun i hi hl => ?_, fun i hi => ?_, fun bc b' i W0 W hi hs k hc => ?_, ?_⟩
  · match i with
    | 0 => exact (by decide : (0 : Nat) ≤ 11)
    | 1 => exact (by decide : (1 : Nat) ≤ 11)
    | 2 => exact (by decide : (3 : Nat) ≤ 11)
    | 3 => exact (by decide : (7 : Nat) ≤ 11)
    | _ + 4 => exact (by decide : (11 : Nat) ≤ 11)
  · match i, hi with
    | 0, _ => exact (by decide : (0 : Nat) < 11 ∧ (0 : Nat) < 1)
    | 1, _ => exact (by decide : (1 : Nat) < 11 ∧ (1 : Nat) < 3)
    | 2, _ => exact (by decide : (3 : Nat) < 11 ∧ (3 : Nat) < 7)
    | 3, _ => exact (by decide : (7 : Nat) < 11 ∧ (7 : Nat) < 11)
    | _ + 4, hi => omega
  · match i, hl with
    | 0, _ => exact ⟨rfl, by decide, by decide⟩
    | 1, _ => exact ⟨rfl, by decide, by decide⟩
    | 2, _ => exact ⟨rfl, by decide, by decide⟩
    | 3, _ => exact ⟨rfl, by decide, by decide⟩
    | _ + 4, hl => exact absurd hl (by show ¬ (11 : Nat) < 11; decide)
  · match i, hi with
    | 0, _ => decide
    | 1, _ => decide
    | 2, _ => decide
    | 3, _ => decide
    | _ + 4, _ => exact (by decide : (6 : Nat) ≠ 0)
  · have ht := hs.took hw k hc
    match i, hi, hs, ht with
    | 0, _, _, ht => exact ht.typ1 hw 1
    | 1, _, _, ht => exact ht.place2 hw hd 0 (by decide) v1 oneSegs_place
    | 2, hi, _, ht => exact ht.num6 hw hd 0 v2 (by show 0 + 8 * a < 18446744073709551616; omega) (fun j hj => oneSegs_w _ (by show 0 + 8 * j + 8 ≤ 262144; omega)) (by show 0 + a ≤ 20000; omega)
    | 3, hi, _, ht => exact ht.num6 hw hd 0 v3 (by show 0 + 8 * a + 8 * b < 18446744073709551616; omega) (fun j hj => oneSegs_w _ (by show 0 + 8 * a + 8 * j + 8 ≤ 262144; omega)) (by show (([] : List Fx) ++ rebW oneSegs [] 0 a).length + b ≤ 20000; rw [f3]; omega)
    | _ + 4, hi, _, _ => omega
  · rcases h with ⟨rfl, rfl, h⟩ | ⟨rfl, rfl, h1, h2⟩ | ⟨rfl, rfl, h⟩
    · refine .inr ⟨by decide, by show (3 : Nat) < 11; decide, by decide, fun bc b' W0 W hs k hc => ?_⟩
      exact (hs.took hw k hc).big6 0 v2 (by omega) (Nat.zero_le _) (by show 20000 < 0 + a; omega)
    · refine .inr ⟨by decide, by show (7 : Nat) < 11; decide, by decide, fun bc b' W0 W hs k hc => ?_⟩
      exact (hs.took hw k hc).big6 0 v3 (by omega) (by show (([] : List Fx) ++ rebW oneSegs [] 0 a).length ≤ 20000; rw [f3]; omega) (by show 20000 < (([] : List Fx) ++ rebW oneSegs [] 0 a).length + b; rw [f3]; omega)
    · exact .inl ⟨rfl, fun hl => absurd hl (by show ¬ (11 : Nat) < 11; decide)⟩
theorem Buf_n {w : World} {base : Nat} {so : SlV} {fs : List Fx} (h : FB w base so.v fs) : so.n = fs.length := by
  obtain ⟨a, c, he, _, _⟩ := h.rd.shape
  unfold SlV.v at he
  injection he
theorem Decode_two (x1 x2 x3 y1 y2 y3 : UInt8) (hx1 : 128 ≤ x1.toNat) (hx2 : 128 ≤ x2.toNat) (hx3 : x3.toNat < 128) (hy1 : 128 ≤ y1.toNat) (hy2 : 128 ≤ y2.toNat) (hy3 : y3.toNat < 128) (a b : Nat) (ha : x1.toNat % 128 + 128 * (x2.toNat % 128 + 128 * x3.toNat) = a) (hb : y1.toNat % 128 + 128 * (y2.toNat % 128 + 128 * y3.toNat) = b)
    (w : World) (hw : Env w) (m : Img) (hd : DIn w { Rdr.zero with sl := ⟨none, 0, 0⟩, m := m } oneSegs []) (stv : Value) (hst : Rd w stv (bytesV (mB x1 x2 x3 y1 y2 y3))) (n : Nat) (q : Int) (hq : (20000 < a + b ∧ q = 11 ∧ n = 0) ∨ (a + b ≤ 20000 ∧ q = 0 ∧ n = a + b)) :
    Calls Tryz.prog 5 #[.slice none 0 0, imgL.val m, stv] w fun e w' => ∃ (aa : Option Addr) (c : Nat), e = .returned (.tuple #[.slice aa n c, .int .i64 q]) ∧ Chg [] w w' := by
  obtain ⟨N, h⟩ : ∃ N, (N = 2 ∧ q = 11 ∧ 20000 < a) ∨ (N = 3 ∧ q = 11 ∧ a ≤ 20000 ∧ 20000 < a + b) ∨ (N = 4 ∧ q = 0 ∧ a + b ≤ 20000) := by
    by_cases h1 : 20000 < a
    · exact ⟨2, .inl ⟨rfl, by omega, h1⟩⟩
    · by_cases h2 : 20000 < a + b
      · exact ⟨3, .inr (.inl ⟨rfl, by omega, by omega, h2⟩)⟩
      · exact ⟨4, .inr (.inr ⟨rfl, by omega, by omega⟩)⟩
  refine (Decode_row ⟨none, 0, 0⟩ m stv (mB x1 x2 x3 y1 y2 y3) (by show (11 : Nat) ≤ _; decide) w hst mP mOp mIm N q _ _ (many_row x1 x2 x3 y1 y2 y3 hx1 hx2 hx3 hy1 hy2 hy3 a b ha hb w hw m hd N q h)).mono ?_
  rintro e w' ⟨so, rfl, hc, h1, h2⟩
  have hn : so.n = n := by
    rcases hq with ⟨_, hq, hn⟩ | ⟨_, hq, hn⟩
    · rw [h1 (by omega), hn]
    · obtain ⟨bc, b', W0, _, hk, _⟩ := h2 hq
      have hN : N = 4 := by
        rcases h with ⟨_, h, _⟩ | ⟨_, h, _⟩ | ⟨h, _⟩
        · exact absurd (hq.symm.trans h) (by decide)
        · exact absurd (hq.symm.trans h) (by decide)
        · exact h
      subst hN
      rw [Buf_n hk, hn]
      show ((([] : List Fx) ++ rebW oneSegs [] 0 a) ++ rebW oneSegs [] (0 + 8 * a) b).length = a + b
      rw [List.length_append, List.nil_append, rebW_len, rebW_len]
  exact ⟨so.a, so.cap, by rw [← hn]; rfl, hc⟩
end Go.Proofs.YtlblcbgmmfjdjaaGreatDoor
/- clevislaw13.two: an image of two segments. -/
namespace Go.Proofs.YtlblcbgmmfjdjaaGreatDoor
open Go.RowKit
set_option maxRecDepth 100000

def twoSegs : List Seg := [⟨⟨#[97]⟩, 0, 4096, 0, 4096, 5, ⟨none, 0, 0⟩⟩, ⟨⟨#[98]⟩, 4096, 4096, 4096, 16, 3, ⟨none, 0, 0⟩⟩]
def twoImg (sg : SlV) : Img := { Img.zero with kind := 2, segs := sg }
set_option maxHeartbeats 2000000 in
theorem two13_any (w : World) : Calls Tryz.prog 6 #[] w fun e w' => ∃ sb, e = .returned (imgL.val (twoImg ⟨some ⟨sb, 0, none⟩, 2, 2⟩)) ∧ segL.Rd w' (.slice (some ⟨sb, 0, none⟩) 2 2) twoSegs ∧ Chg [] w w' ∧ sb < w'.heap.size := by
  go_enter Tryz.func6, Tryz.ntmps6
  go_wp2_with ((with_reducible refine Lay.alL Tryz.tImg ?_); intro W1 br ebr cbr xbr; replace ebr := Lib.hid ebr; replace cbr := Lib.hid cbr; replace xbr := Lib.hid xbr; refine Hid.out ?_)
  refine Lib.hid ?_
  go_wp2_with ((with_reducible refine Lay.stL Tryz.tImg (twoImg ⟨some ⟨W1.heap.size, 0, none⟩, 2, 2⟩) ((xbr.out.alloc _)) ?_ ?_ ?_); exact rfl; exact rfl; intro W2 cW2 xW2; replace cW2 := Lib.hid cW2; replace xW2 := Lib.hid xW2; refine Hid.out ?_)
  refine Lib.hid ?_
  have hlt := xbr.out.lt
  have hR : segL.Rd W2 (.slice (some ⟨W1.heap.size, 0, none⟩) 2 2) twoSegs := by
    refine (Lay.Rd.of_heap (L := segL) (ls := twoSegs) (E := 26) (fz := (0, 0)) (heap_alloc_eq _ _) rfl rfl (show 2 ≤ maxLen by decide)).frameS cW2.out ?_
    intro k hk hm
    cases hk
    simp at hm
    omega
  have HR := Lib.hid hR
  clear hR
  go_wp2
  refine Lay.ret1 Tryz.tImg Tryz.results6 xW2.out rfl rfl ?_
  have hsb := HR.out.cells.2 0 _ rfl
  exact ⟨_, rfl, HR.out, (cbr.out.alloc _).new cW2.out (by rw [ebr.out]; exact Nat.le_refl _), World.block_lt_of_cell? _ _ hsb⟩
end Go.Proofs.YtlblcbgmmfjdjaaGreatDoor
