/- Lemmas, laid together: part 35 of 46. Conditions: none but each lemma's own. -/
import Derived.Test.YtaipelkegemoeaaGreatDoorJ5
import Derived.Test.YtaipelkegemoeaaGreatDoorJ33
import Derived.Test.YtaipelkegemoeaaGreatDoorJ25
import Derived.Test.YtaipelkegemoeaaGreatDoorJ34
import Derived.Test.YtaipelkegemoeaaGreatDoorJ4
/- Plain: a number's groups, shortest bytes, and what bytes say. No program in sight. -/
namespace Go.Proofs.YtaipelkegemoeaaGreatDoor
open Go.RowKit

/-- A number's shortest bytes (fuel: how many bytes at most). -/
def putUf : Nat → Nat → List UInt8
  | 0, n => [UInt8.ofNat n]
  | f + 1, n => if n < 128 then [UInt8.ofNat n] else UInt8.ofNat (n % 128 + 128) :: putUf f (n / 128)
def putU (n : Nat) : List UInt8 := putUf 9 n
theorem putUf_length (f n : Nat) : (putUf f n).length ≤ f + 1 ∧ 0 < (putUf f n).length := by
  induction f generalizing n with
  | zero => simp [putUf]
  | succ f ih =>
    unfold putUf
    split
    · simp
    · have := ih (n / 128); simp; omega
theorem putUf_step (f n : Nat) (h : 128 ≤ n) : putUf (f + 1) n = UInt8.ofNat (n % 128 + 128) :: putUf f (n / 128) := by rw [putUf, if_neg (by omega)]
theorem putUf_small (f n : Nat) (h : n < 128) : putUf f n = [UInt8.ofNat n] := by cases f <;> simp [putUf, h]
theorem or128 (x : Nat) (h : x < 256) : x ||| 128 = x % 128 + 128 := by
  have h1 : x = x / 128 * 128 + x % 128 := by omega
  by_cases hx : x < 128
  · rw [Nat.or_comm, nat_join 7 128 x (by decide) (by omega)]; omega
  · have e : x = 128 ||| (x % 128) := by rw [nat_join 7 128 (x % 128) (by decide) (by omega)]; omega
    rw [Nat.or_comm, e, ← Nat.or_assoc, Nat.or_self, nat_join 7 128 (x % 128) (by decide) (by omega)]
    have : (128 + x % 128) % 128 = x % 128 := by omega
    omega
end Go.Proofs.YtaipelkegemoeaaGreatDoor
/- Plain: what bytes say as a number; no number's bytes begin another one's. No program in sight. -/
namespace Go.Proofs.YtaipelkegemoeaaGreatDoor
open Go.RowKit

def gsOf (l : List UInt8) : List Nat := l.map fun b => b.toNat % 128
def uval : List Nat → Nat
  | [] => 0
  | x :: r => x + 128 * uval r
theorem toNat_ofNat (x : Nat) (h : x < 256) : (UInt8.ofNat x).toNat = x := by simp; omega
theorem uval_putUf (f : Nat) : ∀ n, n < 128 ^ (f + 1) → uval (gsOf (putUf f n)) = n := by
  induction f with
  | zero => intro n h; simp [putUf, gsOf, uval]; omega
  | succ f ih =>
    intro n h
    by_cases hn : n < 128
    · rw [putUf_small _ n hn]; simp [gsOf, uval]; omega
    · rw [putUf_step f n (by omega)]
      have := ih (n / 128) (by rw [Nat.pow_succ] at h; omega)
      simp only [gsOf, List.map_cons, uval, toNat_ofNat _ (show n % 128 + 128 < 256 by omega)] at this ⊢
      rw [this]; omega
theorem putUf_shape (f : Nat) : ∀ n, n < 128 ^ (f + 1) → ∃ r b, putUf f n = r ++ [b] ∧ b.toNat < 128 ∧ ∀ x ∈ r, 128 ≤ x.toNat := by
  induction f with
  | zero => intro n h; exact ⟨[], UInt8.ofNat n, rfl, by rw [toNat_ofNat n (by omega)]; omega, fun _ hm => by cases hm⟩
  | succ f ih =>
    intro n h
    by_cases hn : n < 128
    · exact ⟨[], UInt8.ofNat n, putUf_small _ n hn, by rw [toNat_ofNat n (by omega)]; exact hn, fun _ hm => by cases hm⟩
    · obtain ⟨r, b, e, hb, hr⟩ := ih (n / 128) (by rw [Nat.pow_succ] at h; omega)
      refine ⟨UInt8.ofNat (n % 128 + 128) :: r, b, by rw [putUf_step f n (by omega), e]; rfl, hb, fun x hx => ?_⟩
      cases hx with
      | head => rw [toNat_ofNat _ (by omega)]; omega
      | tail _ hx => exact hr x hx
theorem lt_pow10 (n : Nat) (h : n < 18446744073709551616) : n < 128 ^ (9 + 1) := by omega
end Go.Proofs.YtaipelkegemoeaaGreatDoor
/- Plain: what groups of bytes come to, as numbers and as signed ones. No program in sight. -/
namespace Go.Proofs.YtaipelkegemoeaaGreatDoor
open Go.RowKit

/-- Where the number ahead ends: how many bytes it has with the i ahead of them; 0: nowhere. -/
def szL : List UInt8 → Nat → Nat
  | [], _ => 0
  | b :: r, i => if 10 ≤ i then 0 else if b.toNat < 128 then i + 1 else szL r (i + 1)
theorem szL_bd (l : List UInt8) : ∀ i, szL l i = 0 ∨ (i < szL l i ∧ szL l i ≤ 10 ∧ szL l i ≤ i + l.length) := by
  induction l with
  | nil => intro i; exact .inl rfl
  | cons b r ih =>
    intro i
    unfold szL
    split
    · exact .inl rfl
    · split
      · right; simp; omega
      · rcases ih (i + 1) with h | h
        · exact .inl h
        · right; simp; omega
def uvalV (l : List UInt8) : Option (Nat × Nat) :=
  if szL l 0 = 0 then none else if szL l 0 = 10 ∧ 1 < (gsOf (l.take (szL l 0))).getD 9 0 then none else some (uval (gsOf (l.take (szL l 0))), szL l 0)
theorem uStep_eq (i x G : Nat) (hi : i < 10) (hx : x < 128) (hok : uOk i x = true) (hG : G < 128 ^ i) : uStep i x (G : Int) = ((G + 128 ^ i * x : Nat) : Int) := by
  have e128 : (128 : Nat) ^ i = 2 ^ (7 * i) := by rw [Nat.pow_mul]
  have hx2 : 128 ^ i * x < 18446744073709551616 := by
    by_cases h9 : i < 9
    · have : (128 : Nat) ^ i ≤ 128 ^ 8 := Nat.pow_le_pow_right (by decide) (by omega)
      have : 128 ^ i * x ≤ 128 ^ 8 * 127 := Nat.mul_le_mul this (by omega)
      omega
    · obtain rfl : i = 9 := by omega
      have : x ≤ 1 := by simpa [uOk] using hok
      omega
  have hG2 : G < 18446744073709551616 := by
    have : (128 : Nat) ^ i ≤ 128 ^ 9 := Nat.pow_le_pow_right (by decide) (by omega)
    omega
  unfold uStep
  have e1 : (x : Int) * 2 ^ (7 * i) = ((128 ^ i * x : Nat) : Int) := by rw [e128, Nat.mul_comm (2 ^ (7 * i)) x]; push_cast; rfl
  rw [e1, IntKind.wrap_u64, Int.emod_eq_of_lt (by omega) (by omega), u64_or_nat _ _ hG2 hx2, Nat.or_comm, nat_join (7 * i) _ _ (by rw [← e128]; exact Nat.mul_mod_right _ _) (by rw [← e128]; exact hG), Nat.add_comm]
theorem grp_u (l : List UInt8) : ∀ (i G : Nat), i ≤ 10 → G < 128 ^ i → grp uOk uStep l i (G : Int) =
    if szL l i = 0 then none else if szL l i = 10 ∧ 1 < (gsOf (l.take (szL l i - i))).getD (9 - i) 0 then none else some (((G + 128 ^ i * uval (gsOf (l.take (szL l i - i))) : Nat) : Int), szL l i) := by
  induction l with
  | nil => intro i G _ _; rfl
  | cons b r ih =>
    intro i G hi hG
    have hbd := szL_bd r (i + 1)
    have hx : b.toNat % 128 < 128 := Nat.mod_lt _ (by decide)
    by_cases h10 : 10 ≤ i
    · rw [grp, if_pos h10, szL, if_pos h10, if_pos rfl]
    · rw [grp, if_neg h10, szL, if_neg h10]
      by_cases h128 : b.toNat < 128
      · rw [if_pos h128, if_pos h128, if_neg (show ¬ i + 1 = 0 by omega), show i + 1 - i = 1 by omega]
        have eg : gsOf ((b :: r).take 1) = [b.toNat % 128] := rfl
        rw [eg]
        by_cases hok : uOk i (b.toNat % 128) = true
        · rw [if_neg (show ¬ uOk i (b.toNat % 128) = false by rw [hok]; decide), if_neg, uStep_eq i _ G (by omega) hx hok hG]
          · simp [uval]
          · rintro ⟨h1, h2⟩
            obtain rfl : i = 9 := by omega
            simp [uOk] at hok h2
            omega
        · have hok' : uOk i (b.toNat % 128) = false := by simpa using hok
          rw [if_pos hok', if_pos]
          simp [uOk] at hok'
          obtain rfl : i = 9 := by omega
          exact ⟨rfl, by simp; omega⟩
      · rw [if_neg h128, if_neg h128]
        by_cases hok : uOk i (b.toNat % 128) = true
        · rw [if_neg (show ¬ uOk i (b.toNat % 128) = false by rw [hok]; decide), uStep_eq i _ G (by omega) hx hok hG, ih (i + 1) _ (by omega) (by
            rw [Nat.pow_succ]
            have : 128 ^ i * (b.toNat % 128) ≤ 128 ^ i * 127 := Nat.mul_le_mul_left _ (by omega)
            omega)]
          rcases hbd with h0 | ⟨h1, h2, h3⟩
          · rw [if_pos h0, if_pos h0]
          · have hne : ¬ szL r (i + 1) = 0 := by omega
            rw [if_neg hne, if_neg hne]
            have et : szL r (i + 1) - i = (szL r (i + 1) - (i + 1)) + 1 := by omega
            have eg : gsOf ((b :: r).take (szL r (i + 1) - i)) = (b.toNat % 128) :: gsOf (r.take (szL r (i + 1) - (i + 1))) := by rw [et]; rfl
            rw [eg]
            have e9 : szL r (i + 1) = 10 → ((b.toNat % 128) :: gsOf (r.take (szL r (i + 1) - (i + 1)))).getD (9 - i) 0 = (gsOf (r.take (szL r (i + 1) - (i + 1)))).getD (9 - (i + 1)) 0 := by
              intro h
              rw [show 9 - i = (9 - (i + 1)) + 1 by omega]; rfl
            by_cases hc : szL r (i + 1) = 10 ∧ 1 < (gsOf (r.take (szL r (i + 1) - (i + 1)))).getD (9 - (i + 1)) 0
            · rw [if_pos hc, if_pos ⟨hc.1, by rw [e9 hc.1]; exact hc.2⟩]
            · rw [if_neg hc, if_neg (fun hh => hc ⟨hh.1, by rw [← e9 hh.1]; exact hh.2⟩)]
              simp only [uval, Nat.pow_succ, Nat.mul_add, Nat.mul_assoc, Nat.add_assoc]
        · have hok' : uOk i (b.toNat % 128) = false := by simpa using hok
          rw [if_pos hok']
          simp [uOk] at hok'
          obtain rfl : i = 9 := by omega
          rcases hbd with h0 | ⟨h1, h2, h3⟩
          · rw [if_pos h0]
          · omega
theorem ulebR_eq (l : List UInt8) : ulebR l = (uvalV l).map fun p => ((p.1 : Int), p.2) := by
  have := grp_u l 0 0 (by omega) (by decide)
  unfold ulebR uvalV
  rw [show ((0 : Nat) : Int) = 0 from rfl] at this
  rw [this]
  simp only [Nat.sub_zero, Nat.pow_zero, Nat.one_mul, Nat.zero_add]
  split
  · rfl
  · split <;> rfl

end Go.Proofs.YtaipelkegemoeaaGreatDoor
/- Plain: a number of three groups, with groups of nothing behind it. -/
namespace Go.Proofs.YtaipelkegemoeaaGreatDoor
open Go.RowKit

/-- A number of one group. -/
theorem lebV1 (l : List UInt8) (k : Nat) (big : Bool) (x : UInt8) (r : List UInt8) (h : l.drop k = x :: r) (hx : x.toNat < 128) :
    lebV ulebR ⟨l, k, big, false⟩ = (x.toNat : Int) ∧ lebS ulebR ⟨l, k, big, false⟩ = ⟨l, k + 1, big, false⟩ := by
  have hv : uvalV (x :: r) = some (x.toNat, 1) := by
    have h : szL (x :: r) 0 = 1 := by rw [szL, if_neg (by omega), if_pos hx]
    unfold uvalV
    rw [h]
    simp [gsOf, uval, Nat.mod_eq_of_lt hx]
  constructor
  · simp only [lebV, Bool.false_eq_true, if_false, ulebR_eq, h, hv]; rfl
  · simp only [lebS, Bool.false_eq_true, if_false, ulebR_eq, h, hv]; rfl
end Go.Proofs.YtaipelkegemoeaaGreatDoor
/- Plain: the image of one great segment. -/
namespace Go.Proofs.YtaipelkegemoeaaGreatDoor
open Go.RowKit
set_option maxRecDepth 100000

theorem protS3 : protS 3 = true := by decide
end Go.Proofs.YtaipelkegemoeaaGreatDoor
/- rebase.Decode of a stream of two opcodes of so many. -/
namespace Go.Proofs.YtaipelkegemoeaaGreatDoor
open Go.RowKit
set_option maxRecDepth 100000

def mIs : Nat → Bool | 0 => false | 1 => false | _ => true
def mTy : Nat → Int | 0 => 0 | _ => 1
theorem DSt.start {w W : World} {B : List UInt8} {slv : SlV} {m : Img} {bc b : Nat} (hw : Env w) (hlo : w.heap.size ≤ bc) (hlt : bc < b) (hc : CurB W bc ⟨B, 0, false, false⟩) (hb : rdrL.Box W b { ({ Rdr.zero with sl := slv, m := m } : Rdr) with c := some ⟨bc, 0, none⟩ }) (k : Chg [] w W) : DSt w B { Rdr.zero with sl := slv, m := m } 0 0 false 0 [] bc b W :=
  ⟨hlo, hlt, hw.frame k (by simp), hc, k, ⟨none, 0, 0⟩, hb, Lay.Buf.nil _ _⟩
theorem DSt.isR {w W : World} {B : List UInt8} {c0 : Rdr} {p A : Nat} {is_ : Bool} {typ : Int} {fs : List Fx} {bc b : Nat} (h : DSt w B c0 p A is_ typ fs bc b W) :
    CurB W bc ⟨B, p, false, false⟩ ∧ Chg [] w W ∧ bc < b ∧ ∃ r, rdrL.Box W b r ∧ r.c = some ⟨bc, 0, none⟩ ∧ FB W (b + 1) r.out.v fs := by
  obtain ⟨so, h1, h2⟩ := h.box
  exact ⟨h.cur, h.chg, h.hi, _, h1, rfl, h2⟩
end Go.Proofs.YtaipelkegemoeaaGreatDoor
/- clevislaw13.two: an image of two segments. -/
namespace Go.Proofs.YtaipelkegemoeaaGreatDoor
open Go.RowKit
set_option maxRecDepth 100000

def twoSegs : List Seg := [⟨⟨#[97]⟩, 0, 4096, 0, 4096, 5, ⟨none, 0, 0⟩⟩, ⟨⟨#[98]⟩, 4096, 4096, 4096, 16, 3, ⟨none, 0, 0⟩⟩]
def twoImg (sg : SlV) : Img := { Img.zero with kind := 2, segs := sg }
set_option maxHeartbeats 2000000 in
theorem two13_any (w : World) : Calls Tryz.prog 13 #[] w fun e w' => ∃ sb, e = .returned (imgL.val (twoImg ⟨some ⟨sb, 0, none⟩, 2, 2⟩)) ∧ segL.Rd w' (.slice (some ⟨sb, 0, none⟩) 2 2) twoSegs ∧ Chg [] w w' ∧ sb < w'.heap.size := by
  go_enter Tryz.func13, Tryz.ntmps13
  go_wp2_with ((with_reducible refine Lay.alL Tryz.tImg ?_); intro W1 br ebr cbr xbr; replace ebr := Lib.hid ebr; replace cbr := Lib.hid cbr; replace xbr := Lib.hid xbr; refine Hid.out ?_)
  refine Lib.hid ?_
  go_wp2_with ((with_reducible refine Lay.stL Tryz.tImg (twoImg ⟨some ⟨W1.heap.size, 0, none⟩, 2, 2⟩) ((xbr.out.alloc _)) ?_ ?_ ?_); exact rfl; exact rfl; intro W2 cW2 xW2; replace cW2 := Lib.hid cW2; replace xW2 := Lib.hid xW2; refine Hid.out ?_)
  refine Lib.hid ?_
  have hlt := xbr.out.lt
  have hR : segL.Rd W2 (.slice (some ⟨W1.heap.size, 0, none⟩) 2 2) twoSegs := by
    refine (Lay.Rd.of_heap (L := segL) (ls := twoSegs) (E := 64) (fz := (0, 0)) (heap_alloc_eq _ _) rfl rfl (show 2 ≤ maxLen by decide)).frameS cW2.out ?_
    intro k hk hm
    cases hk
    simp at hm
    omega
  have HR := Lib.hid hR
  clear hR
  go_wp2
  refine Lay.ret1 Tryz.tImg Tryz.results13 xW2.out rfl rfl ?_
  have hsb := HR.out.cells.2 0 _ rfl
  exact ⟨_, rfl, HR.out, (cbr.out.alloc _).new cW2.out (by rw [ebr.out]; exact Nat.le_refl _), World.block_lt_of_cell? _ _ hsb⟩
end Go.Proofs.YtaipelkegemoeaaGreatDoor
/- rebase.Decode of the chapter's two streams. -/
namespace Go.Proofs.YtaipelkegemoeaaGreatDoor
open Go.RowKit
set_option maxRecDepth 100000

set_option maxHeartbeats 2000000 in
theorem step_not (b bc : Nat) (r : Rdr) (imm : Nat) (s : CS) (ht : r.typ = 0) (hc : r.c = some ⟨bc, 0, none⟩) (w : World) (hcur : CurB w bc s) (hf : s.failed = false) (hb : rdrL.Box w b r) :
    Calls Tryz.prog 26 #[.pointer (some ⟨b, 0, none⟩), .int .u8 5, .int .u8 imm] w fun e w' => e = .returned (.int .i64 14) ∧ Chg [] w w' := by
  have HNU := Lib.hid (fun w => numbers_any 5 (by decide) w)
  have HER := Lib.hid (fun w hcur => Err_ok bc s w hcur hf)
  have HRE := Lib.hid (fun w hb => ready_any b r 5 (by decide) w hb)
  rw [show readyOf 5 r.typ r.is_ = false by rw [ht]; rfl] at HRE
  have HC := Lib.hid hcur
  have Hb := Lib.hid hb
  have Hf := Lib.hid hf
  have Ht := Lib.hid ht
  clear hcur hb hf ht
  go_enter Tryz.func26, Tryz.ntmps26
  go_wp2_with fail
  refine (HNU.out _).mono ?_
  rintro e W1 ⟨rfl, h1⟩
  rw [show ((numsOf 5 : Nat) : Int) = 0 from rfl]
  have C1 : Hid (Chg [] w W1) := Lib.hid (((Chg.refl [] w).alloc _).then h1)
  clear h1
  go_wp2_with fail
  go_loopw [13] (fun s13 wr => s13 = .int .i64 0 ∧ wr = W1) (fun _ _ => 0)
  case atStart => exact ⟨rfl, rfl⟩
  case round =>
    obtain ⟨rfl, rfl⟩ := hrel
    have B1 := Lib.hid (Hb.out.frame C1.out)
    have x0 := Rdr.c_c B1.out
    rw [hc] at x0
    go_wp2_with fail
    refine (HER.out _ (HC.out.frame C1.out)).mono ?_
    rintro e W2 ⟨rfl, h2⟩
    have C2 := Lib.hid (C1.out.then h2)
    clear h2
    go_wp2_with fail
    refine (HRE.out _ (Hb.out.frame C2.out)).mono ?_
    rintro e W3 ⟨rfl, h3⟩
    have C3 := Lib.hid (C2.out.then h3)
    clear h3 x0
    go_wp2
    go_ret
    exact ⟨rfl, C3.out⟩
theorem DSt.not5 {w W : World} {B : List UInt8} {c0 : Rdr} {p A : Nat} {is_ : Bool} {fs : List Fx} {bc b : Nat} (h : DSt w B c0 p A is_ 0 fs bc b W) (imm : Nat) :
    Calls Tryz.prog 26 #[.pointer (some ⟨b, 0, none⟩), .int .u8 5, .int .u8 imm] W fun e w' => e = .returned (.int .i64 14) ∧ Chg [] w w' := by
  obtain ⟨so, h1, _⟩ := h.box
  refine (step_not b bc _ imm _ rfl rfl W h.cur rfl h1).mono ?_
  rintro e w' ⟨rfl, hc⟩
  exact ⟨rfl, h.chg.then hc⟩
theorem twoSegsB : SegsB twoSegs := by
  intro k hk
  have : k = 0 ∨ k = 1 := by simp [twoSegs] at hk; omega
  rcases this with rfl | rfl
  · show SegB (⟨⟨#[97]⟩, 0, 4096, 0, 4096, 5, ⟨none, 0, 0⟩⟩ : Seg)
    unfold SegB
    simp
  · show SegB (⟨⟨#[98]⟩, 4096, 4096, 4096, 16, 3, ⟨none, 0, 0⟩⟩ : Seg)
    unfold SegB
    simp
theorem twoSegs_at (A : Nat) (h0 : 4096 ≤ A) (h : A < 8192) : atS twoSegs (A : Int) = some 1 := by
  have d1 : decide ((4096 : Int) ≤ (A : Int)) = true := by rw [decide_eq_true_iff]; omega
  have d2 : decide ((A : Int) - 4096 < 4096) = true := by rw [decide_eq_true_iff]; omega
  have d3 : decide ((A : Int) - 0 < 4096) = false := by rw [decide_eq_false_iff_not]; omega
  refine idx_some (d := Seg.zero) (by decide) ?_ (fun j hj => ?_)
  · show (!(decide ((3 : Int) = 0) && decide ((16 : Int) = 0)) && (decide ((4096 : Int) ≤ (A : Int)) && decide ((A : Int) - 4096 < 4096))) = true
    rw [d1, d2]
    rfl
  · obtain rfl : j = 0 := by omega
    show (!(decide ((5 : Int) = 0) && decide ((4096 : Int) = 0)) && (decide ((0 : Int) ≤ (A : Int)) && decide ((A : Int) - 0 < 4096))) = false
    rw [d3, Bool.and_false, Bool.and_false]
theorem twoSegs_w (A : Nat) (h0 : 4096 ≤ A) (h : A + 8 ≤ 8192) : writS twoSegs (A : Int) 8 = true := by
  have hd : decide ((8 : Int) ≤ 4096 - ((A : Int) - 4096)) = true := by
    rw [decide_eq_true_iff]
    omega
  unfold writS
  rw [twoSegs_at A h0 (by omega)]
  show (!((8 : Int) == 0) && (protS 3 && decide ((8 : Int) ≤ 4096 - ((A : Int) - 4096)))) = true
  rw [hd, protS3]
  rfl
theorem twoSegs_place : placeS twoSegs 1 0 = (4096, 0) := by
  unfold placeS twoSegs holeS
  simp
  decide
def slice13 : List UInt8 := List.replicate 4096 0 ++ [7, 0, 0, 0, 0, 0, 0, 0, 9, 0, 0, 0, 0, 0, 0, 0]
theorem slice13_part : partS slice13 4096 16 = [7, 0, 0, 0, 0, 0, 0, 0, 9, 0, 0, 0, 0, 0, 0, 0] := by
  have hl : slice13.length = 4112 := by unfold slice13; rw [List.length_append, List.length_replicate]; rfl
  unfold partS
  rw [hl, if_neg (by decide), if_pos (by decide)]
  unfold slice13
  rw [List.drop_left' (by rw [List.length_replicate])]
  rfl
theorem slice13_word (A n : Nat) (h0 : 4096 ≤ A) (h : A + 8 ≤ 4112) (hn : leNum (pad8 [7, 0, 0, 0, 0, 0, 0, 0, 9, 0, 0, 0, 0, 0, 0, 0] (A - 4096)) = n) : wordS twoSegs slice13 (A : Int) = ((n : Int), 0) := by
  unfold wordS
  rw [twoSegs_at A h0 (by omega)]
  show (if (4096 : Int) - ((A : Int) - 4096) < 8 then ((0 : Int), (4 : Int)) else (padI (partS slice13 4096 16) ((A : Int) - 4096).toNat, 0)) = _
  rw [if_neg (by omega), slice13_part, show ((A : Int) - 4096).toNat = A - 4096 by omega]
  unfold padI
  rw [hn]
def known13l : List Fx := [rebF 4096 7, rebF 4104 9]
theorem known13_reb : rebW twoSegs slice13 4096 2 = known13l := by
  show [rebF (((4096 + 8 * 0 : Nat)) : Int) (wordS twoSegs slice13 ((4096 + 8 * 0 : Nat) : Int)).1, rebF (((4096 + 8 * 1 : Nat)) : Int) (wordS twoSegs slice13 ((4096 + 8 * 1 : Nat) : Int)).1] = _
  rw [slice13_word (4096 + 8 * 0) 7 (by decide) (by decide) (by decide), slice13_word (4096 + 8 * 1) 9 (by decide) (by decide) (by decide)]
  rfl
def kP : Nat → Nat | 0 => 0 | 1 => 1 | 2 => 3 | _ => 4
def kOp : Nat → Nat | 0 => 1 | 1 => 2 | 2 => 5 | _ => 0
def kIm : Nat → Nat | 0 => 1 | 1 => 1 | 2 => 2 | _ => 0
def kA : Nat → Nat | 0 => 0 | 1 => 0 | 2 => 4096 | _ => 4096 + 8 * 2
def kF : Nat → List Fx | 0 => [] | 1 => [] | 2 => [] | _ => [] ++ rebW twoSegs slice13 4096 2
def kB : List UInt8 := [17, 33, 0, 82, 0]
theorem known_row (w : World) (hw : Env w) (slv : SlV) (m : Img) (hd : DIn w { Rdr.zero with sl := slv, m := m } twoSegs slice13) :
    DRow w kB { Rdr.zero with sl := slv, m := m } kP kOp kIm 3 0 (fun _ b' i so W => FB W (b' + 1) so.v (kF i)) (fun bc b' i W => DSt w kB { Rdr.zero with sl := slv, m := m } (kP i) (kA i) (mIs i) (mTy i) (kF i) bc b' W) := by
  have v1 : lebV ulebR ⟨kB, 2, false, false⟩ = ((0 : Nat) : Int) ∧ lebS ulebR ⟨kB, 2, false, false⟩ = ⟨kB, 3, false, false⟩ := lebV1 _ 2 false 0 _ rfl (by decide)
  refine ⟨fun bc b' W h1 h2 h3 h4 h5 => DSt.start hw h1 h2 h3 h4 h5, rfl, fun bc b' i W hs => hs.isR, fun i => ?_, fun i hi => ?_, fun i hi hl => ?_, fun i hi => ?_, fun bc b' i W0 W hi hs k hc => ?_, ?_⟩
  · match i with
    | 0 => exact (by decide : (0 : Nat) ≤ 5)
    | 1 => exact (by decide : (1 : Nat) ≤ 5)
    | 2 => exact (by decide : (3 : Nat) ≤ 5)
    | _ + 3 => exact (by decide : (4 : Nat) ≤ 5)
  · match i, hi with
    | 0, _ => exact (by decide : (0 : Nat) < 5 ∧ (0 : Nat) < 1)
    | 1, _ => exact (by decide : (1 : Nat) < 5 ∧ (1 : Nat) < 3)
    | 2, _ => exact (by decide : (3 : Nat) < 5 ∧ (3 : Nat) < 4)
    | _ + 3, hi => omega
  · match i, hi with
    | 0, _ => exact ⟨rfl, by decide, by decide⟩
    | 1, _ => exact ⟨rfl, by decide, by decide⟩
    | 2, _ => exact ⟨rfl, by decide, by decide⟩
    | 3, _ => exact ⟨rfl, by decide, by decide⟩
    | _ + 4, hi => omega
  · match i, hi with
    | 0, _ => decide
    | 1, _ => decide
    | 2, _ => decide
    | _ + 3, hi => omega
  · have ht := hs.took hw k hc
    match i, hi, hs, ht with
    | 0, _, _, ht => exact ht.typ1 hw 1
    | 1, _, _, ht => exact ht.place2 hw hd 1 (by decide) v1 twoSegs_place
    | 2, hi, _, ht => exact ht.imm5 hw hd 2 (by decide) (by show 4096 + 8 * 2 < 18446744073709551616; decide) (fun j hj => twoSegs_w _ (by show 4096 ≤ 4096 + 8 * j; omega) (by show 4096 + 8 * j + 8 ≤ 8192; omega)) (by show 0 + 2 ≤ 20000; decide) (by decide)
    | _ + 3, hi, _, _ => omega
  · exact .inl ⟨rfl, fun _ => rfl⟩
theorem Decode_k1 (w : World) (hw : Env w) (slv : SlV) (m : Img) (hd : DIn w { Rdr.zero with sl := slv, m := m } twoSegs slice13) (stv : Value) (hst : Rd w stv (bytesV kB)) :
    Calls Tryz.prog 8 #[slv.v, imgL.val m, stv] w fun e w' => ∃ so : SlV, e = .returned (.tuple #[so.v, .int .i64 0]) ∧ Chg [] w w' ∧ FB w' w.heap.size so.v known13l := by
  refine (Decode_row slv m stv kB (by show (5 : Nat) ≤ _; decide) w hst kP kOp kIm 3 0 _ _ (known_row w hw slv m hd)).mono ?_
  rintro e w' ⟨so, rfl, hc, _, h2⟩
  obtain ⟨bc, b', W0, _, hk, h3, h4, h5⟩ := h2 rfl
  refine ⟨so, rfl, hc, ?_⟩
  rw [← known13_reb]
  exact ((hk : FB W0 (b' + 1) so.v ([] ++ rebW twoSegs slice13 4096 2)).frame h5 (fun k hk' hm => by have := (hk.lt k hk').1; simp at hm; omega)).mono (by omega)
theorem known_row2 (w : World) (hw : Env w) (slv : SlV) (m : Img) :
    DRow w [81] { Rdr.zero with sl := slv, m := m } (fun _ => 0) (fun _ => 5) (fun _ => 1) 0 14 (fun _ b' _ so W => FB W (b' + 1) so.v []) (fun bc b' _ W => DSt w [81] { Rdr.zero with sl := slv, m := m } 0 0 false 0 [] bc b' W) :=
  ⟨fun bc b' W h1 h2 h3 h4 h5 => DSt.start hw h1 h2 h3 h4 h5, rfl, fun bc b' i W hs => hs.isR, fun i => Nat.zero_le _, fun i hi => absurd hi (Nat.not_lt_zero _), fun i hi hl => ⟨rfl, by decide, by decide⟩, fun i hi => absurd hi (Nat.not_lt_zero _), fun bc b' i W0 W hi => absurd hi (Nat.not_lt_zero _), .inr ⟨by decide, by decide, by decide, fun bc b' W0 W hs k hc => (hs.took hw k hc).not5 1⟩⟩
theorem Decode_k2 (w : World) (hw : Env w) (slv : SlV) (m : Img) (stv : Value) (hst : Rd w stv (bytesV [81])) :
    Calls Tryz.prog 8 #[slv.v, imgL.val m, stv] w fun e w' => e = .returned (.tuple #[.slice none 0 0, .int .i64 14]) ∧ Chg [] w w' := by
  refine (Decode_row slv m stv [81] (by decide) w hst _ _ _ 0 14 _ _ (known_row2 w hw slv m)).mono ?_
  rintro e w' ⟨so, rfl, hc, h1, _⟩
  rw [h1 (by decide)]
  exact ⟨rfl, hc⟩
end Go.Proofs.YtaipelkegemoeaaGreatDoor
