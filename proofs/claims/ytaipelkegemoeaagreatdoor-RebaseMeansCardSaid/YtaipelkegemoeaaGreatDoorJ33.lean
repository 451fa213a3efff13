/- Lemmas, laid together: part 33 of 46. Conditions: none but each lemma's own. -/
import Derived.Test.YtaipelkegemoeaaGreatDoorJ23
import Derived.Test.YtaipelkegemoeaaGreatDoorJ32
import Derived.Test.YtaipelkegemoeaaGreatDoorJ6
import Derived.Test.YtaipelkegemoeaaGreatDoorJ5
/- rebase: ready, numbers. -/
namespace Go.Proofs.YtaipelkegemoeaaGreatDoor
open Go.RowKit
set_option maxRecDepth 100000

def numsOf (op : Nat) : Nat := if op = 8 then 2 else if op = 2 ∨ op = 3 ∨ op = 6 ∨ op = 7 then 1 else 0
theorem numbers_any (op : Nat) (h : op < 16) (w : World) : Calls Tryz.prog 45 #[.int .u8 op] w fun e w' => e = .returned (.int .i64 (numsOf op)) ∧ Chg [] w w' := by
  have hh : op = 0 ∨ op = 1 ∨ op = 2 ∨ op = 3 ∨ op = 4 ∨ op = 5 ∨ op = 6 ∨ op = 7 ∨ op = 8 ∨ op = 9 ∨ op = 10 ∨ op = 11 ∨ op = 12 ∨ op = 13 ∨ op = 14 ∨ op = 15 := by omega
  rcases hh with rfl | rfl | rfl | rfl | rfl | rfl | rfl | rfl | rfl | rfl | rfl | rfl | rfl | rfl | rfl | rfl
  all_goals
    clear h
    go_enter Tryz.func45, Tryz.ntmps45
    go_wp2
    go_ret
    exact ⟨rfl, Chg.refl _ _⟩
def readyOf (op : Nat) (typ : Int) (is_ : Bool) : Bool := if 5 ≤ op ∧ op ≤ 8 then (typ == 1) && is_ else if op = 3 ∨ op = 4 then is_ else decide (op ≤ 8)
set_option maxHeartbeats 2000000 in
theorem ready_any (b : Nat) (r : Rdr) (op : Nat) (h : op < 16) (w : World) (hb : rdrL.Box w b r) : Calls Tryz.prog 48 #[.pointer (some ⟨b, 0, none⟩), .int .u8 op] w fun e w' => e = .returned (.bool (readyOf op r.typ r.is_)) ∧ Chg [] w w' := by
  have x4 := Rdr.c_is hb
  have x5 := Rdr.c_typ hb
  have hh : op = 0 ∨ op = 1 ∨ op = 2 ∨ op = 3 ∨ op = 4 ∨ op = 5 ∨ op = 6 ∨ op = 7 ∨ op = 8 ∨ op = 9 ∨ op = 10 ∨ op = 11 ∨ op = 12 ∨ op = 13 ∨ op = 14 ∨ op = 15 := by omega
  clear hb
  obtain ⟨q, hq⟩ : ∃ q, q = r.is_ := ⟨_, rfl⟩
  rw [← hq] at x4 ⊢
  cases t1 : (r.typ == 1) with
  | true =>
    have t2 : r.typ = 1 := by simpa using t1
    rw [t2] at x5 ⊢
    clear t1 t2 hq
    rcases hh with rfl | rfl | rfl | rfl | rfl | rfl | rfl | rfl | rfl | rfl | rfl | rfl | rfl | rfl | rfl | rfl
    all_goals
      clear h
      go_enter Tryz.func48, Tryz.ntmps48
      go_wp2
      go_ret
      exact ⟨by cases q <;> rfl, Chg.refl _ _⟩
  | false =>
    have hr : ∀ op, readyOf op r.typ q = if 5 ≤ op ∧ op ≤ 8 then false else if op = 3 ∨ op = 4 then q else decide (op ≤ 8) := fun op => by unfold readyOf; rw [t1]; rfl
    rw [hr]
    clear hr hq
    rcases hh with rfl | rfl | rfl | rfl | rfl | rfl | rfl | rfl | rfl | rfl | rfl | rfl | rfl | rfl | rfl | rfl
    all_goals
      clear h
      go_enter Tryz.func48, Tryz.ntmps48
      go_wp2
      go_ret
      exact ⟨by cases q <;> rfl, Chg.refl _ _⟩
end Go.Proofs.YtaipelkegemoeaaGreatDoor
/- rebase: step, the opcode of the type. -/
namespace Go.Proofs.YtaipelkegemoeaaGreatDoor
open Go.RowKit
set_option maxRecDepth 100000

set_option maxHeartbeats 2000000 in
theorem step_typ (b bc : Nat) (r : Rdr) (imm : Nat) (s : CS) (hc : r.c = some ⟨bc, 0, none⟩) (w : World) (hcur : CurB w bc s) (hf : s.failed = false) (hb : rdrL.Box w b r) :
    Calls Tryz.prog 26 #[.pointer (some ⟨b, 0, none⟩), .int .u8 1, .int .u8 imm] w fun e w' => e = .returned (.int .i64 0) ∧ rdrL.Box w' b { r with typ := (imm : Int) } ∧ Chg [b] w w' := by
  have HNU := Lib.hid (fun w => numbers_any 1 (by decide) w)
  have HER := Lib.hid (fun w hcur => Err_ok bc s w hcur hf)
  have HRE := Lib.hid (fun w hb => ready_any b r 1 (by decide) w hb)
  rw [show readyOf 1 r.typ r.is_ = true from rfl] at HRE
  have HC := Lib.hid hcur
  have Hb := Lib.hid hb
  have Hf := Lib.hid hf
  clear hcur hb hf
  go_enter Tryz.func26, Tryz.ntmps26
  go_wp2_with fail
  refine (HNU.out _).mono ?_
  rintro e W1 ⟨rfl, h1⟩
  rw [show ((numsOf 1 : Nat) : Int) = 0 from rfl]
  have C1 : Hid (Chg [] w W1) := Lib.hid (((Chg.refl [] w).alloc _).then h1)
  clear h1
  go_wp2_with fail
  go_loopw [13] (fun s13 wr => s13 = .int .i64 0 ∧ wr = W1) (fun _ _ => 0)
  case atStart => exact ⟨rfl, rfl⟩
  case round =>
    obtain ⟨rfl, rfl⟩ := hrel
    have B1 := Lib.hid (Hb.out.frame C1.out)
    have x0 := Rdr.c_c B1.out
    rw [hc] at x0
    go_wp2_with fail
    refine (HER.out _ (HC.out.frame C1.out)).mono ?_
    rintro e W2 ⟨rfl, h2⟩
    have C2 := Lib.hid (C1.out.then h2)
    clear h2
    go_wp2_with fail
    refine (HRE.out _ (Hb.out.frame C2.out)).mono ?_
    rintro e W3 ⟨rfl, h3⟩
    have C3 := Lib.hid (C2.out.then h3)
    clear h3 x0
    have B3 := Lib.hid (Hb.out.frame C3.out)
    have x5 := Rdr.c_typ B3.out
    have z5 := B3.out.frozen 28
    go_wp2
    go_ret
    exact ⟨rfl, Rdr.set_typ B3.out _, C3.out.add.setCell _ _ (.inl (by simp))⟩
end Go.Proofs.YtaipelkegemoeaaGreatDoor
/- rebase: step, so many at once. -/
namespace Go.Proofs.YtaipelkegemoeaaGreatDoor
open Go.RowKit
set_option maxRecDepth 100000

set_option maxHeartbeats 2000000 in
theorem step_imm (b bc : Nat) (r : Rdr) (imm : Nat) (s : CS) (ht : r.typ = 1) (hi : r.is_ = true) (R : World → Prop) (hc : r.c = some ⟨bc, 0, none⟩) (w : World) (hcur : CurB w bc s) (hf : s.failed = false) (hb : rdrL.Box w b r) (hi2 : imm < 256) (hm : ∀ W, Chg [] w W → Calls Tryz.prog 51 #[.pointer (some ⟨b, 0, none⟩), .int .u64 imm, .int .u64 0] W fun e w' => e = .returned (.int .i64 0) ∧ R w') :
    Calls Tryz.prog 26 #[.pointer (some ⟨b, 0, none⟩), .int .u8 5, .int .u8 imm] w fun e w' => e = .returned (.int .i64 0) ∧ R w' := by
  have HNU := Lib.hid (fun w => numbers_any 5 (by decide) w)
  have HER := Lib.hid (fun w hcur => Err_ok bc s w hcur hf)
  have HRE := Lib.hid (fun w hb => ready_any b r 5 (by decide) w hb)
  rw [show readyOf 5 r.typ r.is_ = true by rw [ht, hi]; rfl] at HRE
  have hwi : IntKind.u64.wrap (imm : Int) = (imm : Int) := by rw [IntKind.wrap_u64]; omega
  have HC := Lib.hid hcur
  have Hb := Lib.hid hb
  have Hf := Lib.hid hf
  have Hm := Lib.hid hm
  have Ht := Lib.hid ht
  have Hi := Lib.hid hi
  clear hcur hb hf hm ht hi
  go_enter Tryz.func26, Tryz.ntmps26
  go_wp2_with fail
  refine (HNU.out _).mono ?_
  rintro e W1 ⟨rfl, h1⟩
  rw [show ((numsOf 5 : Nat) : Int) = 0 from rfl]
  have C1 : Hid (Chg [] w W1) := Lib.hid (((Chg.refl [] w).alloc _).then h1)
  clear h1
  go_wp2_with fail
  go_loopw [13] (fun s13 wr => s13 = .int .i64 0 ∧ wr = W1) (fun _ _ => 0)
  case atStart => exact ⟨rfl, rfl⟩
  case round =>
    obtain ⟨rfl, rfl⟩ := hrel
    have B1 := Lib.hid (Hb.out.frame C1.out)
    have x0 := Rdr.c_c B1.out
    rw [hc] at x0
    go_wp2_with fail
    refine (HER.out _ (HC.out.frame C1.out)).mono ?_
    rintro e W2 ⟨rfl, h2⟩
    have C2 := Lib.hid (C1.out.then h2)
    clear h2
    go_wp2_with fail
    refine (HRE.out _ (Hb.out.frame C2.out)).mono ?_
    rintro e W3 ⟨rfl, h3⟩
    have C3 := Lib.hid (C2.out.then h3)
    clear h3 x0
    go_wp2_with fail
    refine (Hm.out _ C3.out).mono ?_
    rintro e W4 ⟨rfl, h4⟩
    have R4 := Lib.hid h4
    clear h4
    go_wp2
    go_ret
    exact ⟨rfl, R4.out⟩
end Go.Proofs.YtaipelkegemoeaaGreatDoor
/- leb.groups, over any closure that keeps one number. -/
namespace Go.Proofs.YtaipelkegemoeaaGreatDoor
open Go.RowKit

theorem CurB.frame3 {w w' : World} {b nb : Nat} {s : CS} {c : Array Value} {T : TypeId} {fz : Nat × Nat} (h : CurB w b s) (hn : w.heap[nb]? = some (.cells c T fz)) (hT : T ≠ 5) (hne : b ≠ nb) (k : Chg [nb] w w') : CurB w' b s := by
  obtain ⟨a, n, cap, hb, h1, h2', h3, h4, h5, h6⟩ := h
  refine ⟨a, n, cap, k.heap hb (by simpa using hne), h1, h2', h3, h4, h5, fun hn' => ?_⟩
  obtain ⟨d, off, c', ha, hdb, hd, hc⟩ := h6 hn'
  have hd2 : d ∉ [nb] := by
    intro hm
    rw [List.mem_singleton] at hm
    subst hm
    rw [hd] at hn
    simp only [Option.some.injEq, Obj.cells.injEq] at hn
    exact hT hn.2.1.symm
  exact ⟨d, off, c', ha, hdb, k.heap hd hd2, fun j hj => k.cell (hc j hj) hd2⟩

/-- What groups comes to: over the bytes ahead, from group i on. -/
def grp (okf : Nat → Nat → Bool) (stepf : Nat → Nat → Int → Int) : List UInt8 → Nat → Int → Option (Int × Nat)
  | [], _, _ => none
  | b :: r, i, acc =>
    if 10 ≤ i then none
    else if okf i (b.toNat % 128) = false then none
    else if b.toNat < 128 then some (stepf i (b.toNat % 128) acc, i + 1)
    else grp okf stepf r (i + 1) (stepf i (b.toNat % 128) acc)

theorem drop_cons (l : List UInt8) (k : Nat) (h : k < l.length) : l.drop k = l.getD k 0 :: l.drop (k + 1) := by
  rw [List.drop_eq_getElem_cons h]; simp [h]
theorem canTake_one {s : CS} (hf : s.failed = false) (h : s.at_ < s.l.length) : canTake s 1 = true := canTake_of hf (by omega) (by omega)
theorem numberS_one {s : CS} (hf : s.failed = false) (h : s.at_ < s.l.length) : numberS s 1 = { s with at_ := s.at_ + 1 } := by
  unfold numberS takeS; rw [canTake_one hf h]; rfl
theorem numberV_one {s : CS} (hf : s.failed = false) (h : s.at_ < s.l.length) : numberV s 1 = (s.l.getD s.at_ 0).toNat := by
  unfold numberV takeL; rw [canTake_one hf h, drop_cons s.l s.at_ h]
  unfold numOf; cases s.big <;> simp [okSize, beNum, leNum]
theorem and127 (x : Nat) (h : x < 256) : bits .and .u8 (x : Int) 127 = ((x % 128 : Nat) : Int) := by
  have := u8_and_nat x 127 h (by decide)
  rw [show ((127 : Nat) : Int) = 127 from rfl] at this
  rw [this, show (127 : Nat) = 2 ^ 7 - 1 from rfl, Nat.and_two_pow_sub_one_eq_mod]
theorem and128 (x : Nat) (h : x < 256) : bits .and .u8 (x : Int) 128 = if x < 128 then 0 else 128 := by
  have := u8_and_nat x 128 h (by decide)
  rw [show ((128 : Nat) : Int) = 128 from rfl] at this
  rw [this, show (128 : Nat) = 2 ^ 7 from rfl, nat_bit]
  split <;> omega

theorem seekS_back {s : CS} (m : Nat) (hf : s.failed = false) (h : s.at_ ≤ s.l.length) : seekS { s with at_ := m } s.at_ = s := by
  unfold seekS; rw [if_pos ⟨by omega, by show (s.at_ : Int) ≤ s.l.length; omega⟩, if_neg (by show ¬ s.failed = true; rw [hf]; decide)]; simp
theorem grp_none_nil (okf : Nat → Nat → Bool) (stepf : Nat → Nat → Int → Int) (l : List UInt8) (k : Nat) (a : Int) (h : l.length ≤ k) (i : Nat) : grp okf stepf (l.drop k) i a = none := by
  rw [List.drop_eq_nil_of_le h]; rfl
theorem grp_none_ten (okf : Nat → Nat → Bool) (stepf : Nat → Nat → Int → Int) (l : List UInt8) (i : Nat) (a : Int) (h : 10 ≤ i) : grp okf stepf l i a = none := by
  cases l with
  | nil => rfl
  | cons b r => rw [grp, if_pos h]
section
variable (F : FuncId) (K : IntKind) (T : TypeId) (okf : Nat → Nat → Bool) (stepf : Nat → Nat → Int → Int)
/-- The closure at F keeps its number in a block of one cell. -/
def Keeps : Prop := ∀ (W : World) (nb i x : Nat) (acc : Int), i < 10 → x < 128 → W.heap[nb]? = some (.cells #[.int K acc] T (0, 0)) →
  Calls Tryz.prog F #[.int .i64 i, .int .u8 x, .pointer (some ⟨nb, 0, none⟩)] W fun e w' => e = .returned (.bool (okf i x)) ∧ Dr (W.setCell ⟨nb, 0, none⟩ (.int K (stepf i x acc))) w'

set_option maxRecDepth 100000 in
theorem groups_ok (hcf : ∀ (args : Array Value) (W : World), (callFunc F args).run Tryz.prog W = .ok (.enter F args) W) (hK : Keeps F K T okf stepf) (hT : T ≠ 5 ∧ T ≠ 95) (b nb : Nat) (s : CS) (acc : Int) (w : World) (hg : Env w) (h : CurB w b s) (hf : s.failed = false)
    (hn : w.heap[nb]? = some (.cells #[.int K acc] T (0, 0))) :
    Calls Tryz.prog 67 #[.pointer (some ⟨b, 0, none⟩), .func (.func F) #[] #[.pointer (some ⟨nb, 0, none⟩)]] w fun e w' =>
      e = .returned (.bool (grp okf stepf (s.l.drop s.at_) 0 acc).isSome) ∧
      CurB w' b (match grp okf stepf (s.l.drop s.at_) 0 acc with | some (_, n) => { s with at_ := s.at_ + n } | none => failS s) ∧
      (∀ v n, grp okf stepf (s.l.drop s.at_) 0 acc = some (v, n) → w'.heap[nb]? = some (.cells #[.int K v] T (0, 0))) ∧ Chg [b, nb] w w' := by
  have hbn : b ≠ nb := by
    rintro rfl
    obtain ⟨_, _, _, hb, _⟩ := h
    rw [hn] at hb
    simp only [Option.some.injEq, Obj.cells.injEq] at hb
    exact hT.2 hb.2.1
  have HB0 : Hid (b ≠ 1) := env_ne hg h
  have HN0 : Hid (nb ≠ 1) := env_ne_int hg hn
  have H := Lib.hid h
  have HN := Lib.hid hn
  have HF := Lib.hid hf
  have HG := Lib.hid hg
  have HK : Hid (Keeps F K T okf stepf) := hK
  clear h hn hf hg hK
  go_enter Tryz.func67, Tryz.ntmps67
  go_wp2
  go_step3
  go_wp2_with fail
  refine (At_cur b s w H.out).mono ?_
  rintro e w' ⟨rfl, rfl⟩
  go_wp2
  go_step3
  go_wp2
  go_loopw [6, 7, 10] (fun _ _ k10 wr => ∃ (k : Nat) (a : Int), k ≤ 10 ∧ k10 = .int .i64 k ∧ s.at_ + k ≤ s.l.length ∧ CurB wr b { s with at_ := s.at_ + k } ∧ wr.heap[nb]? = some (.cells #[.int K a] T (0, 0)) ∧
      grp okf stepf (s.l.drop (s.at_ + k)) k a = grp okf stepf (s.l.drop s.at_) 0 acc ∧ Env wr ∧ Chg [b, nb] w wr) (fun _ _ k10 _ => 10 - (intOf k10).toNat)
  case atStart => exact ⟨0, acc, by omega, rfl, H.out.at_le, H.out, HN.out, rfl, HG.out, Chg.refl _ _⟩
  case round =>
    obtain ⟨k, a, hk, rfl, hle, hcur, hnr, hgr, henv, hchg⟩ := hrel
    have HC := Lib.hid hcur
    have HNR := Lib.hid hnr
    have HGR := Lib.hid hgr
    have HE := Lib.hid henv
    have HCH := Lib.hid hchg
    have HLE := Lib.hid hle
    clear hcur hnr hgr henv hchg hle
    obtain ⟨g, rfl⟩ : ∃ g, g = wr := ⟨_, rfl⟩
    by_cases hlt : k < 10
    · go_wp2_with fail
      refine (Left_cur b _ _ HC.out).mono ?_
      rintro e w1 ⟨rfl, hd⟩
      have H1 := Lib.hid (HC.out.frame ((Chg.refl [] _).dr hd))
      have HN1 := Lib.hid (((Chg.refl [] _).dr hd).heap HNR.out (by simp))
      have HE1 := Lib.hid (HE.out.frame ((Chg.refl [] _).dr hd) (by simp))
      have HC1 := Lib.hid (HCH.out.dr hd)
      clear hd
      by_cases hz : s.at_ + k = s.l.length
      · have hz2 : ((s.l.length : Int) - ((s.at_ + k : Nat) : Int) == 0) = true := by simp; omega
        have HZ := Lib.hid hz
        clear hz
        go_wp2_with fail
        refine (Seek_cur b _ _ w1 H1.out).mono ?_
        rintro e w5 ⟨rfl, hcur, hch⟩
        rw [seekS_back _ HF.out H.out.at_le] at hcur
        have H5 := Lib.hid hcur
        have HC5 := Lib.hid hch
        clear hcur hch
        go_wp2_with fail
        refine (Fail_cur b _ w5 H5.out).mono ?_
        rintro e w6 ⟨rfl, hcur, hch⟩
        have H6 := Lib.hid hcur
        have HC6 := Lib.hid hch
        clear hcur hch
        go_wp2
        rw [Exit.noGoto_ret]
        go_ret
        have hnone : grp okf stepf (s.l.drop s.at_) 0 acc = none := by
          rw [← HGR.out]
          exact grp_none_nil okf stepf s.l _ a (by rw [HZ.out]; exact Nat.le_refl _) k
        rw [hnone]
        exact ⟨rfl, H6.out, fun v n h => (by cases h), ((HC1.out.trans HC5.out (by simp)).trans HC6.out (by simp))⟩
      · have hz2 : ((s.l.length : Int) - ((s.at_ + k : Nat) : Int) == 0) = false := by simp; omega
        have hpos : s.at_ + k < s.l.length := by have := HLE.out; omega
        have HZ := Lib.hid hpos
        clear hz hpos
        go_wp2_with fail
        refine (Number_cur b _ 1 w1 H1.out).mono ?_
        rintro e w2 ⟨rfl, hcur, hch⟩
        rw [numberS_one (s := { s with at_ := s.at_ + k }) HF.out HZ.out] at hcur
        rw [numberV_one (s := { s with at_ := s.at_ + k }) HF.out HZ.out]
        obtain ⟨x, hx⟩ : ∃ x : Nat, x = (s.l.getD (s.at_ + k) 0).toNat := ⟨_, rfl⟩
        have hx2 : x < 256 := by rw [hx]; exact (s.l.getD (s.at_ + k) 0).toNat_lt
        rw [← hx]
        have HX := Lib.hid hx
        have H2 := Lib.hid hcur
        have HN2 := Lib.hid (hch.heap HN1.out (by simpa using fun h => hbn h.symm))
        have HE2 := Lib.hid (HE1.out.frame hch (by have := HB0.out; simp; omega))
        have HC2 := Lib.hid (HC1.out.trans hch (by simp))
        clear hx hcur hch
        go_wp2_with fail
        refine (Err_ok b _ w2 H2.out HF.out).mono ?_
        rintro e w3 ⟨rfl, hch⟩
        have H3 := Lib.hid (H2.out.frame hch)
        have HN3 := Lib.hid (hch.heap HN2.out (by simp))
        have HE3 := Lib.hid (HE2.out.frame hch (by simp))
        have HC3 := Lib.hid (HC2.out.then hch)
        clear hch
        go_wp2_with fail
        rw [and127 x hx2]
        refine (HK.out w3 nb k (x % 128) a hlt (by omega) HN3.out).mono ?_
        rintro e w4 ⟨rfl, hd⟩
        have hch : Chg [nb] w3 w4 := ((Chg.refl [nb] w3).setCell _ _ (.inl (by simp))).dr hd
        have H4 := Lib.hid (H3.out.frame3 HN3.out hT.1 hbn hch)
        have HN4 : Hid (w4.heap[nb]? = some (.cells #[.int K (stepf k (x % 128) a)] T (0, 0))) := by
          show _
          rw [hd.heap, heap_setCell HN3.out]; rfl
        have HE4 := Lib.hid (HE3.out.frame hch (by have := HN0.out; simp; omega))
        have HC4 := Lib.hid (HC3.out.trans hch (by simp))
        have HGS : Hid (grp okf stepf (s.l.drop (s.at_ + k)) k a = if okf k (x % 128) = false then none else if x < 128 then some (stepf k (x % 128) a, k + 1) else grp okf stepf (s.l.drop (s.at_ + k + 1)) (k + 1) (stepf k (x % 128) a)) := by
          apply Lib.hid
          rw [drop_cons s.l _ HZ.out, grp, if_neg (by omega), ← HX.out]
        clear hd hch
        cases hokf : okf k (x % 128) with
        | false =>
          have HOK := Lib.hid hokf
          clear hokf
          go_wp2_with fail
          refine (Seek_cur b _ _ w4 H4.out).mono ?_
          rintro e w5 ⟨rfl, hcur, hch⟩
          rw [seekS_back _ HF.out H.out.at_le] at hcur
          have H5 := Lib.hid hcur
          have HC5 := Lib.hid hch
          clear hcur hch
          go_wp2_with fail
          refine (Fail_cur b _ w5 H5.out).mono ?_
          rintro e w6 ⟨rfl, hcur, hch⟩
          have H6 := Lib.hid hcur
          have HC6 := Lib.hid hch
          clear hcur hch
          go_wp2
          rw [Exit.noGoto_ret]
          go_ret
          have hnone : grp okf stepf (s.l.drop s.at_) 0 acc = none := by
            rw [← HGR.out]
            exact by rw [HGS.out, if_pos HOK.out]
          rw [hnone]
          exact ⟨rfl, H6.out, fun v n h => (by cases h), ((HC4.out.trans HC5.out (by simp)).trans HC6.out (by simp))⟩
        | true =>
          have HOK := Lib.hid hokf
          clear hokf
          have h128 := and128 x hx2
          by_cases hx128 : x < 128
          · rw [if_pos hx128] at h128
            have HX128 := Lib.hid hx128
            clear hx128
            go_wp2
            rw [Exit.noGoto_ret]
            go_ret
            have hsome : grp okf stepf (s.l.drop s.at_) 0 acc = some (stepf k (x % 128) a, k + 1) := by
              rw [← HGR.out, HGS.out, if_neg (by rw [HOK.out]; decide), if_pos HX128.out]
            rw [hsome]
            exact ⟨rfl, H4.out, fun v n h => (by cases h; exact HN4.out), HC4.out⟩
          · rw [if_neg hx128] at h128
            have HX128 := Lib.hid hx128
            clear hx128
            go_wp2
            go_roundw
            case rel => exact ⟨k + 1, _, by omega, by go_num, HZ.out, H4.out, HN4.out, (by rw [← HGR.out, HGS.out, if_neg (by rw [HOK.out]; decide), if_neg HX128.out]; rfl), HE4.out, HC4.out⟩
            case measure => simp [intOf]; omega
    · go_wp2_with fail
      refine (Seek_cur b _ _ g HC.out).mono ?_
      rintro e w5 ⟨rfl, hcur, hch⟩
      rw [seekS_back _ HF.out H.out.at_le] at hcur
      have H5 := Lib.hid hcur
      have HC5 := Lib.hid hch
      clear hcur hch
      go_wp2_with fail
      refine (Fail_cur b _ w5 H5.out).mono ?_
      rintro e w6 ⟨rfl, hcur, hch⟩
      have H6 := Lib.hid hcur
      have HC6 := Lib.hid hch
      clear hcur hch
      go_wp2
      rw [Exit.noGoto_ret]
      go_ret
      have hnone : grp okf stepf (s.l.drop s.at_) 0 acc = none := by
        rw [← HGR.out]
        exact grp_none_ten okf stepf _ _ _ (by omega)
      rw [hnone]
      exact ⟨rfl, H6.out, fun v n h => (by cases h), ((HCH.out.trans HC5.out (by simp)).trans HC6.out (by simp))⟩
end
end Go.Proofs.YtaipelkegemoeaaGreatDoor
/- leb.Uleb and leb.Sleb: the closures, and the two functions. -/
namespace Go.Proofs.YtaipelkegemoeaaGreatDoor
open Go.RowKit

def uOk (i x : Nat) : Bool := decide (i < 9) || decide (x ≤ 1)
def uStep (i x : Nat) (acc : Int) : Int := bits .or .u64 acc (IntKind.u64.wrap ((x : Int) * 2 ^ (7 * i)))
theorem uclos : Keeps 68 .u64 28 uOk uStep := by
  intro W nb i x acc hi hx h
  have h0 := cell_of_heap h 0
  have f0 := frozen_of_heap h 0
  simp at h0
  clear h
  have hr : ∀ c : Bool, c = uOk i x → Ending.returned (.bool c) = .returned (.bool (uOk i x)) := fun c h => by rw [h]
  by_cases h9 : i < 9
  · go_enter Tryz.func68, Tryz.ntmps68
    go_wp2
    go_region
    go_wp2
    go_ret
    exact ⟨hr _ (by simp [uOk]; omega), ((Dr.refl W).set _ _).drew⟩
  · have e9 : decide ((i : Int) < 9) = false := by simp; omega
    go_enter Tryz.func68, Tryz.ntmps68
    go_wp2
    go_region
    go_wp2
    go_ret
    exact ⟨hr _ (by simp [uOk, h9]; omega), ((Dr.refl W).set _ _).drew⟩

section
variable (W : World) (nb i x : Nat) (acc : Int) (h : W.heap[nb]? = some (.cells #[.int .i64 acc] 2 (0, 0)))
include h
end
end Go.Proofs.YtaipelkegemoeaaGreatDoor
/- leb.groups at a cursor that has failed and at one that is not there; Uleb and Sleb. -/
namespace Go.Proofs.YtaipelkegemoeaaGreatDoor
open Go.RowKit

theorem seekS_failed {s : CS} (at_ : Nat) (hf : s.failed = true) (h : at_ ≤ s.l.length) : seekS s at_ = s := by
  unfold seekS; rw [if_pos ⟨by omega, by omega⟩, if_pos hf]
theorem canTake_failed {s : CS} (n : Int) (hf : s.failed = true) : canTake s n = false := by simp [canTake, hf]
theorem groups_bad (fv : Value) (b : Nat) (s : CS) (w : World) (hg : Env w) (h : CurB w b s) (hf : s.failed = true) :
    Calls Tryz.prog 67 #[.pointer (some ⟨b, 0, none⟩), fv] w fun e w' => e = .returned (.bool false) ∧ CurB w' b s ∧ Chg [b] w w' := by
  have HB0 : Hid (b ≠ 1) := env_ne hg h
  have H := Lib.hid h
  have HF := Lib.hid hf
  have HG := Lib.hid hg
  clear h hf hg
  go_enter Tryz.func67, Tryz.ntmps67
  go_wp2
  go_step3
  go_wp2_with fail
  refine (At_cur b s w H.out).mono ?_
  rintro e w' ⟨rfl, rfl⟩
  go_wp2
  go_step3
  go_wp2
  refine wp_loop_rounds 1 ?_
  rw [rounds_succ]
  go_wp2_with fail
  refine (Left_cur b _ _ H.out).mono ?_
  rintro e w1 ⟨rfl, hd⟩
  have H1 := Lib.hid (H.out.frame ((Chg.refl [] _).dr hd))
  have HE1 := Lib.hid (HG.out.frame ((Chg.refl [] _).dr hd) (by simp))
  have HC1 := Lib.hid ((Chg.refl [b] _).dr hd)
  clear hd
  by_cases hz : s.at_ = s.l.length
  · have hz2 : ((s.l.length : Int) - ((s.at_ : Nat) : Int) == 0) = true := by simp; omega
    clear hz
    go_wp2_with fail
    refine (Seek_cur b _ _ w1 H1.out).mono ?_
    rintro e w5 ⟨rfl, hcur, hch⟩
    rw [seekS_failed _ HF.out H.out.at_le] at hcur
    have H5 := Lib.hid hcur
    have HC5 := Lib.hid hch
    clear hcur hch
    go_wp2_with fail
    refine (Fail_cur b _ w5 H5.out).mono ?_
    rintro e w6 ⟨rfl, hcur, hch⟩
    rw [failS_of HF.out] at hcur
    have H6 := Lib.hid hcur
    have HC6 := Lib.hid hch
    clear hcur hch
    go_wp2
    rw [Exit.noGoto_ret]
    go_ret
    exact ⟨rfl, H6.out, (HC1.out.same HC5.out).same HC6.out⟩
  · have hz2 : ((s.l.length : Int) - ((s.at_ : Nat) : Int) == 0) = false := by simp; omega
    clear hz
    go_wp2_with fail
    refine (Number_cur b _ 1 w1 H1.out).mono ?_
    rintro e w2 ⟨rfl, hcur, hch⟩
    have e1 : numberS s 1 = s := by unfold numberS; rw [if_pos (by decide), takeS_no (canTake_failed 1 HF.out), failS_of HF.out]
    have e2 : numberV s 1 = 0 := by unfold numberV; rw [if_pos (by decide), takeL_no (canTake_failed 1 HF.out)]; unfold numOf; split <;> rfl
    rw [e1] at hcur
    rw [e2]
    have H2 := Lib.hid hcur
    have HE2 := Lib.hid (HE1.out.frame hch (by have := HB0.out; simp; omega))
    have HC2 := Lib.hid (HC1.out.same hch)
    clear e1 e2 hcur hch
    go_wp2_with fail
    refine (Err_bad b _ w2 HE2.out H2.out HF.out).mono ?_
    rintro e w3 ⟨rfl, hch⟩
    have H3 := Lib.hid (H2.out.frame hch)
    have HC3 := Lib.hid (HC2.out.then hch)
    clear hch
    go_wp2
    rw [Exit.noGoto_ret]
    go_ret
    exact ⟨rfl, H3.out, HC3.out⟩

/-- The number ahead, as Go's groups take it. -/
def ulebR (l : List UInt8) : Option (Int × Nat) := grp uOk uStep l 0 0
def lebS (r : List UInt8 → Option (Int × Nat)) (s : CS) : CS := if s.failed then s else match r (s.l.drop s.at_) with | some (_, n) => { s with at_ := s.at_ + n } | none => failS s
def lebV (r : List UInt8 → Option (Int × Nat)) (s : CS) : Int := if s.failed then 0 else match r (s.l.drop s.at_) with | some (v, _) => v | none => 0

theorem Tryz.cfU (args : Array Value) (W : World) : (callFunc 68 args).run Tryz.prog W = .ok (.enter 68 args) W := by kernel_rfl


theorem Uleb_cur (b : Nat) (s : CS) (w : World) (hg : Env w) (h : CurB w b s) :
    Calls Tryz.prog 46 #[.pointer (some ⟨b, 0, none⟩)] w fun e w' => e = .returned (.int .u64 (lebV ulebR s)) ∧ CurB w' b (lebS ulebR s) ∧ Chg [b] w w' := by
  have hmf : ∀ (fn : Fn) (first cap : Array Value) (w : World), (Instr.makeFunc fn first cap).run Tryz.prog w = .ok (.func fn first cap) w := fun _ _ _ _ => rfl
  have H := Lib.hid (h.frame ((Chg.refl [] w).alloc (.cells #[.int .u64 0] 28)))
  have HG := Lib.hid (hg.frame ((Chg.refl [] w).alloc (.cells #[.int .u64 0] 28)) (by simp))
  have HN := Lib.hid (heap_alloc_eq w (.cells #[.int .u64 0] 28))
  have HLT := h.lt
  clear h hg
  cases hf : s.failed with
  | true =>
    have HF := Lib.hid hf
    clear hf
    go_enter Tryz.func46, Tryz.ntmps46
    go_wp2_with fail
    refine (groups_bad _ b s _ HG.out H.out HF.out).mono ?_
    rintro e w1 ⟨rfl, hcur, hch⟩
    have H1 := Lib.hid hcur
    have HC1 := Lib.hid hch
    clear hcur hch
    go_wp2
    go_ret
    exact ⟨by unfold lebV; rw [if_pos HF.out]; rfl, by unfold lebS; rw [if_pos HF.out]; exact H1.out, ((Chg.refl [b] w).alloc _).same HC1.out⟩
  | false =>
    have HF := Lib.hid hf
    clear hf
    go_enter Tryz.func46, Tryz.ntmps46
    go_wp2_with fail
    refine (groups_ok _ .u64 28 uOk uStep Tryz.cfU uclos (by decide) b w.heap.size s 0 _ HG.out H.out HF.out HN.out).mono ?_
    rintro e w1 ⟨rfl, hcur, hn, hch⟩
    have HV : Hid (lebV ulebR s = match ulebR (s.l.drop s.at_) with | some (v, _) => v | none => 0) := by
      apply Lib.hid
      unfold lebV; rw [if_neg (by rw [HF.out]; decide)]
    have H1 : Hid (CurB w1 b (lebS ulebR s)) := by
      apply Lib.hid
      unfold lebS; rw [if_neg (by rw [HF.out]; decide)]
      exact hcur
    have HC1 : Hid (Chg [b] w w1) := Lib.hid (((Chg.refl [b] w).alloc _).trans hch (by simp))
    have HR : Hid (grp uOk uStep (s.l.drop s.at_) 0 0 = ulebR (s.l.drop s.at_)) := Lib.hid rfl
    rw [HR.out] at hn
    rw [HR.out]
    clear hcur hch
    cases hr : ulebR (s.l.drop s.at_) with
    | none =>
      rw [hr] at HV
      clear hn hr
      go_wp2
      go_ret
      exact ⟨by rw [HV.out]; rfl, H1.out, HC1.out⟩
    | some p =>
      obtain ⟨v, n⟩ := p
      rw [hr] at HV hn
      have hc := cell_of_heap (hn v n rfl) 0
      simp only [List.getElem?_toArray, List.getElem?_cons_zero] at hc
      clear hn hr
      go_wp2
      go_ret
      exact ⟨by rw [HV.out]; rfl, H1.out, HC1.out⟩
end Go.Proofs.YtaipelkegemoeaaGreatDoor
/- A cursor stays across a write to blocks behind its own. -/
namespace Go.Proofs.YtaipelkegemoeaaGreatDoor
open Go.RowKit

theorem CurB.far2 {w w' : World} {b : Nat} {s : CS} (h : CurB w b s) {S : List Nat} (k : Chg S w w') (hS : ∀ i ∈ S, b < i) : CurB w' b s := by
  obtain ⟨a, n, cap, hb, h1, h2, h3, h4, h5, h6⟩ := h
  refine ⟨a, n, cap, k.heap hb (fun hm => by have := hS b hm; omega), h1, h2, h3, h4, h5, fun hn => ?_⟩
  obtain ⟨d, off, c, ha, hdb, hd, hc⟩ := h6 hn
  have hdS : d ∉ S := fun hm => by have := hS d hm; omega
  exact ⟨d, off, c, ha, hdb, k.heap hd hdS, fun j hj => k.cell (hc j hj) hdS⟩
end Go.Proofs.YtaipelkegemoeaaGreatDoor
/- rebase: step, so many at once, behind a number. -/
namespace Go.Proofs.YtaipelkegemoeaaGreatDoor
open Go.RowKit
set_option maxRecDepth 100000

set_option maxHeartbeats 2000000 in
theorem step_num (b bc : Nat) (r : Rdr) (imm n : Nat) (s : CS) (ht : r.typ = 1) (hi : r.is_ = true) (R : Int → World → Prop) (hc : r.c = some ⟨bc, 0, none⟩) (w : World) (hg : Env w) (hcur : CurB w bc s) (hne : b ≠ bc) (hf : (lebS ulebR s).failed = false) (hv : lebV ulebR s = n) (hb : rdrL.Box w b r)
    (hm : ∀ W, Chg [bc] w W → CurB W bc (lebS ulebR s) → Calls Tryz.prog 51 #[.pointer (some ⟨b, 0, none⟩), .int .u64 n, .int .u64 0] W fun e w' => ∃ q : Int, e = .returned (.int .i64 q) ∧ R q w') :
    Calls Tryz.prog 26 #[.pointer (some ⟨b, 0, none⟩), .int .u8 6, .int .u8 imm] w fun e w' => ∃ q : Int, e = .returned (.int .i64 q) ∧ R q w' := by
  have HNU := Lib.hid (fun w => numbers_any 6 (by decide) w)
  have HER := Lib.hid (fun w hcur => Err_ok bc (lebS ulebR s) w hcur hf)
  have HRE := Lib.hid (fun w hb => ready_any b r 6 (by decide) w hb)
  have HUL := Lib.hid (fun w hg hcur => Uleb_cur bc s w hg hcur)
  rw [hv] at HUL
  rw [show readyOf 6 r.typ r.is_ = true by rw [ht, hi]; rfl] at HRE
  have Hcur := Lib.hid hcur
  have Hb := Lib.hid hb
  have Hf := Lib.hid hf
  have Hm := Lib.hid hm
  have Ht := Lib.hid ht
  have Hi := Lib.hid hi
  have Hg := Lib.hid hg
  have Hv := Lib.hid hv
  clear hcur hb hf hm ht hi hg hv
  go_enter Tryz.func26, Tryz.ntmps26
  go_wp2_with fail
  refine (HNU.out _).mono ?_
  rintro e W1 ⟨rfl, h1⟩
  rw [show ((numsOf 6 : Nat) : Int) = 1 from rfl]
  have hA := h1.heap (heap_alloc_eq w (.cells #[.int .u64 0, .int .u64 0] 98)) (by simp)
  have hlt := Hcur.out.lt
  have hbs : b < w.heap.size := Hb.out.lt
  have C1 : Hid (Chg [] w W1) := Lib.hid (((Chg.refl [] w).alloc _).then h1)
  have HA := Lib.hid hA
  clear hA
  clear h1
  go_wp2_with fail
  go_loopw [13] (fun s13 wr => (s13 = .int .i64 0 ∧ wr = W1) ∨ (s13 = .int .i64 1 ∧ Chg [bc] w wr ∧ CurB wr bc (lebS ulebR s) ∧ wr.cell? ⟨w.heap.size, 0, none⟩ = some (.int .u64 n))) (fun s13 _ => 1 - (intOf s13).toNat)
  case atStart => exact .inl ⟨rfl, rfl⟩
  case round =>
    rcases hrel with ⟨rfl, rfl⟩ | ⟨rfl, h1, h2, h3⟩
    · have B1 := Lib.hid (Hb.out.frame C1.out)
      have x0 := Rdr.c_c B1.out
      rw [hc] at x0
      go_wp2_with fail
      refine (HUL.out _ (Hg.out.frame C1.out (by simp)) (Hcur.out.frame C1.out)).mono ?_
      rintro e W2 ⟨rfl, hc2, h2⟩
      have hA2 := h2.heap HA.out (by simp; omega)
      have a0 := cell_of_heap hA2 0
      have f0 := frozen_of_heap hA2 0
      simp at a0
      have C2 : Hid (Chg [bc] w W2) := Lib.hid (C1.out.add.same h2)
      have HC2 := Lib.hid hc2
      clear hc2
      clear h2 hA2 x0
      go_wp2
      go_roundw
      case rel =>
        refine .inr ⟨rfl, C2.out.setCell _ _ (.inr (Nat.le_refl _)), HC2.out.far2 (S := [w.heap.size]) ((Chg.refl _ _).setCell _ _ (.inl (by simp))) (by simp; omega), World.cell?_setCell_same _ _ _ a0⟩
      case measure => simp [intOf]
    · have C1a := Lib.hid h1
      have HC1 := Lib.hid h2
      have A1 := Lib.hid h3
      clear h1 h2 h3
      have BB := Lib.hid (Hb.out.frameS C1a.out (by simp; omega))
      have x0 := Rdr.c_c BB.out
      rw [hc] at x0
      go_wp2_with fail
      refine (HER.out _ HC1.out).mono ?_
      rintro e W2 ⟨rfl, h2⟩
      have C2 := Lib.hid (C1a.out.then h2)
      have HC2 := Lib.hid (HC1.out.frame h2)
      have a2 := h2.cell A1.out (by simp)
      clear h2 x0
      go_wp2_with fail
      refine (HRE.out _ (Hb.out.frameS C2.out (by simp; omega))).mono ?_
      rintro e W3 ⟨rfl, h3⟩
      have C3 := Lib.hid (C2.out.then h3)
      have HC3 := Lib.hid (HC2.out.frame h3)
      have a3 := h3.cell a2 (by simp)
      clear h3 a2
      go_wp2_with fail
      refine (Hm.out _ C3.out HC3.out).mono ?_
      rintro e W4 ⟨q, rfl, h4⟩
      have R4 := Lib.hid h4
      clear h4
      go_wp2
      go_ret
      exact ⟨q, rfl, R4.out⟩
end Go.Proofs.YtaipelkegemoeaaGreatDoor
