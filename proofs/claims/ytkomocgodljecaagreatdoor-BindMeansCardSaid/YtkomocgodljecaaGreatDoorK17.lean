/- Lemmas, laid together: part 17 of 41. Conditions: none but each lemma's own. -/
import Derived.Test.YtkomocgodljecaaGreatDoorK3
import Derived.Test.YtkomocgodljecaaGreatDoorProg
import Derived.Deep.CutRange
import Derived.StillTailTactics
import Derived.Handy
import Derived.Test.YtkomocgodljecaaGreatDoorK13
import Derived.Lib.Bytealg
import Derived.Lib.AppendStr
import Derived.Laws.BytesString
import Derived.Test.YtkomocgodljecaaGreatDoorK16
import Derived.Test.YtkomocgodljecaaGreatDoorK14
/- Rows of bytes; chain.put. -/
namespace Go.Proofs.YtkomocgodljecaaGreatDoor
open Go.RowKit
set_option maxRecDepth 100000

def byteL : Lay UInt8 := ⟨1, fun b => [.int .u8 b.toNat], 0, fun _ => rfl, by decide, fun x u hu => by
  simp only [List.mem_singleton] at hu
  subst hu
  rfl⟩
abbrev BB (w : World) (base : Nat) (v : Value) (l : List UInt8) : Prop := byteL.Buf 5 w base v l
theorem Tryz.infoByte : Lay.Info Tryz.prog 34 5 byteL.n 1 := Lay.Info.mk' (z := .int .u8 0) (by kernel_rfl) (by kernel_rfl) rfl
/-- A number's bytes, the lowest first. -/
def leB (n size : Nat) : List UInt8 := (List.range size).map fun i => UInt8.ofNat (n / 2 ^ (8 * i))
theorem leB_len (n k : Nat) : (leB n k).length = k := by simp [leB]
/-- Where a row that grew lies. -/
def Loc (w : World) (v v' : Value) : Prop := v'.ownBlock = v.ownBlock ∨ ∃ k, v'.ownBlock = some k ∧ w.heap.size ≤ k
end Go.Proofs.YtkomocgodljecaaGreatDoor
/- Plain: where a text ends; bytes as two kinds of rows. -/
namespace Go.Proofs.YtkomocgodljecaaGreatDoor
open Go.RowKit
set_option maxRecDepth 100000

/-- A row of bytes reads as their values. -/
theorem Rd_of_byte {w : World} {v : Value} {l : List UInt8} (h : byteL.Rd w v l) : Rd w v (bytesV l) := by
  obtain ⟨a, n, cap, rfl, hn, hc, hm, hx⟩ := h
  refine ⟨a, n, cap, rfl, by rw [bytesV_length]; exact hn, hc, hm, fun hne => ?_⟩
  obtain ⟨b, off, e, _, hcell⟩ := hx (by rintro rfl; exact hne rfl)
  refine ⟨b, off, e, fun j hj => ?_⟩
  rw [bytesV_length] at hj
  have := hcell j hj 0 (by decide)
  rw [show byteL.n = 1 from rfl, Nat.mul_one, Nat.add_zero] at this
  rw [this, bytesV_get l j hj]
  rfl
theorem Rd_to_byte {w : World} {v : Value} {l : List UInt8} (h : Rd w v (bytesV l)) : byteL.Rd w v l := by
  obtain ⟨a, n, cap, rfl, hn, hc, hm, hx⟩ := h
  rw [bytesV_length] at hn hx
  refine ⟨a, n, cap, rfl, hn, hc, hm, fun hne => ?_⟩
  obtain ⟨b, off, e, hcell⟩ := hx (by
    intro e
    have := congrArg List.length e
    rw [bytesV_length] at this
    exact hne (List.eq_nil_of_length_eq_zero this))
  have hp : 0 < l.length := List.length_pos_iff.2 hne
  refine ⟨b, off, e, ?_, fun j hj c hc => ?_⟩
  · have h0 := hcell 0 hp
    rw [bytesV_get l 0 hp] at h0
    exact World.block_lt_of_cell? w _ h0
  · have hc0 : c = 0 := by have : byteL.n = 1 := rfl; omega
    subst hc0
    rw [show byteL.n = 1 from rfl, Nat.mul_one, Nat.add_zero, hcell j hj, bytesV_get l j hj]
    rfl
/-- Where the next 0 stands. -/
def zeroAt (s : CS) : Int := Lib.indexByte (s.l.drop s.at_) 0
def textOk (s : CS) (most : Int) : Bool := !s.failed && decide (0 ≤ zeroAt s) && decide (zeroAt s ≤ most)
def textS (s : CS) (most : Int) : CS := if textOk s most then ⟨s.l, s.at_ + (zeroAt s).toNat + 1, s.big, false⟩ else failS s
def textL (s : CS) (most : Int) : List UInt8 := if textOk s most then (s.l.drop s.at_).take (zeroAt s).toNat else []
theorem indexByte_lt (l : List UInt8) (c : UInt8) : Lib.indexByte l c < l.length := by
  induction l with
  | nil => simp [Lib.indexByte]
  | cons b l ih =>
    unfold Lib.indexByte
    split
    · simp only [List.length_cons]; omega
    · split
      · simp; omega
      · simp only [List.length_cons]; omega
theorem Rd_takeG {w : World} {a : Option Addr} {n cap k : Nat} {l : List UInt8} (h : Rd w (.slice a n cap) (bytesV l)) (hk : k ≤ l.length) : Rd w (.slice a k cap) (bytesV (l.take k)) := by
  obtain ⟨a', n', cap', he, hn, hnc, hcm, hx⟩ := h
  cases he
  rw [bytesV_length] at hn hx
  refine ⟨_, _, _, rfl, by simp [bytesV]; omega, by omega, hcm, fun hne => ?_⟩
  have hlen : (bytesV (l.take k)).length = k := by simp [bytesV]; omega
  have hk0 : 0 < k := by
    rcases Nat.eq_zero_or_pos k with h0 | h0
    · subst h0; simp [bytesV] at hne
    · exact h0
  obtain ⟨b, off, h, hcell⟩ := hx (by intro e; have : (bytesV l).length = 0 := by rw [e]; rfl
                                      rw [bytesV_length] at this; omega)
  subst h
  refine ⟨_, _, rfl, fun j hj => ?_⟩
  rw [hlen] at hj
  rw [hcell j (by omega), bytesV_get l j (by omega), bytesV_get _ j (by simp; omega)]
  simp [hj]
theorem takeL_list {s : CS} {m : Int} (h : canTake s m = true) : takeL s m = (s.l.drop s.at_).take m.toNat := by unfold takeL; rw [h, if_pos rfl]
end Go.Proofs.YtkomocgodljecaaGreatDoor
/- append(b, s...) of a string, onto bytes of the call's own; where it lies. -/
namespace Go.Proofs.YtkomocgodljecaaGreatDoor
open Go.RowKit
set_option maxRecDepth 100000

theorem byte_vals (l : List UInt8) : byteL.vals l = l.map fun b => Value.int .u8 b.toNat := by
  induction l with
  | nil => rfl
  | cons b r ih => rw [Lay.vals_cons, ih]; rfl
theorem str_vals (s : ByteArray) : Lib.strCells s = byteL.vals s.data.toList := by rw [byte_vals]; rfl
theorem str_len (s : ByteArray) : s.data.toList.length = s.size := by rw [Array.length_toList]; rfl
theorem Tryz.uStr : Tryz.prog.underlying 9 = some .string := by kernel_rfl
end Go.Proofs.YtkomocgodljecaaGreatDoor
/- Bytes as a string; a part of a row of bytes. -/
namespace Go.Proofs.YtkomocgodljecaaGreatDoor
open Go.RowKit
set_option maxRecDepth 100000

theorem foldl_push' (ns : List Int) (s : ByteArray) : ns.foldl (fun r n => r.push (UInt8.ofNat n.toNat)) s = ⟨s.data ++ (ns.map fun n => UInt8.ofNat n.toNat).toArray⟩ := by
  induction ns generalizing s with
  | nil => simp
  | cons n r ih => simp only [List.foldl_cons, ih]; simp [ByteArray.push]
/-- string(v), v a slice of bytes. -/
theorem run_strB {w : World} {a : Option Addr} {n cap : Nat} {l : List UInt8} (h : byteL.Rd w (.slice a n cap) l) :
    (convert 34 9 (.slice a n cap)).run Tryz.prog w = .ok (.string ⟨l.toArray⟩) w := by
  rw [run_convert_bytes_string (P := Tryz.prog) w 34 9 5 a n cap Tryz.underlying34 Tryz.underlying5 Tryz.underlying9]
  cases a with
  | none =>
    obtain ⟨a', n', cap', he, hn, hnc, hcm, hx⟩ := h
    cases he
    have hnil : l = [] := by
      cases l with
      | nil => rfl
      | cons x r => obtain ⟨b, off, h, _⟩ := hx (by simp); cases h
    subst hnil
    subst hn
    rfl
  | some ad =>
    obtain ⟨hn, hc⟩ := Lay.Rd.cells h
    subst hn
    have hload : (loadCells ad l.length).run Tryz.prog w = .ok ((l.map fun x => (x.toNat : Int)).map (Value.int .u8)).toArray w := by
      have hxs : (l.map fun x => (x.toNat : Int)).map (Value.int .u8) = byteL.vals l := by rw [byte_vals]; simp [Function.comp_def]
      rw [hxs]
      have := run_loadCells_list (P := Tryz.prog) (w := w) ad (byteL.vals l) (fun j u hu => hc j u hu)
      rw [Lay.vals_len, show byteL.n = 1 from rfl, Nat.mul_one] at this
      exact this
    rw [run_bytesToString w ad l.length cap _ hload, foldl_push']
    have e : (l.map fun x => (x.toNat : Int)).map (fun n => UInt8.ofNat n.toNat) = l := by
      rw [List.map_map]
      conv => rhs; rw [← List.map_id l]
      refine List.map_congr_left fun x _ => ?_
      simp
    rw [e]
    simp
end Go.Proofs.YtkomocgodljecaaGreatDoor
/- cursor.Text, walked. -/
namespace Go.Proofs.YtkomocgodljecaaGreatDoor
open Go.RowKit
set_option maxRecDepth 100000

theorem run_str {w : World} {a : Option Addr} {n cap : Nat} {l : List UInt8} (h : Rd w (.slice a n cap) (bytesV l)) :
    (convert 34 9 (.slice a n cap)).run Tryz.prog w = .ok (.string ⟨l.toArray⟩) w := run_strB (Rd_to_byte h)
theorem bytesOf_map (l : List UInt8) : Lib.bytesOf (l.map fun x => (x.toNat : Int)) = l := by
  unfold Lib.bytesOf
  rw [List.map_map]
  conv => rhs; rw [← List.map_id l]
  refine List.map_congr_left fun x _ => ?_
  simp
theorem IndexByte_rd (a : Option Addr) (n cap : Nat) (l : List UInt8) (w : World) (h : Rd w (.slice a n cap) (bytesV l)) :
    Calls Tryz.prog 94 #[.slice a n cap, .int .u8 0] w fun e w' => e = .returned (.int .i64 (Lib.indexByte l 0)) ∧ w' = w := by
  obtain ⟨a', n', cap', he, hn, hnc, hcm, hx⟩ := h
  cases he
  rw [bytesV_length] at hn
  subst hn
  cases a with
  | none =>
    have hnil : l = [] := by
      cases l with
      | nil => rfl
      | cons x r => obtain ⟨b, off, h, _⟩ := hx (by simp [bytesV]); cases h
    subst hnil
    clear hx hnc hcm
    go_enter Tryz.func94, Tryz.ntmps94
    go_wp2
    rw [run_callFunc_extern Tryz.func117 (by kernel_rfl) (by kernel_rfl) (by kernel_rfl) (e := Extern.BytealgIndexByte.indexByte) (by kernel_rfl), Lib.run_indexByteNil w _ cap 0]
    simp only [Result.andThen]
    rw [Oper.upon_value]
    go_wp2
    go_ret
    exact ⟨rfl, rfl⟩
  | some ad =>
    have := Tryz.bytes_IndexByte_at ad l.length cap (l.map fun x => (x.toNat : Int)) 0 w (by simp) (fun i hi => by
      obtain ⟨b, off, h, hcell⟩ := hx (by intro e; have := congrArg List.length e; rw [bytesV_length] at this; rw [this] at hi; exact absurd hi (by simp))
      cases h
      rw [Addr_add, hcell i (by rw [bytesV_length]; exact hi), bytesV_get l i hi]
      simp [List.getD_eq_getElem?_getD, hi])
    rw [bytesOf_map] at this
    exact this
theorem Text_cur (b : Nat) (s : CS) (most : Int) (w : World) (h : CurB w b s) :
    Calls Tryz.prog 70 #[.pointer (some ⟨b, 0, none⟩), .int .i64 most] w fun e w' => e = .returned (.string ⟨(textL s most).toArray⟩) ∧ CurB w' b (textS s most) ∧ Chg [b] w w' := by
  have H := Lib.hid h
  clear h
  by_cases hf : s.failed = true
  · have HT : Hid (textOk s most = false) := Lib.hid (by simp [textOk, hf])
    have HF := Lib.hid hf
    clear hf
    go_enter Tryz.func70, Tryz.ntmps70
    go_wp2_with fail
    refine (well_cur b s true w H.out).mono ?_
    rintro e w1 ⟨rfl, hcx, hch⟩
    rw [HF.out]
    have HC := Lib.hid hcx
    have HH := Lib.hid hch
    clear hcx hch
    go_wp2
    go_ret
    refine ⟨by unfold textL; rw [HT.out]; rfl, by unfold textS; rw [HT.out]; rw [failS_of HF.out]; exact HC.out, HH.out⟩
  · have HF : Hid (s.failed = false) := Lib.hid (by simpa using hf)
    clear hf
    go_enter Tryz.func70, Tryz.ntmps70
    go_wp2_with fail
    refine (well_cur b s true w H.out).mono ?_
    rintro e w1 ⟨rfl, hcx, hch⟩
    rw [HF.out]
    replace hcx : CurB w1 b s := hcx
    have HC := Lib.hid hcx
    have HH := Lib.hid hch
    clear H
    obtain ⟨a, n, cap, hb, rfl, h2, h3, h4, h5, h6⟩ := hcx
    have hc0 : w1.drew.cell? ⟨b, 0, none⟩ = _ := cell_of_heap hb 0
    have hc1 : w1.drew.cell? ⟨b, 1, none⟩ = _ := cell_of_heap hb 1
    simp at hc0 hc1
    have HRD : Hid (∀ a', (s.at_ = s.l.length ∨ ∃ d off, a = some ⟨d, off, none⟩ ∧ a' = some ⟨d, off + s.at_, none⟩) → Rd w1.drew (.slice a' (s.l.length - s.at_) (cap - s.at_)) (bytesV (s.l.drop s.at_))) := Lib.hid (by
      intro a' h
      have e : (bytesV (s.l.drop s.at_)).length = s.l.length - s.at_ := by simp [bytesV]
      refine ⟨_, _, _, rfl, e.symm, by omega, by omega, fun hne => ?_⟩
      have hpos : 0 < s.l.length - s.at_ := by rw [← e]; exact List.length_pos_iff.2 hne
      rcases h with h | ⟨d, off, rfl, rfl⟩
      · omega
      · refine ⟨d, _, rfl, fun j hj => ?_⟩
        rw [e] at hj
        have hl0 : 0 < s.l.length := by omega
        have hl1 : s.at_ + j < s.l.length := by omega
        obtain ⟨d', off', c, ha, hdb, hd', hc'⟩ := h6 hl0
        cases ha
        have := hc' (s.at_ + j) hl1
        rw [Nat.add_assoc, bytesV_get _ _ (by simp; omega)]
        show w1.cell? _ = _
        rw [this]
        simp [List.getD_eq_getElem?_getD])
    have HA : Hid (s.at_ < s.l.length → ∃ d off, a = some ⟨d, off, none⟩) := Lib.hid (fun h => by obtain ⟨d, off, _, ha, _⟩ := h6 (by omega); exact ⟨d, off, ha⟩)
    clear hb hch h6
    have hdec : decide ((s.at_ : Int) ≤ s.l.length) = true := by rw [decide_eq_true_iff]; omega
    by_cases hlt : s.at_ < s.l.length
    · obtain ⟨d, off, rfl⟩ := HA.out hlt
      have hne : ¬ (s.l.length - s.at_ = 0) := by omega
      have hne2 : ¬ (cap - s.at_ = 0) := by omega
      go_wp2_with fail
      refine wp_region_still_tail 9 (by kernel_rfl) (by kernel_rfl) ?_
      simp only [List.take_succ_cons, List.take_zero, List.drop_succ_cons, List.drop_zero]
      change wpStill _ _ w1.drew _ _ _
      repeat still_step
      refine wpStill_nil ?_
      change wpList _ _ _ _ _ w1.drew
      go_wp2_with fail
      refine (IndexByte_rd _ _ _ (s.l.drop s.at_) w1.drew (HRD.out _ (.inr ⟨_, _, rfl, rfl⟩))).mono ?_
      rintro e w2 ⟨rfl, rfl⟩
      have HC2 : Hid (CurB w1.drew b s) := HC
      have HH2 : Hid (Chg [b] w w1.drew) := Lib.hid HH.out.drew
      have hzz : zeroAt s = Lib.indexByte (s.l.drop s.at_) 0 := rfl
      have hz1 := indexByte_lt (s.l.drop s.at_) 0
      rw [← hzz, List.length_drop] at hz1
      rw [← hzz]
      obtain ⟨z, hz⟩ : ∃ z, z = zeroAt s := ⟨_, rfl⟩
      rw [← hz] at hz1 ⊢
      have HZ := Lib.hid hz
      have HF2 := HF
      clear HC HH HRD HA hc0 hc1 hzz hz HF
      by_cases hz0 : 0 ≤ z
      · have d1 : decide (0 ≤ z) = true := by simpa using hz0
        by_cases hzm : z ≤ most
        · have d2 : decide (z ≤ most) = true := by simpa using hzm
          have HT : Hid (textOk s most = true) := Lib.hid (by unfold textOk; rw [HF2.out, ← HZ.out, d1, d2]; rfl)
          have hwr : IntKind.i64.wrap (z + 1) = z + 1 := by rw [IntKind.wrap_i64]; omega
          have hcan : canTake s (z + 1) = true := canTake_of HF2.out (by omega) (by omega)
          have HCAN := Lib.hid hcan
          clear hcan
          go_wp2_with fail
          refine (well_cur b s true _ HC2.out).mono ?_
          rintro e w3 ⟨rfl, hcx, hch⟩
          rw [HF2.out]
          replace hcx : CurB w3 b s := hcx
          have HC3 := Lib.hid hcx
          have HH3 := Lib.hid (HH2.out.same hch)
          clear hcx hch HC2 HH2
          go_wp2_with fail
          refine (take_cur b s (z + 1) w3 HC3.out).mono ?_
          rintro e w4 ⟨v, rfl, hcx, hrd, hch⟩
          obtain ⟨k, rfl⟩ : ∃ k : Nat, z = k := ⟨z.toNat, by omega⟩
          have hlen : (takeL s ((k : Int) + 1)).length = k + 1 := by
            have := takeL_length HC3.out.at_le HCAN.out
            rw [this]; omega
          have HTL : Hid ((takeL s ((k : Int) + 1)).take k = textL s most) := Lib.hid (by
            unfold textL; rw [HT.out, if_pos rfl, ← HZ.out, takeL_list HCAN.out]
            simp [List.take_take])
          have HTS : Hid (takeS s ((k : Int) + 1) = textS s most) := Lib.hid (by
            unfold textS takeS; rw [HT.out, HCAN.out, if_pos rfl, if_pos rfl, ← HZ.out]
            simp [HF2.out]; omega)
          rw [HTS.out] at hcx
          have HC4 := Lib.hid hcx
          have HH4 := Lib.hid (HH3.out.same hch)
          obtain ⟨a', n', cap', rfl, hn', hnc', hcm', hx'⟩ := id hrd
          rw [bytesV_length, hlen] at hn'
          subst hn'
          have hst := run_str (Rd_takeG hrd (k := k) (by omega))
          rw [HTL.out] at hst
          clear hcx hch hrd hx' HC3 HH3 hlen
          go_wp2
          go_ret
          exact ⟨rfl, HC4.out, HH4.out⟩
        · have d2 : decide (z ≤ most) = false := by simpa using hzm
          have HT : Hid (textOk s most = false) := Lib.hid (by unfold textOk; rw [← HZ.out, d2]; simp)
          go_wp2_with fail
          refine (well_cur b s false _ HC2.out).mono ?_
          rintro e w3 ⟨rfl, hcx, hch⟩
          simp only [Bool.false_and]
          replace hcx : CurB w3 b (failS s) := hcx
          have HC3 := Lib.hid hcx
          have HH3 := Lib.hid hch
          clear hcx hch
          go_wp2
          go_ret
          refine ⟨by unfold textL; rw [HT.out]; rfl, by unfold textS; rw [HT.out]; exact HC3.out, HH2.out.same HH3.out⟩
      · have d1 : decide (0 ≤ z) = false := by simpa using hz0
        have HT : Hid (textOk s most = false) := Lib.hid (by unfold textOk; rw [← HZ.out, d1]; simp)
        go_wp2_with fail
        refine (well_cur b s false _ HC2.out).mono ?_
        rintro e w3 ⟨rfl, hcx, hch⟩
        simp only [Bool.false_and]
        replace hcx : CurB w3 b (failS s) := hcx
        have HC3 := Lib.hid hcx
        have HH3 := Lib.hid hch
        clear hcx hch
        go_wp2
        go_ret
        refine ⟨by unfold textL; rw [HT.out]; rfl, by unfold textS; rw [HT.out]; exact HC3.out, HH2.out.same HH3.out⟩
    · have hat : s.at_ = s.l.length := by omega
      have HZ : Hid (zeroAt s = -1) := Lib.hid (by unfold zeroAt; rw [hat, List.drop_length]; rfl)
      have HT : Hid (textOk s most = false) := Lib.hid (by unfold textOk; rw [HZ.out]; simp)
      have HRD0 : Hid (∀ a' c, c ≤ maxLen → Rd w1.drew (.slice a' 0 c) (bytesV (s.l.drop s.at_))) := Lib.hid (fun a' c h => by
        rw [hat, List.drop_length]; exact ⟨_, _, _, rfl, rfl, Nat.zero_le _, h, fun h => absurd rfl h⟩)
      have HZ2 : Hid (Lib.indexByte (s.l.drop s.at_) 0 = -1) := HZ
      go_wp2_with fail
      refine wp_region_still_tail 9 (by kernel_rfl) (by kernel_rfl) ?_
      simp only [List.take_succ_cons, List.take_zero, List.drop_succ_cons, List.drop_zero]
      change wpStill _ _ w1.drew _ _ _
      repeat still_step
      refine wpStill_nil ?_
      change wpList _ _ _ _ _ w1.drew
      go_wp2_with fail
      all_goals
        refine (IndexByte_rd _ _ _ (s.l.drop s.at_) w1.drew (HRD0.out _ _ (by omega))).mono ?_
        rintro e w2 ⟨rfl, rfl⟩
        rw [HZ2.out]
        have HC2 : Hid (CurB w1.drew b s) := HC
        have HH2 : Hid (Chg [b] w w1.drew) := Lib.hid HH.out.drew
        clear HC HH HRD HRD0 HA
        go_wp2_with fail
        refine (well_cur b s false _ HC2.out).mono ?_
        rintro e w3 ⟨rfl, hcx, hch⟩
        simp only [Bool.false_and]
        replace hcx : CurB w3 b (failS s) := hcx
        have HC3 := Lib.hid hcx
        have HH3 := Lib.hid hch
        clear hcx hch
        go_wp2
        go_ret
        refine ⟨by unfold textL; rw [HT.out]; rfl, by unfold textS; rw [HT.out]; exact HC3.out, HH2.out.same HH3.out⟩
end Go.Proofs.YtkomocgodljecaaGreatDoor
/- bind: the symbol. -/
namespace Go.Proofs.YtkomocgodljecaaGreatDoor
open Go.RowKit
set_option maxRecDepth 100000

set_option maxHeartbeats 4000000 in
theorem symbol_ok (b bc : Nat) (r : Brd) (s s' : CS) (sy : ByteArray) (hsy : sy = ⟨#[97]⟩ ∨ sy = ⟨#[95, 97]⟩) (hi : r.imm = 0) (hk : r.kind = 1) (hc : r.c = some ⟨bc, 0, none⟩) (hlt : bc < b) (hs : textS s 1099511627776 = s') (hf : s'.failed = false) (hv : (⟨(textL s 1099511627776).toArray⟩ : ByteArray) = sy) (w : World) (hcur : CurB w bc s) (hb : brdL.Box w b r) :
    Calls Tryz.prog 52 #[.pointer (some ⟨b, 0, none⟩)] w fun e w' => e = .returned (.tuple #[]) ∧ brdL.Box w' b { r with f := { r.f with sym := sy, weak := false } } ∧ CurB w' bc s' ∧ Chg [b, bc] w w' := by
  have HTX := Lib.hid (fun w hcur => Text_cur bc s 1099511627776 w hcur)
  rw [hs, hv] at HTX
  have HER := Lib.hid (fun w hcur => Err_ok bc s' w hcur hf)
  have x0 := Brd.c_c hb
  rw [hc] at x0
  have Hcur := Lib.hid hcur
  have Hb := Lib.hid hb
  have Hf := Lib.hid hf
  have Hv := Lib.hid hv
  have Hs := Lib.hid hs
  clear hcur hb hf hv hs
  rcases hsy with rfl | rfl
  · go_enter Tryz.func52, Tryz.ntmps52
    go_wp2_with fail
    refine (HTX.out _ Hcur.out).mono ?_
    rintro e W1 ⟨rfl, hc1, h1⟩
    have B1 := Lib.hid (Hb.out.frameS h1 (by simp; omega))
    replace x0 := Brd.c_c B1.out
    rw [hc] at x0
    have CU1 := Lib.hid hc1
    have C1 := Lib.hid h1
    clear hc1 h1
    go_wp2_with fail
    refine (HER.out _ CU1.out).mono ?_
    rintro e W2 ⟨rfl, h2⟩
    have CU2 := Lib.hid (CU1.out.frame h2)
    have C2 := Lib.hid (C1.out.then h2)
    have B2 := Lib.hid (B1.out.frame h2)
    clear h2 x0
    go_wp2_with fail
    refine (refuse_ok 3 _).mono ?_
    rintro e W3 ⟨rfl, rfl⟩
    have x4 := Brd.c_imm B2.out
    rw [hi] at x4
    have x5 := Brd.c_kind B2.out
    rw [hk] at x5
    have x6 := Brd.c_sym B2.out
    have x7 := Brd.c_weak B2.out
    have z6 := B2.out.frozen 31
    have z7 := B2.out.frozen 33
    go_wp2_with fail
    refine (refuse_ok 14 _).mono ?_
    rintro e W4 ⟨rfl, rfl⟩
    go_wp2_with fail
    refine (refuse_ok 10 _).mono ?_
    rintro e W5 ⟨rfl, rfl⟩
    go_wp2
    go_end0
    exact ⟨rfl, Brd.set_weak (Brd.set_sym B2.out _) _, (CU2.out.far2 (S := [b]) (((Chg.refl _ _).setCell _ _ (.inl (by simp))).setCell _ _ (.inl (by simp))) (by simp; omega)), ((C2.out.mono (by simp)).setCell _ _ (.inl (by simp))).setCell _ _ (.inl (by simp))⟩
  · go_enter Tryz.func52, Tryz.ntmps52
    go_wp2_with fail
    refine (HTX.out _ Hcur.out).mono ?_
    rintro e W1 ⟨rfl, hc1, h1⟩
    have B1 := Lib.hid (Hb.out.frameS h1 (by simp; omega))
    replace x0 := Brd.c_c B1.out
    rw [hc] at x0
    have CU1 := Lib.hid hc1
    have C1 := Lib.hid h1
    clear hc1 h1
    go_wp2_with fail
    refine (HER.out _ CU1.out).mono ?_
    rintro e W2 ⟨rfl, h2⟩
    have CU2 := Lib.hid (CU1.out.frame h2)
    have C2 := Lib.hid (C1.out.then h2)
    have B2 := Lib.hid (B1.out.frame h2)
    clear h2 x0
    go_wp2_with fail
    refine (refuse_ok 3 _).mono ?_
    rintro e W3 ⟨rfl, rfl⟩
    have x4 := Brd.c_imm B2.out
    rw [hi] at x4
    have x5 := Brd.c_kind B2.out
    rw [hk] at x5
    have x6 := Brd.c_sym B2.out
    have x7 := Brd.c_weak B2.out
    have z6 := B2.out.frozen 31
    have z7 := B2.out.frozen 33
    go_wp2_with fail
    refine (refuse_ok 14 _).mono ?_
    rintro e W4 ⟨rfl, rfl⟩
    go_wp2_with fail
    refine (refuse_ok 10 _).mono ?_
    rintro e W5 ⟨rfl, rfl⟩
    go_wp2
    go_end0
    exact ⟨rfl, Brd.set_weak (Brd.set_sym B2.out _) _, (CU2.out.far2 (S := [b]) (((Chg.refl _ _).setCell _ _ (.inl (by simp))).setCell _ _ (.inl (by simp))) (by simp; omega)), ((C2.out.mono (by simp)).setCell _ _ (.inl (by simp))).setCell _ _ (.inl (by simp))⟩
end Go.Proofs.YtkomocgodljecaaGreatDoor
/- bind: steps; what a step keeps; one, many. -/
namespace Go.Proofs.YtkomocgodljecaaGreatDoor
open Go.RowKit
set_option maxRecDepth 100000

/-- What opcodes do, by their upper four bits. -/
def fnB : Nat → Value
  | 0 => .func (.func 48) #[] #[]
  | 1 => .func (.func 49) #[] #[]
  | 2 => .func (.func 50) #[] #[]
  | 3 => .func (.func 51) #[] #[]
  | 4 => .func (.func 52) #[] #[]
  | 5 => .func (.func 53) #[] #[]
  | 6 => .func (.func 54) #[] #[]
  | 7 => .func (.func 55) #[] #[]
  | 8 => .func (.func 56) #[] #[]
  | 9 => .func (.func 57) #[] #[]
  | 10 => .func (.func 58) #[] #[]
  | 11 => .func (.func 59) #[] #[]
  | 12 => .func (.func 60) #[] #[]
  | _ => .nilFunc
def fnC (x : Bool) : List Value := if x then [fnB 0, fnB 1, fnB 2, fnB 3, fnB 4, fnB 5, fnB 6, fnB 7, fnB 8, fnB 9, fnB 10, fnB 11, fnB 12, fnB 13, fnB 14, fnB 15] else List.replicate 16 .nilFunc
def fnsL : Lay Bool := ⟨16, fnC, false, fun x => by cases x <;> rfl, by decide, fun x u hu => by
  cases x
  · rw [show fnC false = List.replicate 16 .nilFunc from rfl] at hu
    rw [(List.mem_replicate.1 hu).2]
    rfl
  · simp only [fnC, if_true, List.mem_cons, List.not_mem_nil, or_false] at hu
    rcases hu with rfl | rfl | rfl | rfl | rfl | rfl | rfl | rfl | rfl | rfl | rfl | rfl | rfl | rfl | rfl | rfl <;> rfl⟩
theorem Tryz.tFns : Lay.Ty fnsL Tryz.prog 72 := Lay.Ty.mk' (by kernel_rfl) (by kernel_rfl)
theorem steps_any (w : World) : Calls Tryz.prog 30 #[] w fun e w' => e = .returned (fnsL.val true) ∧ Chg [] w w' := by
  go_enter Tryz.func30, Tryz.ntmps30
  go_wp2_with ((with_reducible refine Lay.alL Tryz.tFns ?_); intro W1 br ebr cbr xbr; replace ebr := Lib.hid ebr; replace cbr := Lib.hid cbr; replace xbr := Lib.hid xbr; refine Hid.out ?_)
  refine Lib.hid ?_
  go_wp2_with ((with_reducible refine Lay.stL Tryz.tFns true (xbr.out) ?_ ?_ ?_); exact rfl; exact rfl; intro W2 cW2 xW2; replace cW2 := Lib.hid cW2; replace xW2 := Lib.hid xW2; refine Hid.out ?_)
  refine Lib.hid ?_
  go_wp2
  refine Lay.ret1 Tryz.tFns Tryz.results30 xW2.out rfl rfl ?_
  exact ⟨rfl, cbr.out.new cW2.out (by rw [ebr.out]; exact Nat.le_refl _)⟩
/-- The table of steps stays. -/
def KeepF (W w' : World) : Prop := ∀ p, fnsL.Box W p true → fnsL.Box w' p true
theorem KeepF.pure {W w' : World} (k : Chg [] W w') : KeepF W w' := fun _ h => h.frame k
theorem KeepF.trans {a b c : World} (h : KeepF a b) (k : KeepF b c) : KeepF a c := fun p hp => k p (h p hp)
theorem fns_ne_b {w : World} {b p : Nat} {r : Brd} (hb : brdL.Box w b r) (hp : fnsL.Box w p true) : p ≠ b := by
  rintro rfl
  obtain ⟨E, h1⟩ := hb
  obtain ⟨E', h2⟩ := hp
  rw [h1] at h2
  have := congrArg (fun o => match o with | some (Obj.cells c _ _) => c.size | _ => 0) h2
  have e1 : (brdL.f r).toArray.size = 38 := by rw [List.size_toArray]; exact brdL.len r
  have e2 : (fnsL.f true).toArray.size = 16 := rfl
  dsimp only at this
  omega
theorem fns_ne_c {w : World} {b p : Nat} {s : CS} (hb : CurB w b s) (hp : fnsL.Box w p true) : p ≠ b := by
  rintro rfl
  obtain ⟨_, _, _, h1, _⟩ := hb
  obtain ⟨E', h2⟩ := hp
  rw [h1] at h2
  have := congrArg (fun o => match o with | some (Obj.cells c _ _) => c.size | _ => 0) h2
  have h16 : (4 : Nat) = 16 := this
  exact absurd h16 (by decide)
theorem fns_ne_o {w : World} {base p g : Nat} {v : Value} {fs : List Fx} (hb : FB w base v fs) (hg : v.ownBlock = some g) (hp : fnsL.Box w p true) : p ≠ g := by
  rintro rfl
  obtain ⟨E', h2⟩ := hp
  rcases hb.2 with ⟨rfl, _⟩ | ⟨g', cap, cur, rfl, _, h1, _, _, hs, _⟩
  · cases hg
  · cases hg
    rw [h1] at h2
    have := congrArg (fun o => match o with | some (Obj.cells c _ _) => c.size | _ => 0) h2
    have e2 : (fnsL.f true).toArray.size = 16 := rfl
    have e3 : fxl.n = 7 := rfl
    dsimp only at this
    rw [e3] at hs
    omega
theorem one_ok14 (b : Nat) (R : World → Prop) (w : World) (hm : Calls Tryz.prog 75 #[.pointer (some ⟨b, 0, none⟩), .int .u64 1, .int .u64 0] w fun e w' => e = .returned (.tuple #[]) ∧ R w') :
    Calls Tryz.prog 57 #[.pointer (some ⟨b, 0, none⟩)] w fun e w' => e = .returned (.tuple #[]) ∧ R w' := by
  have Hm := Lib.hid hm
  clear hm
  go_enter Tryz.func57, Tryz.ntmps57
  go_wp2_with fail
  refine (Hm.out).mono ?_
  rintro e W1 ⟨rfl, h1⟩
  have R1 := Lib.hid h1
  clear h1
  go_wp2
  go_end0
  exact ⟨rfl, R1.out⟩
end Go.Proofs.YtkomocgodljecaaGreatDoor
