/- Plain: where a text ends; bytes as two kinds of rows. -/
import Derived.Test.YtkclmknepbbhnaaDoorCurT
import Derived.Test.YtkclmknepbbhnaaDoorByte
import Derived.Handy
import Derived.Lib.Bytealg
namespace Go.Proofs.YtkclmknepbbhnaaDoor
open Go.RowKit
set_option maxRecDepth 100000

/-- A row of bytes reads as their values. -/
theorem Rd_of_byte {w : World} {v : Value} {l : List UInt8} (h : byteL.Rd w v l) : Rd w v (bytesV l) := by
  obtain ⟨a, n, cap, rfl, hn, hc, hm, hx⟩ := h
  refine ⟨a, n, cap, rfl, by rw [bytesV_length]; exact hn, hc, hm, fun hne => ?_⟩
  obtain ⟨b, off, e, _, hcell⟩ := hx (by rintro rfl; exact hne rfl)
  refine ⟨b, off, e, fun j hj => ?_⟩
  rw [bytesV_length] at hj
  have := hcell j hj 0 (by decide)
  rw [show byteL.n = 1 from rfl, Nat.mul_one, Nat.add_zero] at this
  rw [this, bytesV_get l j hj]
  rfl
theorem Rd_to_byte {w : World} {v : Value} {l : List UInt8} (h : Rd w v (bytesV l)) : byteL.Rd w v l := by
  obtain ⟨a, n, cap, rfl, hn, hc, hm, hx⟩ := h
  rw [bytesV_length] at hn hx
  refine ⟨a, n, cap, rfl, hn, hc, hm, fun hne => ?_⟩
  obtain ⟨b, off, e, hcell⟩ := hx (by
    intro e
    have := congrArg List.length e
    rw [bytesV_length] at this
    exact hne (List.eq_nil_of_length_eq_zero this))
  have hp : 0 < l.length := List.length_pos_iff.2 hne
  refine ⟨b, off, e, ?_, fun j hj c hc => ?_⟩
  · have h0 := hcell 0 hp
    rw [bytesV_get l 0 hp] at h0
    exact World.block_lt_of_cell? w _ h0
  · have hc0 : c = 0 := by have : byteL.n = 1 := rfl; omega
    subst hc0
    rw [show byteL.n = 1 from rfl, Nat.mul_one, Nat.add_zero, hcell j hj, bytesV_get l j hj]
    rfl
/-- Where the next 0 stands. -/
def zeroAt (s : CS) : Int := Lib.indexByte (s.l.drop s.at_) 0
def textOk (s : CS) (most : Int) : Bool := !s.failed && decide (0 ≤ zeroAt s) && decide (zeroAt s ≤ most)
def textS (s : CS) (most : Int) : CS := if textOk s most then ⟨s.l, s.at_ + (zeroAt s).toNat + 1, s.big, false⟩ else failS s
def textL (s : CS) (most : Int) : List UInt8 := if textOk s most then (s.l.drop s.at_).take (zeroAt s).toNat else []
theorem indexByte_lt (l : List UInt8) (c : UInt8) : Lib.indexByte l c < l.length := by
  induction l with
  | nil => simp [Lib.indexByte]
  | cons b l ih =>
    unfold Lib.indexByte
    split
    · simp only [List.length_cons]; omega
    · split
      · simp; omega
      · simp only [List.length_cons]; omega
theorem Rd_takeG {w : World} {a : Option Addr} {n cap k : Nat} {l : List UInt8} (h : Rd w (.slice a n cap) (bytesV l)) (hk : k ≤ l.length) : Rd w (.slice a k cap) (bytesV (l.take k)) := by
  obtain ⟨a', n', cap', he, hn, hnc, hcm, hx⟩ := h
  cases he
  rw [bytesV_length] at hn hx
  refine ⟨_, _, _, rfl, by simp [bytesV]; omega, by omega, hcm, fun hne => ?_⟩
  have hlen : (bytesV (l.take k)).length = k := by simp [bytesV]; omega
  have hk0 : 0 < k := by
    rcases Nat.eq_zero_or_pos k with h0 | h0
    · subst h0; simp [bytesV] at hne
    · exact h0
  obtain ⟨b, off, h, hcell⟩ := hx (by intro e; have : (bytesV l).length = 0 := by rw [e]; rfl
                                      rw [bytesV_length] at this; omega)
  subst h
  refine ⟨_, _, rfl, fun j hj => ?_⟩
  rw [hlen] at hj
  rw [hcell j (by omega), bytesV_get l j (by omega), bytesV_get _ j (by simp; omega)]
  simp [hj]
theorem takeL_list {s : CS} {m : Int} (h : canTake s m = true) : takeL s m = (s.l.drop s.at_).take m.toNat := by unfold takeL; rw [h, if_pos rfl]
end Go.Proofs.YtkclmknepbbhnaaDoor
