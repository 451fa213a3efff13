/- Lemmas, laid together: part 8 of 35. Conditions: none but each lemma's own. -/
import Derived.Test.YtlblcbgmmfjdjaaGreatDoorJ7
import Derived.Test.YtlblcbgmmfjdjaaGreatDoorJ1
/- image.Part. -/
namespace Go.Proofs.YtlblcbgmmfjdjaaGreatDoor
open Go.RowKit
set_option maxRecDepth 100000

def partS (l : List UInt8) (off size : Nat) : List UInt8 := if size = 0 then [] else if withinS off size l.length then (l.drop off).take size else []
set_option maxHeartbeats 1000000 in
theorem Part_any (l : List UInt8) (v : Value) (off size : Nat) (ho : off < 18446744073709551616) (hz : size < 18446744073709551616) (w : World) (rd : byteL.Rd w v l) (hlen : l.length ≤ 100000000) :
    Calls Tryz.prog 72 #[v, .agg #[.int .u64 off, .int .u64 size]] w fun e w' => (∃ v', e = .returned v' ∧ byteL.Rd w' v' (partS l off size)) ∧ Chg [] w w' := by
  obtain ⟨a, cap, rfl, hc1, hc2⟩ := rd.shape
  have hwl : IntKind.u64.wrap (l.length : Int) = (l.length : Int) := by rw [IntKind.wrap_u64]; omega
  have Rd := Lib.hid rd
  clear rd
  by_cases h0 : size = 0
  · subst h0
    rw [show partS l off 0 = [] from rfl]
    clear ho hz hc2
    go_enter Tryz.func72, Tryz.ntmps72
    go_wp2
    go_ret
    exact ⟨⟨_, rfl, Lay.Rd.nil _⟩, (Chg.refl _ _).alloc _⟩
  have z0 : ((size : Int) == 0) = false := by simp; omega
  have HW := Lib.hid (within_any2 off size l.length (by omega))
  cases hw : withinS off size l.length with
  | false =>
    rw [hw] at HW
    rw [show partS l off size = [] by unfold partS; rw [if_neg h0, hw]; rfl]
    clear ho hz hc2 hw
    go_enter Tryz.func72, Tryz.ntmps72
    go_wp2_with fail
    refine (HW.out _).mono ?_
    rintro e W2 ⟨rfl, hc⟩
    have C2 : Hid (Chg [] w W2) := Lib.hid (((Chg.refl _ _).alloc _).then hc)
    have y0 : W2.cell? ⟨w.heap.size, 0, none⟩ = some (.int .u64 off) := by refine hc.cell ?_ (by simp); rw [cell_of_heap (heap_alloc_eq _ _)]; rfl
    have y1 : W2.cell? ⟨w.heap.size, 1, none⟩ = some (.int .u64 size) := by refine hc.cell ?_ (by simp); rw [cell_of_heap (heap_alloc_eq _ _)]; rfl
    clear hc
    go_wp2
    go_ret
    exact ⟨⟨_, rfl, Lay.Rd.nil _⟩, C2.out⟩
  | true =>
    rw [hw] at HW
    rw [show partS l off size = (l.drop off).take size by unfold partS; rw [if_neg h0, hw]; rfl]
    have hin : off ≤ l.length ∧ size ≤ l.length - off := by
      unfold withinS at hw
      simpa only [Bool.and_eq_true, decide_eq_true_eq] using hw
    have hs : IntKind.u64.wrap ((off : Int) + (size : Int)) = ((off + size : Nat) : Int) := by rw [IntKind.wrap_u64]; omega
    obtain ⟨b, o, rfl, _, _⟩ := Rd.out.at (by omega)
    have HCL : Hid (∀ W, Chg [] w W → Calls Tryz.prog 96 #[.slice (some ⟨b, o + off, none⟩) size size] W fun e w' => ∃ v', e = .returned v' ∧ BB w' W.heap.size v' ((l.drop off).take size) ∧ Chg [] W w') := by
      refine Lib.hid ?_
      intro W hW
      exact sclone_any _ _ W (Rd_cut (Rd.out.frame hW) off size size (by omega) (Nat.le_refl _) (by unfold maxLen; omega)) (by simp; omega)
    have k1 : off + size ≤ cap := by omega
    have k2 : off + size - off = size := by omega
    clear ho hz hw
    go_enter Tryz.func72, Tryz.ntmps72
    go_wp2_with fail
    refine (HW.out _).mono ?_
    rintro e W2 ⟨rfl, hc⟩
    have C2 : Hid (Chg [] w W2) := Lib.hid (((Chg.refl _ _).alloc _).then hc)
    have y0 : W2.cell? ⟨w.heap.size, 0, none⟩ = some (.int .u64 off) := by refine hc.cell ?_ (by simp); rw [cell_of_heap (heap_alloc_eq _ _)]; rfl
    have y1 : W2.cell? ⟨w.heap.size, 1, none⟩ = some (.int .u64 size) := by refine hc.cell ?_ (by simp); rw [cell_of_heap (heap_alloc_eq _ _)]; rfl
    clear hc
    go_wp2_with fail
    refine (HCL.out _ C2.out).mono ?_
    rintro e W3 ⟨v3, rfl, hb, hc⟩
    have B3 := Lib.hid (hb)
    have C3 := Lib.hid (C2.out.then hc)
    clear hb hc
    go_wp2
    go_ret
    exact ⟨⟨_, rfl, B3.out.rd⟩, C3.out⟩
end Go.Proofs.YtlblcbgmmfjdjaaGreatDoor
/- Plain lemmas: bytes as a number, either way round. No program in sight. -/
namespace Go.Proofs.YtlblcbgmmfjdjaaGreatDoor
open Go.RowKit

def leNum : List UInt8 → Nat
  | [] => 0
  | x :: r => x.toNat + 256 * leNum r
def beNum (l : List UInt8) : Nat := l.foldl (fun n x => n * 256 + x.toNat) 0
theorem leNum_snoc (l : List UInt8) (x : UInt8) : leNum (l ++ [x]) = leNum l + x.toNat * 256 ^ l.length := by
  induction l with
  | nil => simp [leNum]
  | cons y r ih => simp only [List.cons_append, leNum, ih, List.length_cons, Nat.pow_succ, Nat.mul_add]; rw [Nat.add_assoc, ← Nat.mul_assoc, ← Nat.mul_assoc, Nat.mul_comm 256 x.toNat, Nat.mul_assoc x.toNat, Nat.mul_comm 256 (256 ^ r.length)]; simp [Nat.mul_assoc]
theorem leNum_lt (l : List UInt8) : leNum l < 256 ^ l.length := by
  induction l with
  | nil => simp [leNum]
  | cons y r ih => have := y.toNat_lt; simp only [leNum, List.length_cons, Nat.pow_succ]; omega
theorem beNum_snoc (l : List UInt8) (x : UInt8) : beNum (l ++ [x]) = beNum l * 256 + x.toNat := by simp [beNum]
theorem beNum_lt (l : List UInt8) : beNum l < 256 ^ l.length := by
  have h : ∀ (n : Nat) (m : List UInt8), m.length = n → beNum m < 256 ^ n := by
    intro n
    induction n with
    | zero => intro m hm; rw [List.length_eq_zero_iff.1 hm]; simp [beNum]
    | succ n ih =>
      intro m hm
      obtain ⟨r, x, rfl⟩ : ∃ r x, m = r ++ [x] := ⟨m.dropLast, m.getLast (by intro e; subst e; simp at hm), (List.dropLast_concat_getLast _).symm⟩
      have := ih r (by simpa using hm)
      have := x.toNat_lt
      rw [beNum_snoc, Nat.pow_succ]; omega
  exact h _ l rfl
theorem leNum_reverse (l : List UInt8) : leNum l.reverse = beNum l := by
  have h : ∀ (n : Nat) (m : List UInt8), m.length = n → leNum m.reverse = beNum m := by
    intro n
    induction n with
    | zero => intro m hm; rw [List.length_eq_zero_iff.1 hm]; simp [beNum, leNum]
    | succ n ih =>
      intro m hm
      obtain ⟨r, x, rfl⟩ : ∃ r x, m = r ++ [x] := ⟨m.dropLast, m.getLast (by intro e; subst e; simp at hm), (List.dropLast_concat_getLast _).symm⟩
      have := ih r (by simpa using hm)
      rw [beNum_snoc, List.reverse_append]; simp only [List.reverse_cons, List.reverse_nil, List.nil_append, List.cons_append, leNum, this]; omega
  exact h _ l rfl
/-- A number's bytes, whichever way round. -/
def numOf (big : Bool) (l : List UInt8) : Nat := if big then beNum l else leNum l
theorem numOf_lt (big : Bool) (l : List UInt8) : numOf big l < 256 ^ l.length := by unfold numOf; split; exact beNum_lt l; exact leNum_lt l
theorem pow_le8 (k : Nat) (h : k ≤ 8) : 256 ^ k ≤ 18446744073709551616 := by
  have : (256 : Nat) ^ k ≤ 256 ^ 8 := Nat.pow_le_pow_right (by omega) h
  simpa using this
theorem take_snoc8 (l : List UInt8) (k : Nat) (h : k < l.length) : l.take (k + 1) = l.take k ++ [l[k]?.getD 0] := by
  rw [List.take_add_one, List.getElem?_eq_getElem h]; rfl
theorem le_step (l : List UInt8) (k : Nat) (h : k < l.length) (h8 : l.length ≤ 8) :
    bits .or .u64 (leNum (l.take k) : Int) (IntKind.u64.wrap (IntKind.u64.wrap ((l[k]?.getD 0).toNat : Int) * 2 ^ (8 * k))) = (leNum (l.take (k + 1)) : Int) := by
  have hb := (l[k]?.getD 0).toNat_lt
  have hk : (l.take k).length = k := by simp; omega
  have hlt := leNum_lt (l.take k)
  rw [hk] at hlt
  have h256 : (256 : Nat) ^ k = 2 ^ (8 * k) := by rw [Nat.pow_mul]
  have hp : 256 ^ (k + 1) ≤ 18446744073709551616 := pow_le8 (k + 1) (by omega)
  rw [Nat.pow_succ] at hp
  have hx : (l[k]?.getD 0).toNat * 2 ^ (8 * k) < 18446744073709551616 := by
    rw [← h256]
    have : (l[k]?.getD 0).toNat * 256 ^ k < 256 * 256 ^ k := (Nat.mul_lt_mul_right (Nat.pow_pos (by omega))).2 hb
    omega
  have e1 : IntKind.u64.wrap ((l[k]?.getD 0).toNat : Int) = ((l[k]?.getD 0).toNat : Int) := by rw [IntKind.wrap_u64]; omega
  have e2 : ((l[k]?.getD 0).toNat : Int) * 2 ^ (8 * k) = (((l[k]?.getD 0).toNat * 2 ^ (8 * k) : Nat) : Int) := by push_cast; rfl
  rw [e1, e2, IntKind.wrap_u64, Int.emod_eq_of_lt (by omega) (by omega), u64_or_nat _ _ (by omega) hx, Nat.or_comm, nat_join (8 * k) _ _ (Nat.mul_mod_left _ _) (by omega), take_snoc8 l k h, leNum_snoc, hk, h256]
  omega
theorem be_step (l : List UInt8) (k : Nat) (h : k < l.length) (h8 : l.length ≤ 8) :
    bits .or .u64 (IntKind.u64.wrap ((beNum (l.take k) : Int) * 256)) (IntKind.u64.wrap ((l[k]?.getD 0).toNat : Int)) = (beNum (l.take (k + 1)) : Int) := by
  have hb := (l[k]?.getD 0).toNat_lt
  have hk : (l.take k).length = k := by simp; omega
  have hlt := beNum_lt (l.take k)
  rw [hk] at hlt
  have hp : 256 ^ (k + 1) ≤ 18446744073709551616 := pow_le8 (k + 1) (by omega)
  rw [Nat.pow_succ] at hp
  have e1 : IntKind.u64.wrap ((l[k]?.getD 0).toNat : Int) = ((l[k]?.getD 0).toNat : Int) := by rw [IntKind.wrap_u64]; omega
  have e2 : (beNum (l.take k) : Int) * 256 = ((beNum (l.take k) * 256 : Nat) : Int) := (Int.natCast_mul _ 256).symm
  rw [e1, e2, IntKind.wrap_u64, Int.emod_eq_of_lt (by omega) (by omega), u64_or_nat _ _ (by omega) (by omega), nat_join 8 _ _ (Nat.mul_mod_left _ 256) (show _ < 256 by omega), take_snoc8 l k h, beNum_snoc]
end Go.Proofs.YtlblcbgmmfjdjaaGreatDoor
