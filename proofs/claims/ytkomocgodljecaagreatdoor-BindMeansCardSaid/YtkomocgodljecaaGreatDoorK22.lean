/- Lemmas, laid together: part 22 of 41. Conditions: none but each lemma's own. -/
import Derived.Test.YtkomocgodljecaaGreatDoorK21
import Derived.Test.YtkomocgodljecaaGreatDoorK20
/- Plain: what stands in a number's shortest bytes, whatever stands behind them. No program in sight. -/
namespace Go.Proofs.YtkomocgodljecaaGreatDoor
open Go.RowKit

theorem szL_append (f : Nat) : ∀ (r : List UInt8) (b : UInt8) (rest : List UInt8) (i : Nat), i + r.length < 10 → (∀ x ∈ r, 128 ≤ x.toNat) → b.toNat < 128 → r.length ≤ f → szL (r ++ [b] ++ rest) i = i + r.length + 1 := by
  induction f with
  | zero =>
    intro r b rest i hi _ hb hf
    obtain rfl : r = [] := List.eq_nil_of_length_eq_zero (by omega)
    simp only [List.nil_append, List.cons_append, szL, List.length_nil]
    rw [if_neg (by simp at hi; omega), if_pos hb]
  | succ f ih =>
    intro r b rest i hi hr hb hf
    cases r with
    | nil =>
      simp only [List.nil_append, List.cons_append, szL, List.length_nil]
      rw [if_neg (by simp at hi; omega), if_pos hb]
    | cons x r =>
      have hx := hr x (List.mem_cons_self ..)
      simp only [List.length_cons] at hi hf ⊢
      have := ih r b rest (i + 1) (by omega) (fun y hy => hr y (List.mem_cons_of_mem _ hy)) hb (by omega)
      simp only [List.cons_append, szL]
      rw [if_neg (by omega), if_neg (by omega), this]
      omega
theorem gsOf_ten (l : List UInt8) (h : l.length = 10) : uval (gsOf l) = uval ((gsOf l).take 9) + 128 ^ 9 * (gsOf l).getD 9 0 := by
  have hl : (gsOf l).length = 10 := by rw [gsOf_length, h]
  have e : gsOf l = (gsOf l).take 9 ++ [(gsOf l).getD 9 0] := by
    match gsOf l, hl with
    | [a, b, c, d, e, f, g, i, j, k], _ => rfl
  have h9 : ((gsOf l).take 9).length = 9 := by simp [hl]
  calc uval (gsOf l) = uval ((gsOf l).take 9 ++ [(gsOf l).getD 9 0]) := by rw [← e]
    _ = _ := by rw [uval_snoc, h9]
theorem uvalV_put (n : Nat) (hn : n < 18446744073709551616) (rest : List UInt8) : uvalV (putU n ++ rest) = some (n, (putU n).length) := by
  obtain ⟨r, b, e, hb, hr⟩ := putUf_shape 9 n (lt_pow10 n hn)
  have e' : putU n = r ++ [b] := e
  have hlen := (putUf_length 9 n).1
  have hl10 : r.length < 10 := by
    have : (putU n).length ≤ 10 := hlen
    rw [e'] at this; simp at this; omega
  have hs : szL (putU n ++ rest) 0 = (putU n).length := by
    rw [e', szL_append r.length r b rest 0 (by omega) hr hb (Nat.le_refl _)]; simp
  have ht : (putU n ++ rest).take (putU n).length = putU n := by simp
  have hv : uval (gsOf (putU n)) = n := uval_putUf 9 n (lt_pow10 n hn)
  unfold uvalV
  rw [hs, ht, hv, if_neg (by rw [e']; simp), if_neg]
  rintro ⟨h10, h1⟩
  have := gsOf_ten (putU n) h10
  rw [hv] at this
  have h2 : 128 ^ 9 * 2 ≤ 128 ^ 9 * (gsOf (putU n)).getD 9 0 := Nat.mul_le_mul_left _ h1
  omega
theorem putSf_shape (f : Nat) : ∀ n : Int, (-(64 * 128 ^ f) ≤ n ∧ n < 64 * 128 ^ f) → ∃ r b, putSf f n = r ++ [b] ∧ b.toNat < 128 ∧ (∀ x ∈ r, 128 ≤ x.toNat) ∧ sval (gsOf (putSf f n)) = n := by
  induction f with
  | zero =>
    intro n h
    have hx : (n % 128).toNat < 128 := by omega
    refine ⟨[], UInt8.ofNat (n % 128).toNat, rfl, by rw [toNat_ofNat _ (by omega)]; exact hx, (fun _ hm => by cases hm), ?_⟩
    simp only [putSf, gsOf, List.map_cons, List.map_nil, sval, toNat_ofNat _ (show (n % 128).toNat < 256 by omega)]
    split <;> omega
  | succ f ih =>
    intro n h
    by_cases hn : -64 ≤ n ∧ n < 64
    · have hx : (n % 128).toNat < 128 := by omega
      refine ⟨[], UInt8.ofNat (n % 128).toNat, putSf_small _ n hn, by rw [toNat_ofNat _ (by omega)]; exact hx, (fun _ hm => by cases hm), ?_⟩
      rw [putSf_small _ n hn]
      simp only [gsOf, List.map_cons, List.map_nil, sval, toNat_ofNat _ (show (n % 128).toNat < 256 by omega)]
      split <;> omega
    · obtain ⟨r, b, e, hb, hr, hs⟩ := ih (n / 128) (by rw [Int.pow_succ] at h; omega)
      rw [putSf_step f n hn]
      have hx : ((n % 128).toNat + 128) % 128 = (n % 128).toNat := by omega
      refine ⟨UInt8.ofNat ((n % 128).toNat + 128) :: r, b, by rw [e]; rfl, hb, fun x hx => ?_, ?_⟩
      · cases hx with
        | head => rw [toNat_ofNat _ (by omega)]; omega
        | tail _ hx => exact hr x hx
      · have hne : ∃ y ys, gsOf (putSf f (n / 128)) = y :: ys := by
          have := (putSf_length f (n / 128)).2
          cases hp : putSf f (n / 128) with
          | nil => rw [hp] at this; simp at this
          | cons c cs => exact ⟨_, _, rfl⟩
        obtain ⟨y, ys, hy⟩ := hne
        have eg : gsOf (UInt8.ofNat ((n % 128).toNat + 128) :: putSf f (n / 128)) = (n % 128).toNat :: gsOf (putSf f (n / 128)) := by
          simp only [gsOf, List.map_cons, toNat_ofNat _ (show (n % 128).toNat + 128 < 256 by omega), hx]
        rw [eg, hy]
        simp only [sval]
        rw [← hy, hs]
        omega
theorem svalV_put (n : Int) (hn : -9223372036854775808 ≤ n ∧ n < 9223372036854775808) (rest : List UInt8) : svalV (putS n ++ rest) = some (n, (putS n).length) := by
  obtain ⟨r, b, e, hb, hr, hv⟩ := putSf_shape 9 n (by omega)
  have e' : putS n = r ++ [b] := e
  have hv' : sval (gsOf (putS n)) = n := hv
  have hlen := (putSf_length 9 n).1
  have hl10 : r.length < 10 := by
    have : (putS n).length ≤ 10 := hlen
    rw [e'] at this; simp at this; omega
  have hs : szL (putS n ++ rest) 0 = (putS n).length := by
    rw [e', szL_append r.length r b rest 0 (by omega) hr hb (Nat.le_refl _)]; simp
  have ht : (putS n ++ rest).take (putS n).length = putS n := by simp
  unfold svalV
  rw [hs, ht, hv', if_neg (by rw [e']; simp), if_neg]
  rintro ⟨h10, h1⟩
  have hl : (gsOf (putS n)).length = 10 := by rw [gsOf_length, h10]
  have hd := sval_drop (gsOf (putS n)) 0 (by omega)
  have ho := s_out (gsOf (putS n)) hl (gsOf_lt _) h1
  have h0 : (gsOf (putS n)).getD 0 0 < 128 := by
    have : (gsOf (putS n)).getD 0 0 ∈ gsOf (putS n) := by rw [List.getD_eq_getElem?_getD, List.getElem?_eq_getElem (by omega)]; exact List.getElem_mem _
    exact gsOf_lt _ _ this
  rw [List.drop_zero, hv', if_neg (by omega)] at hd
  simp only [Nat.zero_add] at hd
  omega
end Go.Proofs.YtkomocgodljecaaGreatDoor
/- What Uleb and Sleb make of a cursor whose bytes are known to begin with a number, or with none. -/
namespace Go.Proofs.YtkomocgodljecaaGreatDoor
open Go.RowKit
theorem U_some {l : List UInt8} {k v n : Nat} (big : Bool) (h : uvalV (l.drop k) = some (v, n)) : lebV ulebR ⟨l, k, big, false⟩ = (v : Int) ∧ lebS ulebR ⟨l, k, big, false⟩ = ⟨l, k + n, big, false⟩ := by
  have := uvalV_pos _ _ _ h
  rw [lebV_u, lebS_u, h]
  simp; omega
theorem S_some {l : List UInt8} {k n : Nat} {v : Int} (big : Bool) (h : svalV (l.drop k) = some (v, n)) : lebV slebR ⟨l, k, big, false⟩ = v ∧ lebS slebR ⟨l, k, big, false⟩ = ⟨l, k + n, big, false⟩ := by
  have := svalV_pos _ _ _ h
  rw [lebV_s, lebS_s, h]
  simp; omega
theorem U_none {l : List UInt8} {k : Nat} (big : Bool) (h : uvalV (l.drop k) = none) : lebV ulebR ⟨l, k, big, false⟩ = 0 ∧ lebS ulebR ⟨l, k, big, false⟩ = ⟨l, k, big, true⟩ := by
  rw [lebV_u, lebS_u, h]
  simp
theorem S_none {l : List UInt8} {k : Nat} (big : Bool) (h : svalV (l.drop k) = none) : lebV slebR ⟨l, k, big, false⟩ = 0 ∧ lebS slebR ⟨l, k, big, false⟩ = ⟨l, k, big, true⟩ := by
  rw [lebV_s, lebS_s, h]
  simp
end Go.Proofs.YtkomocgodljecaaGreatDoor
/- Plain: a stream of binds, read: what each opcode makes of the reader's state, or why it ends the stream. No program in sight. -/
namespace Go.Proofs.YtkomocgodljecaaGreatDoor
open Go.RowKit
set_option maxRecDepth 100000

theorem uvalB_lt : ∀ l : List UInt8, uval (gsOf l) < 128 ^ l.length
  | [] => by decide
  | x :: r => by
    have := uvalB_lt r
    have h2 : x.toNat % 128 < 128 := Nat.mod_lt _ (by decide)
    show x.toNat % 128 + 128 * uval (gsOf r) < 128 ^ (r.length + 1)
    rw [Nat.pow_succ]
    omega
theorem uvalB_take (l : List UInt8) : ∀ k, uval (gsOf l) = uval (gsOf (l.take k)) + 128 ^ k * uval (gsOf (l.drop k)) := by
  induction l with
  | nil => intro k; simp [gsOf, uval]
  | cons x r ih =>
    intro k
    cases k with
    | zero => simp [gsOf, uval]
    | succ k =>
      show x.toNat % 128 + 128 * uval (gsOf r) = x.toNat % 128 + 128 * uval (gsOf (r.take k)) + 128 ^ (k + 1) * uval (gsOf (r.drop k))
      rw [ih k, Nat.pow_succ, Nat.mul_add, Nat.mul_comm (128 ^ k) 128, Nat.mul_assoc]
      omega
theorem uvalV_lt {l : List UInt8} {v n : Nat} (h : uvalV l = some (v, n)) : v < 18446744073709551616 ∧ 0 < n ∧ n ≤ l.length := by
  have hb := szL_bd l 0
  unfold uvalV at h
  split at h
  · cases h
  rename_i h0
  split at h
  · cases h
  rename_i h1
  cases h
  have hb2 : 0 < szL l 0 ∧ szL l 0 ≤ 10 ∧ szL l 0 ≤ l.length := by
    rcases hb with hb | hb
    · exact absurd hb h0
    · exact ⟨hb.1, hb.2.1, by omega⟩
  refine ⟨?_, hb2.1, hb2.2.2⟩
  obtain ⟨t, ht⟩ : ∃ t, t = l.take (szL l 0) := ⟨_, rfl⟩
  have hl : t.length = szL l 0 := by rw [ht, List.length_take]; omega
  rw [← ht] at h1 ⊢
  have h3 := uvalB_lt t
  by_cases h10 : szL l 0 = 10
  · have h4 : (gsOf t).getD 9 0 ≤ 1 := by
      have : ¬ 1 < (gsOf t).getD 9 0 := fun h => h1 ⟨h10, h⟩
      omega
    rw [uvalB_take t 9]
    have h5 := uvalB_lt (t.take 9)
    rw [show (t.take 9).length = 9 by rw [List.length_take]; omega] at h5
    have h6 : t.drop 9 = [t.getD 9 0] := by
      have : (t.drop 9).length = 1 := by rw [List.length_drop]; omega
      obtain ⟨a, ha⟩ := List.length_eq_one_iff.1 this
      rw [ha]
      have e : t[9]? = some a := by
        have : (t.drop 9)[0]? = some a := by rw [ha]; rfl
        simpa using this
      rw [List.getD_eq_getElem?_getD, e]
      rfl
    have h7 : uval (gsOf (t.drop 9)) ≤ 1 := by
      rw [h6]
      have e : (gsOf t).getD 9 0 = (t.getD 9 0).toNat % 128 := by
        unfold gsOf
        rw [List.getD_eq_getElem?_getD, List.getElem?_map, List.getD_eq_getElem?_getD, List.getElem?_eq_getElem (by omega)]
        rfl
      show (t.getD 9 0).toNat % 128 + 128 * 0 ≤ 1
      rw [← e]
      omega
    have h8 : 128 ^ 9 * uval (gsOf (t.drop 9)) ≤ 128 ^ 9 * 1 := Nat.mul_le_mul_left _ h7
    have e9 : (128 : Nat) ^ 9 = 9223372036854775808 := by decide
    rw [e9] at h5 h8 ⊢
    omega
  · have h4 : 128 ^ t.length ≤ 128 ^ 9 := Nat.pow_le_pow_right (by decide) (by omega)
    have e9 : (128 : Nat) ^ 9 = 9223372036854775808 := by decide
    omega
theorem svalV_le {l : List UInt8} {v : Int} {n : Nat} (h : svalV l = some (v, n)) : 0 < n ∧ n ≤ l.length := by
  have hb := szL_bd l 0
  unfold svalV at h
  split at h
  · cases h
  rename_i h0
  split at h
  · cases h
  cases h
  rcases hb with hb | hb
  · exact absurd hb h0
  · exact ⟨hb.1, by omega⟩
/-- The reader of binds between two opcodes. -/
structure BdS where
  p : Nat
  f : Fx
  is_ : Bool
  typ : Int
  fs : List Fx
  ended : Bool
/-- What an opcode comes to: a state, or an error. -/
inductive BdR where
  | ok (s : BdS)
  | bad (e : Int)
def numD (B : List UInt8) (s : BdS) (k : BdS → Nat → BdR) : BdR :=
  match uvalV (B.drop s.p) with
  | none => .bad 3
  | some (n, q) => k { s with p := s.p + q } n
def ordD (nd : Nat) (K : Int) (s : BdS) (n : Nat) : BdR := if K = 2 then .bad 14 else if nd < n then .bad 22 else .ok { s with f := { s.f with ord := (n : Int) } }
def onD (s : BdS) (n : Nat) : BdR := if s.f.at_ + n < 18446744073709551616 then .ok { s with f := { s.f with at_ := s.f.at_ + n } } else .bad 4
/-- A state's further way. -/
def BdR.then (r : BdR) (k : BdS → BdR) : BdR := match r with | .ok s => k s | .bad e => .bad e
def bndD (ls : List Seg) (skip : Nat) : Nat → BdS → BdR
  | 0, s => .ok s
  | n + 1, s => if writS ls s.f.at_ 8 = true then (onD { s with fs := s.fs ++ [s.f] } 8).then (fun s => (onD s skip).then (bndD ls skip n)) else .bad 19
def bindsD (ls : List Seg) (s : BdS) (n skip : Nat) : BdR :=
  if s.is_ = true ∧ ¬ s.f.sym.toList = [] ∧ s.typ = 1 then (if 20000 - s.fs.length < n then .bad 11 else bndD ls skip n s) else .bad 14
def textD (B : List UInt8) (p : Nat) : Option (List UInt8) := if 0 ≤ Lib.indexByte (B.drop p) 0 then some ((B.drop p).take (Lib.indexByte (B.drop p) 0).toNat) else none
def symD (B : List UInt8) (K : Int) (im : Nat) (s : BdS) : BdR :=
  match textD B s.p with
  | none => .bad 3
  | some t => if 1 < im ∧ (¬ im = 8 ∨ ¬ K = 2) then .bad 14 else if t.length = 0 ∨ 255 < t.length then .bad 10 else .ok { s with p := s.p + t.length + 1, f := { s.f with sym := if im = 8 then ⟨#[]⟩ else ⟨t.toArray⟩, weak := decide (im = 1) } }
/-- What an opcode makes of the state behind its byte. -/
def opD (B : List UInt8) (ls : List Seg) (nd : Nat) (K : Int) (op im : Nat) (s : BdS) : BdR :=
  if op = 0 then .ok { s with ended := !decide (K = 3) }
  else if op = 1 then ordD nd K s im
  else if op = 2 then numD B s (fun s n => ordD nd K s n)
  else if op = 3 then (if K = 2 then .bad 14 else if im = 0 ∨ 13 ≤ im then .ok { s with f := { s.f with ord := if im = 0 then 0 else (im : Int) - 16 } } else .bad 22)
  else if op = 4 then symD B K im s
  else if op = 5 then .ok { s with typ := (im : Int) }
  else if op = 6 then (match svalV (B.drop s.p) with | none => .bad 3 | some (n, q) => .ok { s with p := s.p + q, f := { s.f with add := n } })
  else if op = 7 then numD B s (fun s n => if (placeS ls im n).2 = 0 then .ok { s with f := { s.f with at_ := (placeS ls im n).1 }, is_ := true } else .bad (placeS ls im n).2)
  else if op = 8 then numD B s (fun s n => if s.is_ = true then onD s n else .bad 14)
  else if op = 9 then bindsD ls s 1 0
  else if op = 10 then numD B s (fun s n => bindsD ls s 1 n)
  else if op = 11 then bindsD ls s 1 (8 * im)
  else if op = 12 then numD B s (fun s n => numD B s (fun s k => bindsD ls s n k))
  else .bad 14
def byteD (B : List UInt8) (p : Nat) : Nat := (B.getD p 0).toNat
def stepD (B : List UInt8) (ls : List Seg) (nd : Nat) (K : Int) (s : BdS) : BdR := opD B ls nd K (byteD B s.p / 16) (byteD B s.p % 16) { s with p := s.p + 1 }
/-- All opcodes. -/
def decD (B : List UInt8) (ls : List Seg) (nd : Nat) (K : Int) : Nat → BdS → BdR
  | 0, s => .ok s
  | n + 1, s => if s.p < B.length ∧ s.ended = false then (stepD B ls nd K s).then (decD B ls nd K n) else .ok s
def bd0 (K : Int) : BdS := ⟨0, { Fx.zero with kind := 2, ord := if K = 2 then -3 else 0 }, false, 1, [], false⟩
def bindD (B : List UInt8) (ls : List Seg) (nd : Nat) (K : Int) : BdR := if 1 ≤ K ∧ K ≤ 3 then decD B ls nd K (B.length + 1) (bd0 K) else .bad 2
theorem textD_len {B t : List UInt8} {p : Nat} (h : textD B p = some t) : p + t.length + 1 ≤ B.length ∧ t = (B.drop p).take t.length := by
  unfold textD at h
  split at h
  · rename_i h0
    have h1 := indexByte_lt (B.drop p) 0
    rw [List.length_drop] at h1
    cases h
    have e : ((B.drop p).take (Lib.indexByte (B.drop p) 0).toNat).length = (Lib.indexByte (B.drop p) 0).toNat := by
      rw [List.length_take, List.length_drop]; omega
    rw [e]
    exact ⟨by omega, rfl⟩
  · cases h
/-- Behind an opcode the reader stands further. -/
theorem numD_fwd {B : List UInt8} {s s' : BdS} {k : BdS → Nat → BdR} (h : numD B s k = .ok s') : ∃ n q, uvalV (B.drop s.p) = some (n, q) ∧ s.p + q ≤ B.length ∧ 0 < q ∧ n < 18446744073709551616 ∧ k { s with p := s.p + q } n = .ok s' := by
  unfold numD at h
  split at h
  · cases h
  · rename_i n q hu
    have := uvalV_lt hu
    rw [List.length_drop] at this
    exact ⟨n, q, hu, by omega, this.2.1, this.1, h⟩
end Go.Proofs.YtkomocgodljecaaGreatDoor
