/- clevisref15.May, of no starts and one import. -/
import Derived.Test.YtkclmknepbbhnaaDoorHeadB
import Derived.Test.YtkclmknepbbhnaaDoorRFmt
import Derived.Lib.ConvBytes
namespace Go.Proofs.YtkclmknepbbhnaaDoor
open Go.RowKit
set_option maxRecDepth 100000

theorem rordinal_any (n : Int) (m : Img) (w : World) : Calls Tryd.prog 17 #[.int .i64 n, imgL.val m] w fun e w' => e = .returned (.bool (ordB n m.deps.n)) ∧ Chg [] w w' := by
  unfold ordB
  by_cases h1 : -3 ≤ n
  · have d1 : decide (-3 ≤ n) = true := by simpa using h1
    rw [d1]
    have H1 := Lib.hid h1
    clear h1
    go_enter Tryd.func17, Tryd.ntmps17
    go_wp2_with ((with_reducible refine Lay.bxL (L := imgL) 33 m ?_ ?_); exact rfl; intro W1 bm ebm cbm xbm; replace ebm := Lib.hid ebm; replace cbm := Lib.hid cbm; replace xbm := Lib.hid xbm; refine Hid.out ?_)
    refine Lib.hid ?_
    have x5 := Img.c_deps xbm.out
    go_wp2
    go_ret
    exact ⟨rfl, cbm.out⟩
  · have d1 : decide (-3 ≤ n) = false := by simpa using h1
    rw [d1]
    have H1 := Lib.hid h1
    clear h1
    go_enter Tryd.func17, Tryd.ntmps17
    go_wp2_with ((with_reducible refine Lay.bxL (L := imgL) 33 m ?_ ?_); exact rfl; intro W1 bm ebm cbm xbm; replace ebm := Lib.hid ebm; replace cbm := Lib.hid cbm; replace xbm := Lib.hid xbm; refine Hid.out ?_)
    refine Lib.hid ?_
    go_wp2
    go_ret
    exact ⟨rfl, cbm.out⟩
theorem rsize_any (n : Int) (w : World) : Calls Tryd.prog 19 #[.int .i64 n] w fun e w' => e = .returned (.int .i64 (if n = 1 then 4 else if n = 2 then 8 else if n = 3 then 16 else 0)) ∧ w' = w := by
  by_cases h1 : n = 1
  · subst h1
    rw [if_pos rfl]
    go_enter Tryd.func19, Tryd.ntmps19
    go_wp2
    go_ret
    exact ⟨rfl, rfl⟩
  by_cases h2 : n = 2
  · subst h2
    rw [if_neg h1, if_pos rfl]
    go_enter Tryd.func19, Tryd.ntmps19
    go_wp2
    go_ret
    exact ⟨rfl, rfl⟩
  by_cases h3 : n = 3
  · subst h3
    rw [if_neg h1, if_neg h2, if_pos rfl]
    go_enter Tryd.func19, Tryd.ntmps19
    go_wp2
    go_ret
    exact ⟨rfl, rfl⟩
  rw [if_neg h1, if_neg h2, if_neg h3]
  have d1 : (n == 1) = false := by simpa using h1
  have d2 : (n == 2) = false := by simpa using h2
  have d3 : (n == 3) = false := by simpa using h3
  clear h1 h2 h3
  go_enter Tryd.func19, Tryd.ntmps19
  go_wp2
  go_ret
  exact ⟨rfl, rfl⟩
/-- What stands ahead of the first 0. -/
def nameL (l : List UInt8) : List UInt8 := l.takeWhile fun b => b != 0
theorem nameL_take : ∀ (l : List UInt8) (k : Nat), k ≤ l.length → (∀ j, j < k → l.getD j 0 ≠ 0) → (k = l.length ∨ l.getD k 0 = 0) → l.take k = nameL l
  | [], 0, _, _, _ => rfl
  | [], k + 1, h, _, _ => by simp at h
  | b :: l, 0, _, _, h => by
    rcases h with h | h
    · simp at h
    · have hb : b = 0 := h
      subst hb
      rfl
  | b :: l, k + 1, hk, h, h2 => by
    have hb : b ≠ 0 := h 0 (by omega)
    have ih := nameL_take l k (by simpa using hk) (fun j hj => h (j + 1) (by omega)) (by
      rcases h2 with h2 | h2
      · exact .inl (by simpa using h2)
      · exact .inr h2)
    unfold nameL at ih ⊢
    rw [List.take_succ_cons, ih, List.takeWhile_cons, if_pos (by simpa using hb)]
theorem nameL_all : ∀ (l : List UInt8), (nameL l = l) ↔ ¬ 0 ≤ Lib.indexByte l 0
  | [] => by simp [nameL, Lib.indexByte]
  | b :: l => by
    have ih := nameL_all l
    have hg := Lib.indexByte_ge l 0
    unfold nameL at ih ⊢
    unfold Lib.indexByte
    rw [List.takeWhile_cons]
    by_cases hb : b = 0
    · subst hb
      simp
    · have h1 : (b != 0) = true := by simpa using hb
      have h2 : (b == 0) = false := by simpa using hb
      rw [if_pos h1, h2, if_neg (by simp)]
      by_cases hi : Lib.indexByte l 0 = -1
      · rw [hi]
        simp only [List.cons.injEq, true_and, ih, hi]
        simp
      · have : ¬ (Lib.indexByte l 0 == -1) = true := by simpa using hi
        rw [if_neg this]
        simp only [List.cons.injEq, true_and, ih]
        omega
theorem byte_takeRd {w : World} {a : Option Addr} {n cap k : Nat} {l : List UInt8} (h : byteL.Rd w (.slice a n cap) l) (hk : k ≤ l.length) : byteL.Rd w (.slice a k cap) (l.take k) := by
  have := Rd_takeG (Rd_of_byte h) hk
  exact Rd_to_byte this
set_option maxHeartbeats 1000000 in
theorem rname_any (l : List UInt8) (v : Value) (w : World) (rd : byteL.Rd w v l) :
    Calls Tryd.prog 18 #[v] w fun e w' => e = .returned (.string ⟨(nameL l).toArray⟩) ∧ Chg [] w w' := by
  obtain ⟨a, cap, rfl, hc1, hc2⟩ := rd.shape
  have Rd := Lib.hid rd
  clear rd
  go_enter Tryd.func18, Tryd.ntmps18
  go_wp2_with fail
  go_loopw [3] (fun s3 wr => ∃ k : Nat, k ≤ l.length ∧ s3 = .int .i64 (k : Int) ∧ wr = w ∧ ∀ j, j < k → l.getD j 0 ≠ 0) (fun s3 _ => l.length - (intOf s3).toNat)
  case atStart => exact ⟨0, Nat.zero_le _, rfl, rfl, fun _ h => absurd h (Nat.not_lt_zero _)⟩
  case round =>
    obtain ⟨k, hk, rfl, rfl, hno⟩ := hrel
    by_cases hlt : k < l.length
    · obtain ⟨b, off, rfl, hb, hcell⟩ := Rd.out.at (by omega)
      have c0 := hcell k hlt 0 (by decide)
      rw [show byteL.n = 1 from rfl, Nat.mul_one, Nat.add_zero] at c0
      replace c0 : wr.cell? ⟨b, off + k, none⟩ = some (.int .u8 (l.getD k 0).toNat) := c0
      clear hcell
      by_cases h0 : l.getD k 0 = 0
      · have htk := nameL_take l k hk hno (.inr h0)
        have hst := run_strB (byte_takeRd Rd.out hk)
        rw [htk] at hst
        rw [h0] at c0
        have Hno := Lib.hid hno
        have Htk := Lib.hid htk
        have H0 := Lib.hid h0
        clear hno htk h0
        go_wp2
        go_ret
        exact ⟨rfl, Chg.refl _ _⟩
      · have hne : ((l.getD k 0).toNat : Int) ≠ 0 := fun e => h0 (by
          have : (l.getD k 0).toNat = 0 := by omega
          exact UInt8.toNat_inj.1 this)
        have dne : (((l.getD k 0).toNat : Int) != 0) = true := by simpa using hne
        have hno2 : ∀ j, j < k + 1 → l.getD j 0 ≠ 0 := fun j hj => by
          by_cases e : j = k
          · rw [e]; exact h0
          · exact hno j (by omega)
        generalize ((l.getD k 0).toNat : Int) = z at *
        have Hno := Lib.hid hno
        have Hno2 := Lib.hid hno2
        have H0 := Lib.hid h0
        have Hne := Lib.hid hne
        clear hno hno2 h0 hne
        go_wp2
        go_roundw
        case rel => exact ⟨k + 1, hlt, by go_num, trivial, Hno2.out⟩
        case measure => simp [intOf]; omega
    · obtain rfl : k = l.length := by omega
      have htk := nameL_take l _ (Nat.le_refl _) hno (.inl rfl)
      have hst := run_strB (byte_takeRd Rd.out (Nat.le_refl l.length))
      rw [htk] at hst
      have Hno := Lib.hid hno
      have Htk := Lib.hid htk
      clear hno htk
      cases a with
      | none =>
        go_wp2
        go_ret
        exact ⟨rfl, Chg.refl _ _⟩
      | some ad =>
        go_wp2
        go_ret
        exact ⟨rfl, Chg.refl _ _⟩
end Go.Proofs.YtkclmknepbbhnaaDoor
