/- Numbers in hexadecimal: strconv.FormatUint at base 16, fixup.hex. -/
import Derived.Test.YtchkombikjcokaaDoorVal
import Derived.Test.YtchkombikjcokaaDoorFatB
namespace Go.Proofs.YtchkombikjcokaaDoor
open Go.RowKit
set_option maxRecDepth 100000

/-- A hexadecimal digit. -/
def hexC (d : Nat) : UInt8 := UInt8.ofNat (if d < 10 then 48 + d else 87 + d)
/-- A number's digits, ahead of others. -/
def hexG : Nat → Nat → List UInt8 → List UInt8
  | 0, u, l => hexC u :: l
  | f + 1, u, l => if u < 16 then hexC u :: l else hexG f (u / 16) (hexC (u % 16) :: l)
def hexD (n : Nat) : List UInt8 := hexG 16 n []
/-- What TrailingZeros reads of its table. -/
def Tz (w : World) : Prop := w.cell? ⟨4, 15, none⟩ = some (.int .u8 4)
theorem Tz.frame {w w' : World} (h : Tz w) (k : Chg [] w w') : Tz w' := k.cell h (by simp)

theorem tz_any (w : World) (ht : Tz w) : Calls Tryd.prog 127 #[.int .u64 16] w fun e w' => e = .returned (.int .i64 4) ∧ w' = w := by
  unfold Tz at ht
  have h64 : Hid (Calls Tryd.prog 134 #[.int .u64 16] w fun e w' => e = .returned (.int .i64 4) ∧ w' = w) := by
    refine Lib.hid ?_
    have e1 : bits .and .u64 16 (IntKind.u64.wrap (-16)) = 16 := by decide +kernel
    go_enter Tryd.func134, Tryd.ntmps134
    go_wp2
    go_ret
    exact ⟨rfl, rfl⟩
  clear ht
  go_enter Tryd.func127, Tryd.ntmps127
  go_wp2_with fail
  refine (h64.out).mono ?_
  rintro e w' ⟨rfl, rfl⟩
  go_wp2
  go_ret
  exact ⟨rfl, rfl⟩
theorem pow_any (w : World) : Calls Tryd.prog 126 #[.int .i64 16] w fun e w' => e = .returned (.bool true) ∧ w' = w := by
  go_enter Tryd.func126, Tryd.ntmps126
  go_wp2
  go_ret
  exact ⟨rfl, rfl⟩
theorem and15 (a : Nat) (ha : a < 18446744073709551616) : bits .and .u64 (a : Int) 15 = ((a % 16 : Nat) : Int) := by
  have := Go.bits_mask .u64 64 (by decide) (fun n h1 h2 => by rw [IntKind.wrap_u64]; omega) 4 (by decide) (a : Int) (by omega) (by omega)
  rw [Int.natCast_emod]
  simpa using this

def hexT : ByteArray := ⟨#[48, 49, 50, 51, 52, 53, 54, 55, 56, 57, 97, 98, 99, 100, 101, 102, 103, 104, 105, 106, 107, 108, 109, 110, 111, 112, 113, 114, 115, 116, 117, 118, 119, 120, 121, 122]⟩
theorem hexT_get : ∀ (d : Nat) (_ : d < 16) (h : d < hexT.size), hexT[d] = hexC d
  | 0, _, _ => rfl
  | 1, _, _ => rfl
  | 2, _, _ => rfl
  | 3, _, _ => rfl
  | 4, _, _ => rfl
  | 5, _, _ => rfl
  | 6, _, _ => rfl
  | 7, _, _ => rfl
  | 8, _, _ => rfl
  | 9, _, _ => rfl
  | 10, _, _ => rfl
  | 11, _, _ => rfl
  | 12, _, _ => rfl
  | 13, _, _ => rfl
  | 14, _, _ => rfl
  | 15, _, _ => rfl
  | d + 16, h, _ => absurd h (by omega)
theorem drop_set {cur : Array Value} {i j : Nat} {l : List UInt8} {x : UInt8} (hi : i < cur.size) (hj : j = i + 1) (h : cur.toList.drop j = bytesV l) : (cur.setIfInBounds i (.int .u8 x.toNat)).toList.drop i = bytesV (x :: l) := by
  subst hj
  have hi' : i < cur.toList.length := by simpa using hi
  rw [Array.toList_setIfInBounds, List.drop_set, if_neg (by omega), Nat.sub_self, List.drop_eq_getElem_cons hi', List.set_cons_zero, h]
  rfl
theorem hexG_len : ∀ (k u : Nat) (l : List UInt8), (hexG k u l).length ≤ k + 1 + l.length
  | 0, _, _ => by simp only [hexG, List.length_cons]; omega
  | k + 1, u, l => by
    unfold hexG
    split
    · simp only [List.length_cons]; omega
    · have := hexG_len k (u / 16) (hexC (u % 16) :: l)
      simp only [List.length_cons] at this
      omega
theorem hexD_len (n : Nat) : (hexD n).length ≤ 17 := hexG_len 16 n []
theorem hexG_big {k u : Nat} {l : List UInt8} (hk : 1 ≤ k) (h : ¬ u < 16) : hexG k u l = hexG (k - 1) (u / 16) (hexC (u % 16) :: l) := by
  obtain ⟨f, rfl⟩ : ∃ f, k = f + 1 := ⟨k - 1, by omega⟩
  rw [hexG, if_neg h, Nat.add_sub_cancel]
theorem hexG_small {k u : Nat} {l : List UInt8} (hk : 1 ≤ k) (h : u < 16) : hexG k u l = hexC u :: l := by
  obtain ⟨f, rfl⟩ : ∃ f, k = f + 1 := ⟨k - 1, by omega⟩
  rw [hexG, if_pos h]
theorem pow16 {u k : Nat} (hk : 1 ≤ k) (h : u < 16 ^ k) (hu : ¬ u < 16) : 2 ≤ k ∧ u / 16 < 16 ^ (k - 1) := by
  obtain ⟨f, rfl⟩ : ∃ f, k = f + 1 := ⟨k - 1, by omega⟩
  refine ⟨?_, ?_⟩
  · cases f with
    | zero => exact absurd h (by simpa using hu)
    | succ f => omega
  · rw [Nat.add_sub_cancel]
    rw [Nat.pow_succ] at h
    omega
/-- The string that a part of a block is. -/
theorem Rd_drop {w : World} {b i m : Nat} {cur : Array Value} {T : TypeId} {fz : Nat × Nat} {l : List UInt8} (h : w.heap[b]? = some (.cells cur T fz)) (hd : cur.toList.drop i = bytesV l) (hm : m = l.length) (hl : l.length ≤ maxLen) : Rd w (.slice (some ⟨b, i, none⟩) m m) (bytesV l) := by
  subst hm
  refine ⟨_, _, _, rfl, by rw [bytesV_length], Nat.le_refl _, hl, fun _ => ⟨b, i, rfl, fun j _ => ?_⟩⟩
  rw [cell_of_heap h, ← hd, List.getElem?_drop]
  simp

set_option maxHeartbeats 4000000 in
theorem formatBits_any (n : Nat) (hn : n < 18446744073709551616) (w : World) (ht : Tz w) :
    Calls Tryd.prog 119 #[.slice none 0 0, .int .u64 n, .int .i64 16, .bool false, .bool false] w fun e w' => e = .returned (.tuple #[.slice none 0 0, .string ⟨(hexD n).toArray⟩]) ∧ Chg [] w w' := by
  have HT := Lib.hid (ht)
  clear ht
  go_enter Tryd.func119, Tryd.ntmps119
  go_wp2_with fail
  refine (pow_any _).mono ?_
  rintro e w' ⟨rfl, rfl⟩
  generalize hw1 : w.alloc _ = w1
  have HK1 : Hid (Chg [] w w1) := by
    refine Lib.hid ?_
    rw [← hw1]; exact (Chg.refl _ _).alloc _
  have HA1 : Hid (w1.heap[w.heap.size]? = some (.cells (Array.replicate 65 (.int .u8 0)) 210 (0, 0))) := by
    refine Lib.hid ?_
    rw [← hw1]; exact heap_alloc_new _ _
  clear hw1
  go_wp2_with fail
  refine (tz_any _ (HT.out.frame HK1.out)).mono ?_
  rintro e w' ⟨rfl, rfl⟩
  go_wp2_with fail
  go_loopw [1, 13] (fun s1 s13 wr => ∃ (u k : Nat) (l : List UInt8) (cur : Array Value), s1 = .int .u64 (u : Int) ∧ s13 = .int .i64 ((49 + k : Nat) : Int) ∧ 1 ≤ k ∧ k ≤ 16 ∧ u < 16 ^ k ∧ hexG k u l = hexD n ∧ Chg [] w wr ∧ wr.heap[w.heap.size]? = some (.cells cur 210 (0, 0)) ∧ cur.size = 65 ∧ cur.toList.drop (49 + k) = bytesV l) (fun _ s13 _ => (intOf s13).toNat)
  case atStart => exact ⟨n, 16, [], _, rfl, rfl, by decide, by decide, hn, rfl, HK1.out, HA1.out, by simp, by simp [bytesV]⟩
  case round =>
    obtain ⟨u, k, l, cur, rfl, rfl, hk1, hk16, hu, hh, hc, ha, hsz, hd⟩ := hrel
    have e1 : ((49 + k : Nat) : Int) = ((48 + k : Nat) : Int) + 1 := by omega
    rw [e1]
    clear e1
    obtain ⟨i, hi⟩ : ∃ i, i = 48 + k := ⟨_, rfl⟩
    rw [← hi]
    have hi64 : i ≤ 64 := by omega
    have hlt : u < 18446744073709551616 := Nat.lt_of_lt_of_le hu (Nat.pow_le_pow_right (n := 16) (by decide) hk16)
    have hb := and15 u hlt
    have HM : Hid (u % 16 < 16) := Lib.hid (Nat.mod_lt _ (by decide))
    obtain ⟨d, hdd⟩ : ∃ d, d = u % 16 := ⟨_, rfl⟩
    rw [← hdd] at hb HM
    have hcell : wr.cell? ⟨w.heap.size, i, none⟩ = some (cur.getD i undef) := by
      rw [cell_of_heap ha]; simp [show i < cur.size by omega]
    have hfz := frozen_of_heap ha i
    have Hh := Lib.hid hh
    have Hc := Lib.hid hc
    have HA := Lib.hid ha
    have Hsz := Lib.hid hsz
    have Hd := Lib.hid hd
    have Hu := Lib.hid hu
    have Hi := Lib.hid hi
    have Hdd := Lib.hid hdd
    have Hlt := Lib.hid hlt
    clear hh hc ha hsz hd hu hi hdd hlt
    have hm := HM.out
    clear HM
    by_cases h16 : u < 16
    · have HGS := Lib.hid (hexG_small (l := l) hk1 h16)
      have hd16 : d = u := by rw [Hdd.out, Nat.mod_eq_of_lt h16]
      subst hd16
      have HLE : Hid (65 - i = l.length + 1) := by
        refine Lib.hid ?_
        have h1 := congrArg List.length Hd.out
        rw [List.length_drop, bytesV_length, Array.length_toList, Hsz.out] at h1
        rw [Hi.out]; omega
      have HSL : Hid (∀ W : World, (Instr.sliceAt 210 (.pointer (some ⟨w.heap.size, 0, none⟩)) (some (.int .i64 (i : Int))) none none).run Tryd.prog W = .ok (.slice (some ⟨w.heap.size, i, none⟩) (65 - i) (65 - i)) W) := by
        refine Lib.hid ?_
        intro W
        rw [run_sliceAt_array_l W 210 ⟨w.heap.size, 0, none⟩ Tryd.underlying210 .i64 (i : Int) (by omega) (by show (i : Int) ≤ (65 : Nat); omega)]
        rw [show (sizeOf (Tryd.prog.elem 210)).run Tryd.prog W = .ok 1 W from by kernel_rfl, Result.andThen_ok]
        show Result.ok (slicedAt _ _ 65 65 1) W = _
        unfold slicedAt
        rw [Int.toNat_natCast, if_neg (by omega), Nat.mul_one, Addr_add, Nat.zero_add]
      go_wp2_with fail
      generalize hwe : wr.setCell _ _ = we
      have HE : Hid (Chg [] w we) := by
        refine Lib.hid ?_
        rw [← hwe]; exact Hc.out.setCell _ _ (.inr (Nat.le_refl _))
      have HR : Hid (Rd we (.slice (some ⟨w.heap.size, i, none⟩) (65 - i) (65 - i)) (bytesV (hexC d :: l))) := by
        refine Lib.hid ?_
        refine Rd_drop (cur := cur.setIfInBounds i (.int .u8 (hexC d).toNat)) (T := 210) (fz := (0, 0)) ?_ ?_ HLE.out ?_
        · rw [← hwe]
          refine (heap_setCell HA.out i _).trans ?_
          exact congrArg (fun x : UInt8 => some (Obj.cells (cur.setIfInBounds i (.int .u8 (x.toNat : Nat))) 210 (0, 0))) (hexT_get d hm _)
        · exact drop_set (by rw [Hsz.out]; omega) (by rw [Hi.out]; omega) Hd.out
        · have := HLE.out; simp only [List.length_cons]; unfold maxLen; omega
      clear hwe hcell hfz
      rw [HSL.out, Result.andThen_ok, Oper.upon_value]
      go_wp2_with fail
      rw [run_str HR.out, Result.andThen_ok, Oper.upon_value]
      go_wp2
      go_ret2
      exact ⟨by rw [← Hh.out, HGS.out]; rfl, HE.out⟩
    · have HGB := Lib.hid (hexG_big (l := l) hk1 h16)
      have HP := Lib.hid (pow16 hk1 Hu.out h16)
      go_wp2
      have hk2 := HP.out.1
      refine ⟨⟨u / 16, k - 1, hexC d :: l, cur.setIfInBounds i (.int .u8 (hexC d).toNat), by push_cast; rfl, by rw [Hi.out, show 49 + (k - 1) = 48 + k by omega], by omega, by omega, HP.out.2, ?_, ?_, ?_, by simpa using Hsz.out, ?_⟩, ?_⟩
      · rw [Hdd.out, ← HGB.out]; exact Hh.out
      · exact Hc.out.setCell _ _ (.inr (Nat.le_refl _))
      · refine (heap_setCell HA.out i _).trans ?_
        exact congrArg (fun x : UInt8 => some (Obj.cells (cur.setIfInBounds i (.int .u8 (x.toNat : Nat))) 210 (0, 0))) (hexT_get d hm _)
      · rw [show 49 + (k - 1) = i by rw [Hi.out]; omega]
        exact drop_set (by rw [Hsz.out]; omega) (by rw [Hi.out]; omega) Hd.out
      · simp only [intOf]; omega
theorem FormatUint_any (n : Nat) (hn : n < 18446744073709551616) (w : World) (ht : Tz w) :
    Calls Tryd.prog 101 #[.int .u64 n, .int .i64 16] w fun e w' => e = .returned (.string ⟨(hexD n).toArray⟩) ∧ Chg [] w w' := by
  have h2 : Hid (Calls Tryd.prog 114 #[.int .u64 n, .int .i64 16] w fun e w' => e = .returned (.string ⟨(hexD n).toArray⟩) ∧ Chg [] w w') := by
    refine Lib.hid ?_
    have HF := Lib.hid (formatBits_any n hn w ht)
    clear ht
    go_enter Tryd.func114, Tryd.ntmps114
    go_wp2_with fail
    refine (HF.out).mono ?_
    rintro e w' ⟨rfl, hc⟩
    have Hc := Lib.hid hc
    clear hc
    go_wp2
    go_ret
    exact ⟨rfl, Hc.out⟩
  clear ht
  go_enter Tryd.func101, Tryd.ntmps101
  go_wp2_with fail
  refine (h2.out).mono ?_
  rintro e w' ⟨rfl, hc⟩
  have Hc := Lib.hid hc
  clear hc
  go_wp2
  go_ret
  exact ⟨rfl, Hc.out⟩
def hexS (n : Nat) : List UInt8 := 48 :: 120 :: hexD n
theorem hex_any (n : Nat) (hn : n < 18446744073709551616) (w : World) (ht : Tz w) :
    Calls Tryd.prog 78 #[.int .u64 n] w fun e w' => e = .returned (.string ⟨(hexS n).toArray⟩) ∧ Chg [] w w' := by
  have HF := Lib.hid (FormatUint_any n hn w ht)
  have hl := hexD_len n
  clear ht
  go_enter Tryd.func78, Tryd.ntmps78
  go_wp2_with fail
  refine (HF.out).mono ?_
  rintro e w' ⟨rfl, hc⟩
  have Hc := Lib.hid hc
  clear hc
  go_wp2
  go_ret
  exact ⟨congrArg (fun b => Ending.returned (.string b)) (ByteArray.ext (by simp [hexS])), Hc.out⟩
end Go.Proofs.YtchkombikjcokaaDoor
