/- Lemmas, laid together: part 36 of 39. Conditions: none but each lemma's own. -/
import Derived.Test.YtppbcgffdpdklaaGreatDoorJ30
import Derived.Test.YtppbcgffdpdklaaGreatDoorJ17
import Derived.Test.YtppbcgffdpdklaaGreatDoorJ19
/- leb.Put and leb.PutSigned, walked. -/
namespace Go.Proofs.YtppbcgffdpdklaaGreatDoor
open Go.RowKit

theorem cell_one_new' (w : World) (v : Value) (T : TypeId) : ∀ j u, [v][j]? = some u → (w.alloc (.cells #[v] T)).cell? ((⟨w.heap.size, 0, none⟩ : Addr).add j) = some u := by
  intro j u hj
  match j, hj with
  | 0, hj => simp at hj; subst hj; simp [Addr.add]
theorem one_int (k : IntKind) (n : Int) : ∀ u ∈ [Value.int k n], u.oneCell' = true := by
  intro u hu; simp at hu; subst hu; rfl
set_option maxRecDepth 100000 in
theorem Put_any (n : Nat) (w : World) (hn : n < 18446744073709551616) :
    Calls Tryz.prog 16 #[.int .u64 n] w fun e w' => ∃ v, e = .returned v ∧ w'.ownsRow w.heap.size 5 1 v (putU n).length (bytesV (putU n)) ∧ Chg [] w w' := by
  obtain ⟨i0, hi, hz0, hz1, hz2⟩ := info_parts Tryz.infoU8
  have HN := Lib.hid hn
  clear hn
  go_enter Tryz.func16, Tryz.ntmps16
  go_wp2
  go_loopw [0, 3] (fun s0 v wr => ∃ (m f : Nat) (l : List UInt8), s0 = .int .u64 m ∧ m < 128 ^ (f + 1) ∧ f ≤ 9 ∧ m < 18446744073709551616 ∧ l.length + f = 9 ∧ l ++ putUf f m = putU n ∧ wr.ownsRow w.heap.size 5 1 v l.length (bytesV l) ∧ Chg [] w wr) (fun s0 _ _ => (intOf s0).toNat)
  case atStart => exact ⟨n, 9, [], rfl, by have := HN.out; omega, by omega, HN.out, rfl, rfl, World.ownsRow_nil _ _ _ _, Chg.refl _ _⟩
  case round =>
    obtain ⟨m, f, l, rfl, hm, hf, hm64, hl, hput, hown, hchg⟩ := hrel
    have HP := Lib.hid hput
    have HC := Lib.hid hchg
    have HL := Lib.hid hl
    have HM := Lib.hid hm
    have HM64 := Lib.hid hm64
    have hsz := hchg.size
    clear hput hchg hl hm hm64
    by_cases h128 : 128 ≤ m
    · obtain ⟨x, hx⟩ : ∃ x : Nat, x = m % 128 + 128 := ⟨_, rfl⟩
      have hE : bits .or .u8 ((m : Int) % 256) 128 = (x : Int) := by
        rw [hx, show (m : Int) % 256 = ((m % 256 : Nat) : Int) from by omega]
        have := u8_or_nat (m % 256) 128 (by omega) (by decide)
        rw [show ((128 : Nat) : Int) = 128 from rfl] at this
        rw [this, or128 (m % 256) (by omega)]
        omega
      have HX := Lib.hid hx
      clear hx
      go_wp2_with (at_builtin; refine wpList_append_own _ rfl _ _ 35 rfl w.heap.size 5 i0 (.int .u8 0) 1 1 Tryz.underlying35 hi hz0 hz1 hz2 rfl (by decide) _ _ _ rfl (hown.alloc _) ⟨wr.heap.size, 0, none⟩ 1 1 [.int .u8 x] rfl rfl ?c1 ?c2 ?c3 ?c4 ?c5 ?_)
      case c1 =>
        intro j u hj
        match j, hj with
        | 0, hj => simp at hj; subst hj; simp [Addr.add]
      case c2 => intro u hu; simp at hu; subst hu; rfl
      case c3 => have := HL.out; unfold maxLen; omega
      case c4 => have := HL.out; omega
      case c5 => simp; omega
      intro v' w1 hown' hgrow _
      have HO := Lib.hid hown'
      have HGR := Lib.hid hgrow
      have HLT := Lib.hid hown.lt
      clear hown' hgrow hown
      go_wp2
      go_roundw
      case rel =>
        have h9 : 0 < f := by
          rcases Nat.eq_zero_or_pos f with h0 | h0
          · exfalso; have := HM.out; rw [h0] at this; omega
          · exact h0
        obtain ⟨f', rfl⟩ : ∃ f', f = f' + 1 := ⟨f - 1, by omega⟩
        refine ⟨m / 128, f', l ++ [UInt8.ofNat x], by go_num, ?_, by omega, by have := HM64.out; omega, by have := HL.out; simp; omega, ?_, ?_, ?_⟩
        · have := HM.out
          rw [Nat.pow_succ] at this
          omega
        · rw [← HP.out, putUf_step f' m h128, HX.out]; simp
        · have := HO.out
          rw [show bytesV (l ++ [UInt8.ofNat x]) = bytesV l ++ [.int .u8 x] from ?_, List.length_append]
          · exact this
          · have := HX.out
            have e : (UInt8.ofNat x).toNat = x := by simp; omega
            simp [bytesV, byteV, e]
        · exact (HC.out.alloc _).grown HGR.out (fun k hk => .inr (HLT.out k hk).1)
      case measure => simp [intOf]; omega
    · have HX : Hid (m < 128) := Nat.lt_of_not_le h128
      go_wp2_with (at_builtin; refine wpList_append_own _ rfl _ _ 35 rfl w.heap.size 5 i0 (.int .u8 0) 1 1 Tryz.underlying35 hi hz0 hz1 hz2 rfl (by decide) _ _ _ rfl (hown.alloc _) ⟨wr.heap.size, 0, none⟩ 1 1 [.int .u8 m] rfl rfl ?c1 ?c2 ?c3 ?c4 ?c5 ?_)
      case c1 =>
        intro j u hj
        match j, hj with
        | 0, hj => simp at hj; subst hj; simp [Addr.add]
      case c2 => intro u hu; simp at hu; subst hu; rfl
      case c3 => have := HL.out; unfold maxLen; omega
      case c4 => have := HL.out; omega
      case c5 => simp; omega
      intro v' w1 hown' hgrow _
      have HO := Lib.hid hown'
      have HGR := Lib.hid hgrow
      have HLT := Lib.hid hown.lt
      clear hown' hgrow hown
      go_wp2
      go_ret
      have e1 : putU n = l ++ [UInt8.ofNat m] := by rw [← HP.out, putUf_small f m HX.out]
      refine ⟨_, rfl, ?_, (HC.out.alloc _).grown HGR.out (fun k hk => .inr (HLT.out k hk).1)⟩
      have := HO.out
      rw [e1, show bytesV (l ++ [UInt8.ofNat m]) = bytesV l ++ [.int .u8 m] from ?_, List.length_append]
      · exact this
      · have := HX.out
        have e : (UInt8.ofNat m).toNat = m := by simp; omega
        simp [bytesV, byteV, e]
set_option maxRecDepth 100000 in
theorem PutSigned_any (n : Int) (w : World) (hn : -9223372036854775808 ≤ n ∧ n < 9223372036854775808) :
    Calls Tryz.prog 17 #[.int .i64 n] w fun e w' => ∃ v, e = .returned v ∧ w'.ownsRow w.heap.size 5 1 v (putS n).length (bytesV (putS n)) ∧ Chg [] w w' := by
  obtain ⟨i0, hi, hz0, hz1, hz2⟩ := info_parts Tryz.infoU8
  have HN := Lib.hid hn
  clear hn
  go_enter Tryz.func17, Tryz.ntmps17
  go_wp2
  go_loopw [0, 3] (fun s0 v wr => ∃ (m : Int) (f : Nat) (l : List UInt8), s0 = .int .i64 m ∧ (-(64 * 128 ^ f) ≤ m ∧ m < 64 * 128 ^ f) ∧ f ≤ 9 ∧ (-9223372036854775808 ≤ m ∧ m < 9223372036854775808) ∧ l.length + f = 9 ∧ l ++ putSf f m = putS n ∧ wr.ownsRow w.heap.size 5 1 v l.length (bytesV l) ∧ Chg [] w wr) (fun s0 _ _ => (intOf s0).natAbs)
  case atStart => exact ⟨n, 9, [], rfl, by have := HN.out; omega, by omega, HN.out, rfl, rfl, World.ownsRow_nil _ _ _ _, Chg.refl _ _⟩
  case round =>
    obtain ⟨m, f, l, rfl, hm, hf, hm64, hl, hput, hown, hchg⟩ := hrel
    have HP := Lib.hid hput
    have HC := Lib.hid hchg
    have HL := Lib.hid hl
    have HM := Lib.hid hm
    have HM64 := Lib.hid hm64
    have hsz := hchg.size
    clear hput hchg hl hm hm64
    obtain ⟨hm1, hm2⟩ := HM64.out
    by_cases h128 : -64 ≤ m ∧ m < 64
    · obtain ⟨hs1, hs2⟩ := h128
      obtain ⟨x, hx⟩ : ∃ x : Nat, x = (m % 128).toNat := ⟨_, rfl⟩
      have hE : bits .and .u8 (m % 256) 127 = (x : Int) := by
        rw [show m % 256 = (((m % 256).toNat : Nat) : Int) from by omega, and127 _ (by omega)]
        omega
      have HX := Lib.hid hx
      clear hx
      go_wp2_with (at_builtin; refine wpList_append_own _ rfl _ _ 35 rfl w.heap.size 5 i0 (.int .u8 0) 1 1 Tryz.underlying35 hi hz0 hz1 hz2 rfl (by decide) _ _ _ rfl (hown.alloc _) ⟨wr.heap.size, 0, none⟩ 1 1 [.int .u8 x] rfl rfl ?c1 ?c2 ?c3 ?c4 ?c5 ?_)
      case c1 =>
        intro j u hj
        match j, hj with
        | 0, hj => simp at hj; subst hj; simp [Addr.add]
      case c2 => intro u hu; simp at hu; subst hu; rfl
      case c3 => have := HL.out; unfold maxLen; omega
      case c4 => have := HL.out; omega
      case c5 => simp; omega
      intro v' w1 hown' hgrow _
      have HO := Lib.hid hown'
      have HGR := Lib.hid hgrow
      have HLT := Lib.hid hown.lt
      clear hown' hgrow hown
      go_wp2
      go_ret
      have e1 : putS n = l ++ [UInt8.ofNat x] := by rw [← HP.out, putSf_small f m ⟨hs1, hs2⟩, HX.out]
      refine ⟨_, rfl, ?_, (HC.out.alloc _).grown HGR.out (fun k hk => .inr (HLT.out k hk).1)⟩
      have := HO.out
      rw [e1, show bytesV (l ++ [UInt8.ofNat x]) = bytesV l ++ [.int .u8 x] from ?_, List.length_append]
      · exact this
      · have := HX.out
        have e : (UInt8.ofNat x).toNat = x := by simp; omega
        simp [bytesV, byteV, e]
    · obtain ⟨x, hx⟩ : ∃ x : Nat, x = (m % 128).toNat + 128 := ⟨_, rfl⟩
      have hE : bits .or .u8 (m % 256) 128 = (x : Int) := by
        have := u8_or_nat (m % 256).toNat 128 (by omega) (by decide)
        rw [show ((128 : Nat) : Int) = 128 from rfl] at this
        rw [show m % 256 = (((m % 256).toNat : Nat) : Int) from by omega, this, or128 _ (by omega)]
        omega
      have hsp : m < -64 ∨ (¬ m < -64 ∧ 64 ≤ m) := by omega
      have HX := Lib.hid hx
      have H128 := Lib.hid h128
      clear hx h128
      have fin : ∀ (v' : Value) (w1 : World), w1.ownsRow w.heap.size 5 1 v' (l.length + 1) (bytesV l ++ [.int .u8 x]) → Chg [] w w1 →
          ∃ (m' : Int) (f' : Nat) (l' : List UInt8), Value.int .i64 (m / 128) = .int .i64 m' ∧ (-(64 * 128 ^ f') ≤ m' ∧ m' < 64 * 128 ^ f') ∧ f' ≤ 9 ∧ (-9223372036854775808 ≤ m' ∧ m' < 9223372036854775808) ∧ l'.length + f' = 9 ∧ l' ++ putSf f' m' = putS n ∧ w1.ownsRow w.heap.size 5 1 v' l'.length (bytesV l') ∧ Chg [] w w1 := by
        intro v' w1 ho hc
        have h9 : 0 < f := by
          rcases Nat.eq_zero_or_pos f with h0 | h0
          · exfalso; have h1 := HM.out; have h2 := H128.out; rw [h0] at h1; omega
          · exact h0
        obtain ⟨f', rfl⟩ : ∃ f', f = f' + 1 := ⟨f - 1, by omega⟩
        refine ⟨m / 128, f', l ++ [UInt8.ofNat x], rfl, ?_, by omega, by omega, by have := HL.out; simp; omega, ?_, ?_, hc⟩
        · have := HM.out
          rw [Int.pow_succ] at this
          omega
        · rw [← HP.out, putSf_step f' m H128.out, HX.out]; simp
        · rw [show bytesV (l ++ [UInt8.ofNat x]) = bytesV l ++ [.int .u8 x] from ?_, List.length_append]
          · exact ho
          · have := HX.out
            have e : (UInt8.ofNat x).toNat = x := by simp; omega
            simp [bytesV, byteV, e]
      have HF := Lib.hid fin
      clear fin
      rcases hsp with hsp | ⟨hsp1, hsp2⟩
      all_goals
        go_wp2_with (at_builtin; refine wpList_append_own _ rfl _ _ 35 rfl w.heap.size 5 i0 (.int .u8 0) 1 1 Tryz.underlying35 hi hz0 hz1 hz2 rfl (by decide) _ _ _ rfl (hown.alloc _) ⟨wr.heap.size, 0, none⟩ 1 1 [.int .u8 x] rfl rfl (cell_one_new' _ _ _) (one_int _ _) (by have := HL.out; unfold maxLen; omega) (by have := HL.out; omega) (by simp; omega) ?_; intro v' w1 hown' hgrow _)
        have HO := Lib.hid hown'
        have HGR := Lib.hid hgrow
        have HLT := Lib.hid hown.lt
        clear hown' hgrow hown
        go_wp2
        go_roundw
        case rel => exact HF.out _ _ HO.out ((HC.out.alloc _).grown HGR.out (fun k hk => .inr (HLT.out k hk).1))
        case measure => simp [intOf]; omega
end Go.Proofs.YtppbcgffdpdklaaGreatDoor
