/- clevisref02.Size, Uleb, Sleb, walked. -/
import Derived.Test.YtpodphfdoonidaaDoorLebD2
namespace Go.Proofs.YtpodphfdoonidaaDoor
open Go.RowKit
set_option maxRecDepth 100000

theorem Rd_at {w : World} {a : Option Addr} {n cap : Nat} {l : List UInt8} (h : Rd w (.slice a n cap) (bytesV l)) (k : Nat) (hk : k < l.length) :
    ∃ b off, a = some ⟨b, off, none⟩ ∧ ∀ j, j < l.length → w.cell? ⟨b, off + j, none⟩ = some (.int .u8 (l.getD j 0).toNat) := by
  obtain ⟨a', n', cap', he, hn, hnc, hcm, hx⟩ := h
  cases he
  obtain ⟨b, off, rfl, hc⟩ := hx (by intro e; have : (bytesV l).length = 0 := by rw [e]; rfl
                                     rw [bytesV_length] at this; omega)
  refine ⟨b, off, rfl, fun j hj => ?_⟩
  rw [hc j (by rw [bytesV_length]; exact hj), bytesV_get l j hj]
theorem Rd_len {w : World} {a : Option Addr} {n cap : Nat} {xs : List Value} (h : Rd w (.slice a n cap) xs) : n = xs.length ∧ n ≤ 9223372036854775807 := by
  obtain ⟨a', n', cap', he, hn, hnc, hcm, hx⟩ := h
  cases he
  unfold maxLen at hcm
  exact ⟨hn, by omega⟩

theorem szL_drop (l : List UInt8) (k : Nat) (h : k < l.length) (h10 : k < 10) : szL (l.drop k) k = if (l.getD k 0).toNat < 128 then k + 1 else szL (l.drop (k + 1)) (k + 1) := by
  rw [drop_cons l k h, szL, if_neg (by omega)]
theorem szL_end (l : List UInt8) (k : Nat) (h : l.length ≤ k ∨ 10 ≤ k) : szL (l.drop k) k = 0 := by
  by_cases hk : l.length ≤ k
  · rw [List.drop_eq_nil_of_le hk]; rfl
  · rw [drop_cons l k (by omega), szL, if_pos (by omega)]

set_option maxRecDepth 100000 in
theorem RefSize_any (l : List UInt8) (a : Option Addr) (cap : Nat) (w : World) (hr : Rd w (.slice a l.length cap) (bytesV l)) :
    Calls Tryd.prog 53 #[.slice a l.length cap] w fun e w' => e = .returned (.int .i64 (szL l 0)) ∧ w = w' := by
  have hmax := (Rd_len hr).2
  have HR := Lib.hid hr
  clear hr
  go_enter Tryd.func53, Tryd.ntmps53
  go_wp2
  go_loop [3] (fun s3 => ∃ k : Nat, k ≤ l.length ∧ k ≤ 10 ∧ s3 = .int .i64 k ∧ szL (l.drop k) k = szL l 0) (fun s3 => 10 - (intOf s3).toNat)
  case atStart => exact ⟨0, by omega, by omega, rfl, rfl⟩
  case round =>
    obtain ⟨k, hk, hk10, rfl, hsz⟩ := hrel
    have HS := Lib.hid hsz
    clear hsz
    by_cases hlt : k < l.length
    · by_cases h10 : k < 10
      · obtain ⟨b, off, rfl, hc⟩ := Rd_at HR.out k hlt
        have hck := hc k hlt
        obtain ⟨x, hx⟩ : ∃ x : Nat, x = (l.getD k 0).toNat := ⟨_, rfl⟩
        have HST := Lib.hid (szL_drop l k hlt h10)
        rw [← hx] at hck HST
        clear hc hx
        by_cases hx128 : x < 128
        · have HX := Lib.hid hx128
          go_wp2
          go_ret
          have e1 : szL l 0 = k + 1 := by rw [← HS.out, HST.out, if_pos HX.out]
          exact ⟨by rw [e1]; rfl, rfl⟩
        · have HX := Lib.hid hx128
          go_wp2
          go_round
          case rel => exact ⟨k + 1, by omega, by omega, by go_num, by rw [← HS.out, HST.out, if_neg HX.out]⟩
          case measure => simp [intOf]; omega
      · have HE := Lib.hid (szL_end l k (.inr (by omega)))
        have hd : decide ((k : Int) < 10) = false := by simp; omega
        go_wp2
        go_ret
        exact ⟨by rw [← HS.out, HE.out]; rfl, rfl⟩
    · have HE := Lib.hid (szL_end l k (.inl (by omega)))
      have hd : decide ((k : Int) < (l.length : Int)) = false := by simp; omega
      go_wp2
      go_ret
      exact ⟨by rw [← HS.out, HE.out]; rfl, rfl⟩

theorem gs_at (l : List UInt8) (j : Nat) (hj : j < szL l 0) : (gsOf (l.take (szL l 0))).getD j 0 = (l.getD j 0).toNat % 128 ∧ j < l.length ∧ (gsOf (l.take (szL l 0))).length = szL l 0 := by
  have hb := szL_bd l 0
  have hl : szL l 0 ≤ l.length := by rcases hb with h | h <;> omega
  refine ⟨?_, by omega, by rw [gsOf_length]; simp; omega⟩
  simp [gsOf, hj, show j < l.length by omega]

theorem wrapmul (n x : Nat) (h : n < 144115188075855872) : IntKind.u64.wrap (IntKind.u64.wrap ((n : Int) * 128) + (x : Int) % 128) = ((x % 128 + 128 * n : Nat) : Int) := by
  rw [IntKind.wrap_u64, IntKind.wrap_u64]; omega
theorem RefUleb_any (l : List UInt8) (a : Option Addr) (cap : Nat) (w : World) (hr : Rd w (.slice a l.length cap) (bytesV l)) :
    Calls Tryd.prog 18 #[.slice a l.length cap] w fun e w' => e = .returned (.tuple #[.int .u64 ((uvalV l).getD (0, 0)).1, .int .i64 ((uvalV l).getD (0, 0)).2]) ∧ w = w' := by
  have hmax := (Rd_len hr).2
  have HR := Lib.hid hr
  have hsb := szL_bd l 0
  have hs10 : szL l 0 ≤ 10 := by omega
  have hsl : szL l 0 ≤ l.length := by rcases hsb with h | h <;> omega
  have HG : Hid (∀ j, j < szL l 0 → (gsOf (l.take (szL l 0))).getD j 0 = (l.getD j 0).toNat % 128 ∧ j < l.length ∧ (gsOf (l.take (szL l 0))).length = szL l 0) := Lib.hid (gs_at l)
  have HLT : Hid (∀ x ∈ gsOf (l.take (szL l 0)), x < 128) := Lib.hid (gsOf_lt _)
  obtain ⟨gs, hgs⟩ : ∃ gs, gs = gsOf (l.take (szL l 0)) := ⟨_, rfl⟩
  obtain ⟨s, hs⟩ : ∃ s, s = szL l 0 := ⟨_, rfl⟩
  have HV : Hid (uvalV l = if s = 0 then none else if s = 10 ∧ 1 < gs.getD 9 0 then none else some (uval gs, s)) := by
    apply Lib.hid; unfold uvalV; rw [← hgs, ← hs]
  have HGL : Hid (gs.length = s) := by
    apply Lib.hid
    rw [hgs, gsOf_length, hs]; simp; omega
  rw [← hgs, ← hs] at HG
  rw [← hgs] at HLT
  rw [← hs] at hs10 hsl
  have HSZ := Lib.hid hs.symm
  clear hr hsb hgs hs
  go_enter Tryd.func18, Tryd.ntmps18
  go_wp2_with fail
  refine (RefSize_any l a cap w HR.out).mono ?_
  rintro e w' ⟨rfl, rfl⟩
  rw [HSZ.out]
  go_wp2
  go_loop [4, 6] (fun s4 s6 => ∃ j : Nat, j ≤ s ∧ s6 = .int .i64 ((j : Int) - 1) ∧ s4 = .int .u64 (uval (gs.drop j)) ∧ uval (gs.drop j) < 18446744073709551616 ∧ (j < s → uval (gs.drop (j + 1)) < 144115188075855872)) (fun _ s6 => (intOf s6 + 1).toNat)
  case atStart =>
    refine ⟨s, by omega, rfl, ?_, ?_, fun h => by omega⟩
    · rw [List.drop_eq_nil_of_le (by rw [HGL.out]; exact Nat.le_refl _)]; rfl
    · rw [List.drop_eq_nil_of_le (by rw [HGL.out]; exact Nat.le_refl _)]; decide
  case round =>
    obtain ⟨j, hj, rfl, rfl, hn, hb⟩ := hrel
    obtain ⟨n, hn'⟩ : ∃ n : Nat, n = uval (gs.drop j) := ⟨_, rfl⟩
    rw [← hn'] at hn ⊢
    have HN := Lib.hid hn'
    have HB := Lib.hid hb
    clear hn' hb
    rcases Nat.eq_zero_or_pos j with rfl | hpos
    · go_wp2
      go_ret2
      have e1 : uvalV l = if s = 0 then none else some (n, s) := by
        rw [HV.out]
        by_cases h0 : s = 0
        · rw [if_pos h0, if_pos h0]
        · rw [if_neg h0, if_neg h0, if_neg, HN.out]
          · rfl
          · rintro ⟨h1, h2⟩
            have := u_above gs (by rw [HGL.out, h1]) h2
            have := HB.out (by omega)
            simp only [Nat.zero_add] at this
            omega
      refine ⟨?_, rfl⟩
      rw [e1]
      by_cases h0 : s = 0
      · have hn0 : n = 0 := by rw [HN.out, List.eq_nil_of_length_eq_zero (by rw [HGL.out, h0] : gs.length = 0)]; rfl
        rw [if_pos h0, hn0, h0]; rfl
      · rw [if_neg h0]; rfl
    · by_cases hbig : 144115188075855872 ≤ n
      · have hbig' : (144115188075855872 : Int) ≤ (n : Int) := by omega
        go_wp2
        go_ret2
        have e1 : uvalV l = none := by
          rw [HV.out, if_neg (by omega)]
          by_cases hc : s = 10 ∧ 1 < gs.getD 9 0
          · rw [if_pos hc]
          · have := u_below gs (by rw [HGL.out]; exact hs10) HLT.out (by rw [HGL.out]; exact hc) j hpos
            rw [← HN.out] at this
            omega
        exact ⟨by rw [e1]; rfl, rfl⟩
      · obtain ⟨i, rfl⟩ : ∃ i, j = i + 1 := ⟨j - 1, by omega⟩
        obtain ⟨h1, h2, _⟩ := HG.out i (by omega)
        obtain ⟨b, off, rfl, hc⟩ := Rd_at HR.out i h2
        have hci := hc i h2
        obtain ⟨x, hx⟩ : ∃ x : Nat, x = (l.getD i 0).toNat := ⟨_, rfl⟩
        have hx2 : x < 256 := by rw [hx]; exact (l.getD i 0).toNat_lt
        rw [← hx] at hci
        have HD : Hid (uval (gs.drop i) = x % 128 + 128 * n) := by
          apply Lib.hid
          rw [uval_drop gs i (by rw [HGL.out]; omega), h1, ← HN.out, hx]
        have HBG : Hid (n < 144115188075855872) := Nat.lt_of_not_le hbig
        have hd : decide ((144115188075855872 : Int) ≤ (n : Int)) = false := by simp; omega
        clear hc hx h1 hn hbig
        have hi : ((i + 1 : Nat) : Int) - 1 = (i : Int) := by omega
        rw [hi]
        clear hi
        go_wp2
        go_round
        case rel => exact ⟨i, by omega, rfl, (by rw [HD.out, wrapmul n x HBG.out]), (by rw [HD.out]; have := HBG.out; omega), fun _ => (by rw [← HN.out]; exact HBG.out)⟩
        case measure => simp [intOf]
theorem smul (n : Int) (g : Nat) (h : -72057594037927936 ≤ n ∧ n < 72057594037927936) (hg : g < 128) : wrap64 (wrap64 (n * 128) + (g : Int)) = (g : Int) + 128 * n := by
  unfold wrap64; omega
theorem RefSleb_any (l : List UInt8) (a : Option Addr) (cap : Nat) (w : World) (hr : Rd w (.slice a l.length cap) (bytesV l)) :
    Calls Tryd.prog 19 #[.slice a l.length cap] w fun e w' => e = .returned (.tuple #[.int .i64 ((svalV l).getD (0, 0)).1, .int .i64 ((svalV l).getD (0, 0)).2]) ∧ w = w' := by
  have hmax := (Rd_len hr).2
  have HR := Lib.hid hr
  have hsb := szL_bd l 0
  have hs10 : szL l 0 ≤ 10 := by omega
  have hsl : szL l 0 ≤ l.length := by rcases hsb with h | h <;> omega
  have HG : Hid (∀ j, j < szL l 0 → (gsOf (l.take (szL l 0))).getD j 0 = (l.getD j 0).toNat % 128 ∧ j < l.length ∧ (gsOf (l.take (szL l 0))).length = szL l 0) := Lib.hid (gs_at l)
  have HLT : Hid (∀ x ∈ gsOf (l.take (szL l 0)), x < 128) := Lib.hid (gsOf_lt _)
  obtain ⟨gs, hgs⟩ : ∃ gs, gs = gsOf (l.take (szL l 0)) := ⟨_, rfl⟩
  obtain ⟨s, hs⟩ : ∃ s, s = szL l 0 := ⟨_, rfl⟩
  have HV : Hid (svalV l = if s = 0 then none else if s = 10 ∧ ¬ (gs.getD 9 0 = 0 ∨ gs.getD 9 0 = 127) then none else some (sval gs, s)) := by
    apply Lib.hid; unfold svalV; rw [← hgs, ← hs]
  have HGL : Hid (gs.length = s) := by
    apply Lib.hid
    rw [hgs, gsOf_length, hs]; simp; omega
  rw [← hgs, ← hs] at HG
  rw [← hgs] at HLT
  rw [← hs] at hs10 hsl
  have HSZ := Lib.hid hs.symm
  clear hr hsb hgs hs
  go_enter Tryd.func19, Tryd.ntmps19
  go_wp2_with fail
  refine (RefSize_any l a cap w HR.out).mono ?_
  rintro e w' ⟨rfl, rfl⟩
  rw [HSZ.out]
  go_wp2
  go_loop [5, 6, 7] (fun s5 s6 _ => ∃ j : Nat, j ≤ s ∧ s6 = .int .i64 ((j : Int) - 1) ∧ s5 = .int .i64 (sval (gs.drop j)) ∧ (j < s → ¬ (sval (gs.drop (j + 1)) < -72057594037927936 ∨ 72057594037927936 ≤ sval (gs.drop (j + 1))))) (fun _ s6 _ => (intOf s6 + 1).toNat)
  case atStart =>
    refine ⟨s, by omega, rfl, ?_, fun h => by omega⟩
    rw [List.drop_eq_nil_of_le (by rw [HGL.out]; exact Nat.le_refl _)]; rfl
  case round =>
    obtain ⟨j, hj, rfl, rfl, hb⟩ := hrel
    obtain ⟨n, hn'⟩ : ∃ n : Int, n = sval (gs.drop j) := ⟨_, rfl⟩
    rw [← hn']
    have HN := Lib.hid hn'
    have HB := Lib.hid hb
    clear hn' hb
    rcases Nat.eq_zero_or_pos j with rfl | hpos
    · go_wp2
      go_ret2
      have e1 : svalV l = if s = 0 then none else some (n, s) := by
        rw [HV.out]
        by_cases h0 : s = 0
        · rw [if_pos h0, if_pos h0]
        · rw [if_neg h0, if_neg h0, if_neg, HN.out]
          · rfl
          · rintro ⟨h1, h2⟩
            exact HB.out (by omega) (s_out gs (by rw [HGL.out, h1]) HLT.out h2)
      refine ⟨?_, rfl⟩
      rw [e1]
      by_cases h0 : s = 0
      · have hn0 : n = 0 := by rw [HN.out, List.eq_nil_of_length_eq_zero (by rw [HGL.out, h0] : gs.length = 0)]; rfl
        rw [if_pos h0, hn0, h0]; rfl
      · rw [if_neg h0]; rfl
    · obtain ⟨i, rfl⟩ : ∃ i, j = i + 1 := ⟨j - 1, by omega⟩
      obtain ⟨h1, h2, _⟩ := HG.out i (by omega)
      obtain ⟨b, off, rfl, hc⟩ := Rd_at HR.out i h2
      have hci := hc i h2
      obtain ⟨x, hx⟩ : ∃ x : Nat, x = (l.getD i 0).toNat := ⟨_, rfl⟩
      have hx2 : x < 256 := by rw [hx]; exact (l.getD i 0).toNat_lt
      rw [← hx] at hci
      have HD : Hid (sval (gs.drop i) = (if i + 1 = s ∧ 64 ≤ x % 128 then ((x % 128 : Nat) : Int) - 128 else ((x % 128 : Nat) : Int)) + 128 * n) := by
        apply Lib.hid
        rw [sval_drop gs i (by rw [HGL.out]; omega), h1, ← HN.out, hx, HGL.out]
      clear hc hx h1
      have hi : ((i + 1 : Nat) : Int) - 1 = (i : Int) := by omega
      rw [hi]
      clear hi
      have hout : ∀ h : (n < -72057594037927936 ∨ 72057594037927936 ≤ n), svalV l = none := by
        intro h
        rw [HV.out, if_neg (by omega)]
        by_cases hc : s = 10 ∧ ¬ (gs.getD 9 0 = 0 ∨ gs.getD 9 0 = 127)
        · rw [if_pos hc]
        · have := s_below gs (by rw [HGL.out]; exact hs10) HLT.out (by rw [HGL.out]; exact hc) (i + 1) hpos
          rw [← HN.out] at this
          omega
      have HOUT := Lib.hid hout
      clear hout
      obtain ⟨g, hgx⟩ : ∃ g : Nat, g = x % 128 := ⟨_, rfl⟩
      have hg2 : (x : Int) % 128 = (g : Int) := by omega
      have hg3 : g < 128 := by omega
      rw [← hgx] at HD
      clear hgx
      by_cases hlast : i + 1 = s ∧ 64 ≤ g
      · obtain ⟨hl1, hl2⟩ := hlast
        have e1 : ((i : Int) == (s : Int) - 1) = true := by simp; omega
        have n0 : n = 0 := by rw [HN.out, List.drop_eq_nil_of_le (by rw [HGL.out, ← hl1]; exact Nat.le_refl _)]; rfl
        have HL : Hid (i + 1 = s ∧ 64 ≤ g) := ⟨hl1, hl2⟩
        clear hl1
        subst n0
        go_wp2
        go_round
        case rel => exact ⟨i, by omega, rfl, (by rw [HD.out, if_pos HL.out]; go_num), fun _ => (by rw [← HN.out]; omega)⟩
        case measure => simp [intOf]
      · have hsp : ((i : Int) == (s : Int) - 1) = false ∨ (((i : Int) == (s : Int) - 1) = true ∧ g < 64) := by
          by_cases h : i + 1 = s
          · right; exact ⟨by simp; omega, by omega⟩
          · left; simp; omega
        have HL := Lib.hid hlast
        clear hlast
        by_cases hbig : n < -72057594037927936 ∨ 72057594037927936 ≤ n
        · have HNONE := Lib.hid (HOUT.out hbig)
          rcases hsp with e1 | ⟨e1, e2⟩ <;> rcases hbig with hbig | hbig
          all_goals
            go_wp2
            go_ret2
            exact ⟨by rw [HNONE.out]; rfl, rfl⟩
        · have hbg : -72057594037927936 ≤ n ∧ n < 72057594037927936 := by omega
          have d1 : decide ((72057594037927936 : Int) ≤ n) = false := by simp; omega
          have d2 : decide (n < (-72057594037927936 : Int)) = false := by simp; omega
          have HBG := Lib.hid hbg
          have HBIG := Lib.hid hbig
          clear hbg hbig
          rcases hsp with e1 | ⟨e1, e2⟩
          all_goals
            go_wp2
            go_round
            case rel => exact ⟨i, by omega, rfl, (by rw [HD.out, if_neg HL.out, smul n g HBG.out hg3]), fun _ => (by rw [← HN.out]; exact HBIG.out)⟩
            case measure => simp [intOf]
end Go.Proofs.YtpodphfdoonidaaDoor
