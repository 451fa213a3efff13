/- clevislaw12.FixupSets, walked. -/
import Derived.Test.YtmfphdaoenkmnaaDoorFxRMeet
import Derived.Test.YtmfphdaoenkmnaaDoorFxFMeet
import Derived.Test.YtmfphdaoenkmnaaDoorFxRSame
namespace Go.Proofs.YtmfphdaoenkmnaaDoor
open Go.RowKit
set_option maxRecDepth 100000

/-- A place's address is written. -/
theorem fxV_set1 (x : Int) : ∀ (ls : List Fx) (j : Nat), j < ls.length → (fxV ls).set (j * 7) (.int .u64 x) = fxV (ls.set j { ls.getD j .zero with at_ := x })
  | [], j, h => by simp at h
  | s :: r, 0, _ => by
    show (s.cells ++ fxV r).set 0 _ = _ ++ fxV r
    simp [Fx.cells]
  | s :: r, j + 1, h => by
    have ih := fxV_set1 x r j (by simpa using h)
    show (s.cells ++ fxV r).set ((j + 1) * 7) _ = s.cells ++ fxV (r.set j _)
    rw [show ((s :: r).getD (j + 1) .zero) = r.getD j .zero from by simp, ← ih, List.set_append_right _ _ (by show 7 ≤ _; omega)]
    show s.cells ++ (fxV r).set ((j + 1) * 7 - 7) _ = _
    rw [show (j + 1) * 7 - 7 = j * 7 by omega]
theorem FxBuf.set1 {w : World} {base : Nat} {v : Value} {ls : List Fx} (h : FxBuf w base v ls) {g n cap : Nat} (hv : v = .slice (some ⟨g, 0, none⟩) n cap) (j : Nat) (hj : j < ls.length) (x : Int) : FxBuf (w.setCell ⟨g, j * 7, none⟩ (.int .u64 x)) base v (ls.set j { ls.getD j .zero with at_ := x }) := by
  obtain ⟨hl, hx⟩ := h
  rcases hx with ⟨rfl, h0⟩ | ⟨g', cap', cur, hv', hb, hg, hnc, hcm, hcs, htake⟩
  · omega
  · rw [hv'] at hv
    cases hv
    subst hv'
    have h7 := heap_setCell hg (j * 7) (.int .u64 x)
    refine ⟨by rw [fxV_len], .inr ⟨_, _, _, by rw [List.length_set], hb, h7, by rw [List.length_set]; exact hnc, hcm, by simp [hcs], ?_⟩⟩
    rw [List.length_set, ← fxV_set1 x ls j hj, ← htake]
    simp only [Array.toList_setIfInBounds, List.take_set]
set_option maxHeartbeats 8000000 in
theorem FixupSets_walk (w : World) (ht : Tz w) (l0 : List Fx) (a0 : Option Addr) (c0 : Nat) (rd0 : FxRd w (.slice a0 l0.length c0) l0) (ok0 : ∀ f ∈ l0, 0 ≤ f.at_ ∧ f.at_ < 18446744073709551616)
    (l1 : List Fx) (a1 : Option Addr) (c1 : Nat) (rd1 : FxRd w (.slice a1 l1.length c1) l1) (_ok1 : ∀ f ∈ l1, 0 ≤ f.at_ ∧ f.at_ < 18446744073709551616) :
    Calls Tryd.prog 3 #[.slice a0 l0.length c0, .slice a1 l1.length c1] w fun e w' => e = .returned (.bool true) ∧ Chg [] w w' := by
  have hm0 : c0 ≤ maxLen := by obtain ⟨_, _, _, e, _, _, h, _⟩ := rd0; cases e; exact h
  have hm1 : c1 ≤ maxLen := by obtain ⟨_, _, _, e, _, _, h, _⟩ := rd1; cases e; exact h
  have hn0 : l0.length ≤ c0 := by obtain ⟨_, _, _, e, _, h, _⟩ := rd0; cases e; exact h
  have hn1 : l1.length ≤ c1 := by obtain ⟨_, _, _, e, _, h, _⟩ := rd1; cases e; exact h
  unfold maxLen at hm0 hm1
  have Ht := Lib.hid ht
  have Rd0 := Lib.hid rd0
  have Rd1 := Lib.hid rd1
  have Ok0 := Lib.hid ok0
  clear ht rd0 rd1 ok0
  by_cases hg0 : 60 < l0.length
  · have d0 : decide ((60 : Int) < (l0.length : Int)) = true := by simp; omega
    go_enter Tryd.func3, Tryd.ntmps3
    go_wp2_with fail
    refine (known12 _ Ht.out).mono ?_
    rintro e w1 ⟨rfl, hch⟩
    go_wp2
    go_ret
    exact ⟨rfl, hch⟩
  have d0 : decide ((60 : Int) < (l0.length : Int)) = false := by simp; omega
  by_cases hg1 : 60 < l1.length
  · have d1 : decide ((60 : Int) < (l1.length : Int)) = true := by simp; omega
    go_enter Tryd.func3, Tryd.ntmps3
    go_wp2_with fail
    refine (known12 _ Ht.out).mono ?_
    rintro e w1 ⟨rfl, hch⟩
    go_wp2
    go_ret
    exact ⟨rfl, hch⟩
  have d1 : decide ((60 : Int) < (l1.length : Int)) = false := by simp; omega
  have k0 : l0.length ≤ 100000 := by omega
  have k1 : l1.length ≤ 100000 := by omega
  go_enter Tryd.func3, Tryd.ntmps3
  go_wp2_with (at_builtin; refine app_fxs rfl _ _ rfl w.heap.size (.slice none 0 0) [] rfl (FxBuf.nil _ _) _ rfl l0 Rd0.out (by simp; omega) (Nat.le_refl _) ?_; intro va wa hoa hga; refine Hid.out ?_)
  refine Lib.hid ?_
  have BA : Hid (FxBuf wa w.heap.size va l0) := Lib.hid (hoa)
  have CA : Hid (Chg [] w wa) := Lib.hid ((Chg.of_grown hga))
  clear hoa hga
  go_wp2_with fail
  refine (FSet_any l0 va wa BA.out.rd k0).mono ?_
  rintro e w1 ⟨v1, rfl, hb, hch⟩
  have C1 := Lib.hid (CA.out.then hch)
  have D1 := Lib.hid (hch)
  have B1 := Lib.hid (hb)
  clear hb hch
  go_wp2_with fail
  refine (RSet_any l0 _ w1 (Rd0.out.frame C1.out) k0).mono ?_
  rintro e w2 ⟨v2, rfl, hb, hch⟩
  have C2 := Lib.hid (C1.out.then hch)
  have D2 := Lib.hid (D1.out.then hch)
  have S2 := Lib.hid (hch)
  have B2 := Lib.hid (hb)
  clear hb hch
  go_wp2_with fail
  refine (REqual_any (setF l0) (setF l0) v1 v2 w2 (B1.out.pure S2.out).rd B2.out.rd).mono ?_
  rintro e w3 ⟨rfl, hch⟩
  have C3 := Lib.hid (C2.out.then hch)
  have D3 := Lib.hid (D2.out.then hch)
  have S3 := Lib.hid (S2.out.then hch)
  clear hch
  rw [decide_eq_true rfl]
  go_wp2_with fail
  refine (REqual_any l0 l0 va _ w3 (BA.out.pure D3.out).rd (Rd0.out.frame C3.out)).mono ?_
  rintro e w4 ⟨rfl, hch⟩
  have C4 := Lib.hid (C3.out.then hch)
  have D4 := Lib.hid (D3.out.then hch)
  have S4 := Lib.hid (S3.out.then hch)
  clear hch
  rw [decide_eq_true rfl]
  have SL := Lib.hid (setF_len l0)
  go_wp2_with fail
  refine (FSet_any (setF l0) v1 w4 (B1.out.pure S4.out).rd (by have := SL.out; omega)).mono ?_
  rintro e w5 ⟨v5, rfl, hb, hch⟩
  have C5 := Lib.hid (C4.out.then hch)
  have D5 := Lib.hid (D4.out.then hch)
  have S5 := Lib.hid (S4.out.then hch)
  have B5 := Lib.hid (hb)
  clear hb hch
  rw [setF_set] at B5
  go_wp2_with fail
  refine (REqual_any (setF l0) (setF l0) v5 v1 w5 B5.out.rd (B1.out.pure S5.out).rd).mono ?_
  rintro e w6 ⟨rfl, hch⟩
  have C6 := Lib.hid (C5.out.then hch)
  have D6 := Lib.hid (D5.out.then hch)
  have S6 := Lib.hid (S5.out.then hch)
  clear hch
  rw [decide_eq_true rfl]
  go_wp2_with fail
  refine (FSame_any l0 l1 _ _ w6 (Rd0.out.frame C6.out) (Rd1.out.frame C6.out) k0 k1).mono ?_
  rintro e w7 ⟨rfl, hch⟩
  have C7 := Lib.hid (C6.out.then hch)
  have D7 := Lib.hid (D6.out.then hch)
  have S7 := Lib.hid (S6.out.then hch)
  clear hch
  go_wp2_with fail
  refine (RSame_any l0 l1 _ _ w7 (Rd0.out.frame C7.out) (Rd1.out.frame C7.out) k0 k1).mono ?_
  rintro e w8 ⟨rfl, hch⟩
  have C8 := Lib.hid (C7.out.then hch)
  have D8 := Lib.hid (D7.out.then hch)
  have S8 := Lib.hid (S7.out.then hch)
  clear hch
  generalize decide (setF l0 = setF l1) = bq
  have dq : (bq != bq) = false := by cases bq <;> rfl
  go_wp2_with fail
  refine (FSame_any l0 (setF l0) _ v1 w8 (Rd0.out.frame C8.out) (B1.out.pure S8.out).rd k0 (by have := SL.out; omega)).mono ?_
  rintro e w9 ⟨rfl, hch⟩
  have C9 := Lib.hid (C8.out.then hch)
  have D9 := Lib.hid (D8.out.then hch)
  have S9 := Lib.hid (S8.out.then hch)
  clear hch
  rw [setF_set, decide_eq_true rfl]
  go_wp2_with fail
  refine (FMeet_any l0 _ w9 (Rd0.out.frame C9.out) k0 Ok0.out).mono ?_
  rintro e w10 ⟨rfl, hch⟩
  have C10 := Lib.hid (C9.out.then hch)
  have D10 := Lib.hid (D9.out.then hch)
  have S10 := Lib.hid (S9.out.then hch)
  clear hch
  go_wp2_with fail
  refine (RMeet_any l0 _ w10 (Rd0.out.frame C10.out) Ok0.out).mono ?_
  rintro e w11 ⟨rfl, hch⟩
  have C11 := Lib.hid (C10.out.then hch)
  have D11 := Lib.hid (D10.out.then hch)
  have S11 := Lib.hid (S10.out.then hch)
  clear hch
  generalize meetF l0 = bm
  have dm : (bm != bm) = false := by cases bm <;> rfl
  have BS : Hid (FxBuf w11 wa.heap.size v1 (setF l0)) := Lib.hid (B1.out.pure S11.out)
  generalize setF l0 = S at *
  clear B1 B2 B5 C1 C2 C3 C4 C5 C6 C7 C8 C9 C10 D1 D2 D3 D4 D5 D6 D7 D8 D9 D10 S2 S3 S4 S5 S6 S7 S8 S9 S10 S11 C11
  have hSl := SL.out
  obtain ⟨aS, nS, cS, rfl, rfl, hcS1, hcS2, _⟩ := BS.out.rd
  unfold maxLen at hcS2
  go_wp2_with fail
  go_loopw [7] (fun s7 wr => ∃ (k : Nat) (S' : List Fx), k ≤ S.length ∧ s7 = .int .i64 (k : Int) ∧ S'.length = S.length ∧ FxBuf wr wa.heap.size (.slice aS S.length cS) S' ∧ Chg [] wa wr) (fun s7 _ => S.length - (intOf s7).toNat)
  case atStart => exact ⟨0, S, Nat.zero_le _, rfl, rfl, BS.out, D11.out⟩
  case round =>
    obtain ⟨k, S', hk, rfl, hl, hb, hch⟩ := hrel
    have Hb := Lib.hid hb
    have Hch := Lib.hid hch
    clear hb hch
    by_cases hlt : k < S.length
    · obtain ⟨g, cap, he, hbg, _, _, hob, hfz, hcell⟩ := Hb.out.at (by omega)
      rw [hl] at he
      cases he
      have x0 : wr.cell? ⟨g, k * 7, none⟩ = some (.int .u64 (S'.getD k .zero).at_) := hcell k (by omega) 0 (by decide)
      have z0 := hfz (k * 7)
      clear hob hfz hcell
      have Hbg := Lib.hid hbg
      clear hbg
      go_wp2_with fail
      go_roundw
      case rel =>
        refine ⟨k + 1, _, hlt, by go_num, ?_, Hb.out.set1 rfl k (by omega) _, Hch.out.trans ((Chg.refl [g] wr).setCell _ _ (.inl (by simp))) (fun b hb hw => by have := Hbg.out; rw [List.mem_singleton] at hb; omega)⟩
        rw [List.length_set, hl]
      case measure => simp [intOf]; omega
    · obtain rfl : k = S.length := by omega
      have CR := Lib.hid (CA.out.then Hch.out)
      go_wp2_with fail
      refine (REqual_any l0 l0 va _ wr (BA.out.rd.frame Hch.out) (Rd0.out.frame CR.out)).mono ?_
      rintro e w12 ⟨rfl, hch⟩
      have C12 := Lib.hid (CR.out.then hch)
      clear hch
      rw [decide_eq_true rfl]
      go_wp2_with fail
      refine (known12 _ (Ht.out.frame C12.out)).mono ?_
      rintro e w13 ⟨rfl, hch⟩
      have C13 := Lib.hid (C12.out.then hch)
      clear hch
      go_wp2
      go_ret
      exact ⟨rfl, C13.out⟩
end Go.Proofs.YtmfphdaoenkmnaaDoor
