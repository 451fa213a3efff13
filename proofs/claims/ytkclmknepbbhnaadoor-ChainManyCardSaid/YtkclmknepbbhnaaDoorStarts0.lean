/- chain.starts, where no segment has one. -/
import Derived.Test.YtkclmknepbbhnaaDoorBack
namespace Go.Proofs.YtkclmknepbbhnaaDoor
open Go.RowKit
set_option maxRecDepth 100000

theorem u64_wrapN {n : Nat} (h : n < 18446744073709551616) : IntKind.u64.wrap (n : Int) = n := by rw [IntKind.wrap_u64]; omega
set_option maxHeartbeats 1000000 in
theorem starts0_any (B : List UInt8) (hB : B.length ≤ 2147483647) (m : Img) (n : Nat) (hn : m.segs.n = n) (q at_ : Nat) (h1 : at_ + 4 + 4 * n ≤ B.length) (h2 : WN B at_ 4 = n) (h3 : ∀ i, i < n → WN B (at_ + 4 + 4 * i) 4 = 0) (b : Nat) (w : World) (h : CurB w b (cs B q)) :
    Calls Tryd.prog 26 #[.pointer (some ⟨b, 0, none⟩), imgL.val m, .int .u64 at_] w fun e w' => e = .returned (.slice none 0 0) ∧ (∃ p, CurB w' b (cs B p)) ∧ Chg [b] w w' := by
  have hlt := h.lt
  have HSK : Hid (∀ p q : Nat, q ≤ B.length → seekC (cs B p) q = cs B q) := Lib.hid (fun p q h => sekC h (Nat.le_trans h hB))
  have HNV : Hid (∀ w (p : Nat), p + 4 ≤ B.length → CurB w b (cs B p) → Calls Tryd.prog 25 #[.pointer (some ⟨b, 0, none⟩), .int .i64 4] w fun e w' => e = .returned (.int .u64 (WN B p 4)) ∧ CurB w' b (cs B (p + 4)) ∧ Chg [b] w w') := by
    refine Lib.hid ?_
    intro w p hp hc
    have := Number_cur b (cs B p) 4 w hc
    rw [show ((4 : Int)) = ((4 : Nat) : Int) from rfl, numV (by decide) hp, numS (by decide) hp] at this
    exact this
  have HSE : Hid (∀ w (p q : Nat), q ≤ B.length → CurB w b (cs B p) → Calls Tryd.prog 27 #[.pointer (some ⟨b, 0, none⟩), .int .u64 q] w fun e w' => e = .returned (.tuple #[]) ∧ CurB w' b (cs B q) ∧ Chg [b] w w') := by
    refine Lib.hid ?_
    intro w p q hq hc
    have := seek_any b (cs B p) q w hc
    rw [HSK.out p q hq] at this
    exact this
  have H := Lib.hid h
  have H2 := Lib.hid h2
  have H3 := Lib.hid h3
  clear h h2 h3
  have hle : n ≤ B.length := by omega
  generalize hL : B.length = L at *
  have HL := Lib.hid hL
  clear hL
  go_enter Tryd.func26, Tryd.ntmps26
  go_wp2_with ((with_reducible refine Lay.bxL (L := imgL) 33 m ?_ ?_); exact rfl; intro W1 bm ebm cbm xbm; replace ebm := Lib.hid ebm; replace cbm := Lib.hid cbm; replace xbm := Lib.hid xbm; refine Hid.out ?_)
  refine Lib.hid ?_
  go_wp2_with fail
  refine (HSE.out _ q at_ (by omega) (H.out.frame cbm.out)).mono ?_
  rintro e W2 ⟨rfl, hc, hg⟩
  have C2 := Lib.hid (hc)
  have G2 : Hid (Chg [b] w W2) := Lib.hid (cbm.out.add.same hg)
  have N2 : Hid (b ≠ bm) := Lib.hid (by rw [ebm.out]; omega)
  have X2 := Lib.hid (xbm.out.frameS hg (by intro hm; have := N2.out; simp at hm; omega))
  clear hc hg
  go_wp2_with fail
  refine (HNV.out _ at_ (by omega) C2.out).mono ?_
  rintro e W3 ⟨rfl, hc, hg⟩
  rw [H2.out]
  have C3 := Lib.hid (hc)
  have G3 := Lib.hid (G2.out.same hg)
  have X3 := Lib.hid (X2.out.frameS hg (by intro hm; have := N2.out; simp at hm; omega))
  clear hc hg
  go_wp2_with fail
  refine (well_ok b _ _ C3.out rfl).mono ?_
  rintro e W4 ⟨rfl, hg⟩
  have C4 := Lib.hid (C3.out.frame hg)
  have G4 := Lib.hid (G3.out.then hg)
  have X4 := Lib.hid (X3.out.frame hg)
  clear hg
  have y4 := Img.c_segs X4.out
  rw [hn] at y4
  go_wp2_with fail
  refine (need_ok 8 _).mono ?_
  rintro e W5 ⟨rfl, rfl⟩
  go_wp2_with fail
  go_loopw [6, 26] (fun s6 s26 wr => ∃ k p : Nat, k ≤ n ∧ s6 = .slice none 0 0 ∧ s26 = .int .i64 (k : Int) ∧ CurB wr b (cs B p) ∧ imgL.Box wr bm m ∧ Chg [b] w wr) (fun _ s26 _ => n - (intOf s26).toNat)
  case atStart => exact ⟨0, _, Nat.zero_le _, rfl, rfl, C4.out, X4.out, G4.out⟩
  case round =>
    obtain ⟨k, p, hk, rfl, rfl, hcu, hx, hg⟩ := hrel
    by_cases hlt2 : k < n
    · have z3 := H3.out k hlt2
      have e1 : (at_ : Int) + 4 + 4 * (k : Int) = ((at_ + 4 + 4 * k : Nat) : Int) := by omega
      obtain ⟨P, hP⟩ : ∃ P, P = at_ + 4 + 4 * k := ⟨_, rfl⟩
      rw [← hP] at z3 e1
      have hP2 : P + 4 ≤ L := by omega
      have CU := Lib.hid hcu
      have XX := Lib.hid hx
      have GG := Lib.hid hg
      have Z3 := Lib.hid z3
      have HP := Lib.hid hP
      clear hcu hx hg z3 hP
      have w1 : IntKind.u64.wrap ((at_ : Int) + 4 + 4 * (k : Int)) = (P : Int) := by rw [e1]; exact u64_wrapN (by omega)
      go_wp2_with fail
      refine (HSE.out _ p P (by omega) CU.out).mono ?_
      rintro e W6 ⟨rfl, hc, hg⟩
      have C6 := Lib.hid (hc)
      have G6 := Lib.hid (GG.out.same hg)
      have X6 := Lib.hid (XX.out.frameS hg (by intro hm; have := N2.out; simp at hm; omega))
      clear hc hg
      go_wp2_with fail
      refine (HNV.out _ P hP2 C6.out).mono ?_
      rintro e W7 ⟨rfl, hc, hg⟩
      rw [Z3.out]
      have C7 := Lib.hid (hc)
      have G7 := Lib.hid (G6.out.same hg)
      have X7 := Lib.hid (X6.out.frameS hg (by intro hm; have := N2.out; simp at hm; omega))
      clear hc hg
      go_wp2_with fail
      refine (well_ok b _ _ C7.out rfl).mono ?_
      rintro e W8 ⟨rfl, hg⟩
      have C8 := Lib.hid (C7.out.frame hg)
      have G8 := Lib.hid (G7.out.then hg)
      have X8 := Lib.hid (X7.out.frame hg)
      clear hg
      go_wp2
      go_roundw
      case rel => exact ⟨k + 1, P + 4, hlt2, rfl, by go_num, C8.out, X8.out, G8.out⟩
      case measure => simp [intOf]; omega
    · obtain rfl : k = n := by omega
      have CU := Lib.hid hcu
      have XX := Lib.hid hx
      have GG := Lib.hid hg
      clear hcu hx hg
      go_wp2
      go_ret
      exact ⟨rfl, ⟨p, CU.out⟩, GG.out⟩
end Go.Proofs.YtkclmknepbbhnaaDoor
