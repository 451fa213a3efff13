/- chain.below, short, long, wide: an import, read. -/
import Derived.Test.YtkclmknepbbhnaaDoorChnB
import Derived.Test.YtkclmknepbbhnaaDoorRecRaw
import Derived.Test.YtkclmknepbbhnaaDoorCurT
namespace Go.Proofs.YtkclmknepbbhnaaDoor
open Go.RowKit
set_option maxRecDepth 100000

/-- A cursor that was there keeps what it is where a newer block is written. -/
theorem CurB.frameB {w0 w w' : World} {b q : Nat} {s s0 : CS} (h : CurB w b s) (k : Chg [q] w w') (hq : w0.heap.size ≤ q) (h0 : CurB w0 b s0) : CurB w' b s := by
  have hb0 := h0.lt
  obtain ⟨a, n, cap, hb, h1, h2', h3, h4, h5, h6⟩ := h
  refine ⟨a, n, cap, k.heap hb (by simp; omega), h1, h2', h3, h4, h5, fun hn => ?_⟩
  obtain ⟨d, off, c, ha, hdb, hd, hc⟩ := h6 hn
  have hd2 : d ∉ [q] := by simp; omega
  exact ⟨d, off, c, ha, hdb, k.heap hd hd2, fun j hj => k.cell (hc j hj) hd2⟩
theorem takeL_le (s : CS) (n : Int) : (takeL s n).length ≤ n.toNat := by
  unfold takeL
  split
  · simp; omega
  · simp
theorem numberV4_lt (s : CS) : numberV s 4 < 4294967296 := by
  have h1 := takeL_le s 4
  have h2 := numOf_lt s.big (takeL s 4)
  have h3 : (256 : Nat) ^ (takeL s 4).length ≤ 256 ^ 4 := Nat.pow_le_pow_right (by decide) h1
  have e : numberV s 4 = numOf s.big (takeL s 4) := by unfold numberV; rw [if_pos (by decide)]
  rw [e]
  exact Nat.lt_of_lt_of_le h2 (Nat.le_trans h3 (by decide))
theorem numberV8_lt (s : CS) : numberV s 8 < 18446744073709551616 := by
  have h1 := takeL_le s 8
  have h2 := numOf_lt s.big (takeL s 8)
  have h3 : (256 : Nat) ^ (takeL s 8).length ≤ 256 ^ 8 := Nat.pow_le_pow_right (by decide) h1
  have e : numberV s 8 = numOf s.big (takeL s 8) := by unfold numberV; rw [if_pos (by decide)]
  rw [e]
  exact Nat.lt_of_lt_of_le h2 (Nat.le_trans h3 (by decide))
/-- A number of so many bits that may stand for one below 0. -/
def belowI (n top : Nat) : Int := if top - 16 < n then (n : Int) - top else n
theorem below8 (n : Nat) (hn : n < 256) (w : World) : Calls Tryd.prog 54 #[.int .u64 n, .int .i64 8] w fun e w' => e = .returned (.int .i64 (belowI n 256)) ∧ Chg [] w w' := by
  by_cases h : 256 - 16 < n
  · have d : decide ((240 : Int) < (n : Int)) = true := by simp; omega
    go_enter Tryd.func54, Tryd.ntmps54
    go_wp2
    go_ret
    exact ⟨by unfold belowI; rw [if_pos h]; rfl, Chg.refl _ _⟩
  · have d : decide ((240 : Int) < (n : Int)) = false := by simp; omega
    go_enter Tryd.func54, Tryd.ntmps54
    go_wp2
    go_ret
    exact ⟨by unfold belowI; rw [if_neg h]; rfl, Chg.refl _ _⟩
theorem below16 (n : Nat) (hn : n < 65536) (w : World) : Calls Tryd.prog 54 #[.int .u64 n, .int .i64 16] w fun e w' => e = .returned (.int .i64 (belowI n 65536)) ∧ Chg [] w w' := by
  by_cases h : 65536 - 16 < n
  · have d : decide ((65520 : Int) < (n : Int)) = true := by simp; omega
    go_enter Tryd.func54, Tryd.ntmps54
    go_wp2
    go_ret
    exact ⟨by unfold belowI; rw [if_pos h]; rfl, Chg.refl _ _⟩
  · have d : decide ((65520 : Int) < (n : Int)) = false := by simp; omega
    go_enter Tryd.func54, Tryd.ntmps54
    go_wp2
    go_ret
    exact ⟨by unfold belowI; rw [if_neg h]; rfl, Chg.refl _ _⟩
theorem Tryd.tRaw : Lay.Ty rawL Tryd.prog 80 := Lay.Ty.mk' (by kernel_rfl) (by kernel_rfl)
/-- What an import of the format 1 says, by its word. -/
def shortR (n : Nat) : Raw := ⟨belowI (n % 256) 256, n / 256 % 2 == 1, ⟨#[]⟩, 0, (n / 512 : Nat)⟩
def longR (n m : Nat) : Raw := ⟨belowI (n % 256) 256, n / 256 % 2 == 1, ⟨#[]⟩, wrap32 (m : Int), (n / 512 : Nat)⟩
def wideR (n m : Nat) : Raw := ⟨belowI (n % 65536) 65536, n / 65536 % 2 == 1, ⟨#[]⟩, wrap64 (m : Int), (n / 4294967296 : Nat)⟩
set_option maxHeartbeats 1000000 in
theorem short_any (b : Nat) (s : CS) (w : World) (h : CurB w b s) :
    Calls Tryd.prog 32 #[.pointer (some ⟨b, 0, none⟩)] w fun e w' => e = .returned (rawL.val (shortR (numberV s 4))) ∧ CurB w' b (numberS s 4) ∧ Chg [b] w w' := by
  have hlt := h.lt
  have H := Lib.hid h
  clear h
  have hN : numberV s 4 < 4294967296 := numberV4_lt s
  have HNB : Hid (∀ w, CurB w b s → Calls Tryd.prog 25 #[.pointer (some ⟨b, 0, none⟩), .int .i64 4] w fun e w' => e = .returned (.int .u64 (numberV s 4)) ∧ CurB w' b (numberS s 4) ∧ Chg [b] w w') := Lib.hid (fun w h => Number_cur b s 4 w h)
  unfold shortR
  generalize numberV s 4 = N at *
  have HB8 := Lib.hid (fun w => below8 (N % 256) (Nat.mod_lt _ (by decide)) w)
  have q1 : bits .and .u64 (N : Int) 255 = ((N % 256 : Nat) : Int) := by
    have := u64_and_nat N 255 (by omega) (by decide)
    rw [show (255 : Nat) = 2 ^ 8 - 1 from rfl, Nat.and_two_pow_sub_one_eq_mod] at this
    exact this
  have q2 : (N : Int) / 256 = ((N / 256 : Nat) : Int) := by omega
  have q3 : bits .and .u64 ((N / 256 : Nat) : Int) 1 = ((N / 256 % 2 : Nat) : Int) := by
    have := u64_and_nat (N / 256) 1 (by omega) (by decide)
    rw [show (1 : Nat) = 2 ^ 1 - 1 from rfl, Nat.and_two_pow_sub_one_eq_mod] at this
    exact this
  have q3b : ((N / 256 : Nat) : Int) % 2 = ((N / 256 % 2 : Nat) : Int) := by omega
  have q1b : (N : Int) % 256 = ((N % 256 : Nat) : Int) := by omega
  have q4 : (N : Int) / 512 = ((N / 512 : Nat) : Int) := by omega
  have q5 : (((N / 256 % 2 : Nat) : Int) == 1) = (N / 256 % 2 == 1) := by rw [Bool.eq_iff_iff, beq_iff_eq, beq_iff_eq]; omega
  generalize belowI (N % 256) 256 = A at *
  generalize hB : (N / 256 % 2 == 1) = B at *
  generalize N / 512 = D at *
  generalize N % 256 = U at *
  generalize N / 256 = V at *
  generalize V % 2 = T at *
  have HN := Lib.hid hN
  have HB := Lib.hid hB
  clear hN hB
  go_enter Tryd.func32, Tryd.ntmps32
  go_wp2_with ((with_reducible refine Lay.alL Tryd.tRaw ?_); intro W1 br ebr cbr xbr; replace ebr := Lib.hid ebr; replace cbr := Lib.hid cbr; replace xbr := Lib.hid xbr; refine Hid.out ?_)
  refine Lib.hid ?_
  go_wp2_with fail
  refine (HNB.out _ (H.out.frame cbr.out)).mono ?_
  rintro e W2 ⟨rfl, hc, hg⟩
  have C2 := Lib.hid (hc)
  have X2 := Lib.hid (xbr.out.frameS hg (by rw [ebr.out]; intro hm; simp at hm; omega))
  have G2 : Hid (Chg [b] w W2) := Lib.hid (cbr.out.add.same hg)
  clear hc hg
  go_wp2_with fail
  refine (HB8.out _).mono ?_
  rintro e W3 ⟨rfl, hg⟩
  have C3 := Lib.hid (C2.out.frame hg)
  have X3 := Lib.hid (X2.out.frame hg)
  have G3 := Lib.hid (G2.out.then hg)
  clear hg
  go_wp2_with ((with_reducible refine Lay.stL Tryd.tRaw (⟨A, B, ⟨#[]⟩, 0, (D : Nat)⟩ : Raw) (X3.out) ?_ ?_ ?_); exact rfl; exact rfl; intro W4 cW4 xW4; replace cW4 := Lib.hid cW4; replace xW4 := Lib.hid xW4; refine Hid.out ?_)
  refine Lib.hid ?_
  have Z4 : Hid (br ≠ b) := Lib.hid (by rw [ebr.out]; omega)
  have C4 := Lib.hid (C3.out.frameB cW4.out (by rw [ebr.out]; exact Nat.le_refl _) H.out)
  have G4 : Hid (Chg [b] w W4) := Lib.hid (G3.out.new cW4.out (by rw [ebr.out]; exact Nat.le_refl _))
  go_wp2
  refine Lay.ret1 Tryd.tRaw Tryd.results32 xW4.out rfl rfl ?_
  exact ⟨rfl, C4.out, G4.out⟩
set_option maxHeartbeats 1000000 in
theorem long_any (b : Nat) (s : CS) (w : World) (h : CurB w b s) :
    Calls Tryd.prog 33 #[.pointer (some ⟨b, 0, none⟩)] w fun e w' => e = .returned (rawL.val (longR (numberV s 4) (numberV (numberS s 4) 4))) ∧ CurB w' b (numberS (numberS s 4) 4) ∧ Chg [b] w w' := by
  have hlt := h.lt
  have H := Lib.hid h
  clear h
  have HSH : Hid (∀ w, CurB w b s → Calls Tryd.prog 32 #[.pointer (some ⟨b, 0, none⟩)] w fun e w' => e = .returned (rawL.val (shortR (numberV s 4))) ∧ CurB w' b (numberS s 4) ∧ Chg [b] w w') := Lib.hid (fun w h => short_any b s w h)
  have hM : numberV (numberS s 4) 4 < 4294967296 := numberV4_lt _
  have HNB : Hid (∀ w, CurB w b (numberS s 4) → Calls Tryd.prog 25 #[.pointer (some ⟨b, 0, none⟩), .int .i64 4] w fun e w' => e = .returned (.int .u64 (numberV (numberS s 4) 4)) ∧ CurB w' b (numberS (numberS s 4) 4) ∧ Chg [b] w w') := Lib.hid (fun w h => Number_cur b _ 4 w h)
  have e0 : longR (numberV s 4) (numberV (numberS s 4) 4) = { shortR (numberV s 4) with add := wrap32 (numberV (numberS s 4) 4 : Nat) } := rfl
  rw [e0]
  clear e0
  generalize shortR (numberV s 4) = R at *
  generalize numberV (numberS s 4) 4 = M at *
  have q1 : wrap64 (wrap32 (M : Int)) = wrap32 (M : Int) := by unfold wrap64 wrap32; omega
  have HM := Lib.hid hM
  clear hM
  go_enter Tryd.func33, Tryd.ntmps33
  go_wp2_with ((with_reducible refine Lay.alL Tryd.tRaw ?_); intro W1 br ebr cbr xbr; replace ebr := Lib.hid ebr; replace cbr := Lib.hid cbr; replace xbr := Lib.hid xbr; refine Hid.out ?_)
  refine Lib.hid ?_
  go_wp2_with fail
  refine (HSH.out _ (H.out.frame cbr.out)).mono ?_
  rintro e W2 ⟨rfl, hc, hg⟩
  have C2 := Lib.hid (hc)
  have X2 := Lib.hid (xbr.out.frameS hg (by rw [ebr.out]; intro hm; simp at hm; omega))
  have G2 : Hid (Chg [b] w W2) := Lib.hid (cbr.out.add.same hg)
  clear hc hg
  go_wp2_with ((with_reducible refine Lay.alL Tryd.tRaw ?_); intro W3 bx ebx cbx xbx; replace ebx := Lib.hid ebx; replace cbx := Lib.hid cbx; replace xbx := Lib.hid xbx; refine Hid.out ?_)
  refine Lib.hid ?_
  go_wp2_with ((with_reducible refine Lay.stL Tryd.tRaw R (xbx.out) ?_ ?_ ?_); exact rfl; exact rfl; intro W4 cW4 xW4; replace cW4 := Lib.hid cW4; replace xW4 := Lib.hid xW4; refine Hid.out ?_)
  refine Lib.hid ?_
  have C4 := Lib.hid ((C2.out.frame cbx.out).frameB cW4.out (by rw [ebx.out]; exact G2.out.size) H.out)
  have G4 : Hid (Chg [b] w W4) := Lib.hid ((G2.out.then cbx.out).new cW4.out (by rw [ebx.out]; exact G2.out.size))
  have X4 := Lib.hid ((X2.out.frame cbx.out).frameS cW4.out (by have := X2.out.lt; rw [ebx.out]; intro hm; simp at hm; omega))
  have N1 : Hid (b ≠ bx ∧ br ≠ bx) := Lib.hid (by have := X2.out.lt; have := G2.out.size; rw [ebx.out]; constructor <;> omega)
  go_wp2_with fail
  refine (HNB.out _ C4.out).mono ?_
  rintro e W5 ⟨rfl, hc, hg⟩
  have C5 := Lib.hid (hc)
  have G5 := Lib.hid (G4.out.same hg)
  have X5 := Lib.hid (X4.out.frameS hg (by rw [ebr.out]; intro hm; simp at hm; omega))
  have Y5 := Lib.hid (xW4.out.frameS hg (by intro hm; have := N1.out.1; simp at hm; omega))
  clear hc hg
  have y3 := Raw.c_add Y5.out
  have z3 := Y5.out.frozen 3
  have hbx : w.heap.size ≤ bx := by rw [ebx.out]; exact G2.out.size
  go_upto_region 3 with fail
  refine Lay.with_world (fun W => rawL.Box W bx { R with add := wrap32 (M : Int) } ∧ rawL.Box W br rawL.d ∧ CurB W b (numberS (numberS s 4) 4) ∧ Chg [b] w W) ⟨?_, ?_, ?_, ?_⟩ (fun W hW => ?_)
  · exact Raw.set_add Y5.out _
  · exact X5.out.setCell _ _ N1.out.2
  · exact C5.out.frameB ((Chg.refl [bx] _).setCell _ _ (.inl (by simp))) hbx H.out
  · exact G5.out.setCell _ _ (.inr hbx)
  obtain ⟨h1, h2, h3, h4⟩ := hW
  clear y3 z3
  have H1 := Lib.hid h1
  have H2 := Lib.hid h2
  have H3 := Lib.hid h3
  have H4 := Lib.hid h4
  clear h1 h2 h3 h4
  go_wp2_with ((with_reducible refine Lay.ldL Tryd.tRaw ({ R with add := wrap32 (M : Int) } : Raw) (H1.out.in) ?_ ?_); exact rfl; refine Hid.out ?_)
  refine Lib.hid ?_
  go_wp2_with ((with_reducible refine Lay.stL Tryd.tRaw ({ R with add := wrap32 (M : Int) } : Raw) (H2.out) ?_ ?_ ?_); exact rfl; exact rfl; intro W9 cW9 xW9; replace cW9 := Lib.hid cW9; replace xW9 := Lib.hid xW9; refine Hid.out ?_)
  refine Lib.hid ?_
  go_wp2
  refine Lay.ret1 Tryd.tRaw Tryd.results33 xW9.out rfl rfl ?_
  have hbr : w.heap.size ≤ br := by rw [ebr.out]; exact Nat.le_refl _
  exact ⟨rfl, H3.out.frameB cW9.out hbr H.out, H4.out.new cW9.out hbr⟩
set_option maxHeartbeats 1000000 in
theorem wide_any (b : Nat) (s : CS) (w : World) (h : CurB w b s) :
    Calls Tryd.prog 34 #[.pointer (some ⟨b, 0, none⟩)] w fun e w' => e = .returned (rawL.val (wideR (numberV s 8) (numberV (numberS s 8) 8))) ∧ CurB w' b (numberS (numberS s 8) 8) ∧ Chg [b] w w' := by
  have hlt := h.lt
  have H := Lib.hid h
  clear h
  have hN : numberV s 8 < 18446744073709551616 := numberV8_lt s
  have hM : numberV (numberS s 8) 8 < 18446744073709551616 := numberV8_lt _
  have HNB : Hid (∀ w, CurB w b s → Calls Tryd.prog 25 #[.pointer (some ⟨b, 0, none⟩), .int .i64 8] w fun e w' => e = .returned (.int .u64 (numberV s 8)) ∧ CurB w' b (numberS s 8) ∧ Chg [b] w w') := Lib.hid (fun w h => Number_cur b s 8 w h)
  have HNC : Hid (∀ w, CurB w b (numberS s 8) → Calls Tryd.prog 25 #[.pointer (some ⟨b, 0, none⟩), .int .i64 8] w fun e w' => e = .returned (.int .u64 (numberV (numberS s 8) 8)) ∧ CurB w' b (numberS (numberS s 8) 8) ∧ Chg [b] w w') := Lib.hid (fun w h => Number_cur b _ 8 w h)
  unfold wideR
  generalize numberV s 8 = N at *
  generalize numberV (numberS s 8) 8 = M at *
  have HB8 := Lib.hid (fun w => below16 (N % 65536) (Nat.mod_lt _ (by decide)) w)
  have q1 : bits .and .u64 (N : Int) 65535 = ((N % 65536 : Nat) : Int) := by
    have := u64_and_nat N 65535 (by omega) (by decide)
    rw [show (65535 : Nat) = 2 ^ 16 - 1 from rfl, Nat.and_two_pow_sub_one_eq_mod] at this
    exact this
  have q2 : (N : Int) / 65536 = ((N / 65536 : Nat) : Int) := by omega
  have q3 : bits .and .u64 ((N / 65536 : Nat) : Int) 1 = ((N / 65536 % 2 : Nat) : Int) := by
    have := u64_and_nat (N / 65536) 1 (by omega) (by decide)
    rw [show (1 : Nat) = 2 ^ 1 - 1 from rfl, Nat.and_two_pow_sub_one_eq_mod] at this
    exact this
  have q3b : ((N / 65536 : Nat) : Int) % 2 = ((N / 65536 % 2 : Nat) : Int) := by omega
  have q1b : (N : Int) % 65536 = ((N % 65536 : Nat) : Int) := by omega
  have q4 : (N : Int) / 4294967296 = ((N / 4294967296 : Nat) : Int) := by omega
  have q5 : (((N / 65536 % 2 : Nat) : Int) == 1) = (N / 65536 % 2 == 1) := by rw [Bool.eq_iff_iff, beq_iff_eq, beq_iff_eq]; omega
  generalize belowI (N % 65536) 65536 = A at *
  generalize hB : (N / 65536 % 2 == 1) = B at *
  generalize N / 4294967296 = D at *
  generalize N % 65536 = U at *
  generalize N / 65536 = V at *
  generalize V % 2 = T at *
  have HN := Lib.hid hN
  have HB := Lib.hid hB
  have HM := Lib.hid hM
  clear hN hB hM
  go_enter Tryd.func34, Tryd.ntmps34
  go_wp2_with ((with_reducible refine Lay.alL Tryd.tRaw ?_); intro W1 br ebr cbr xbr; replace ebr := Lib.hid ebr; replace cbr := Lib.hid cbr; replace xbr := Lib.hid xbr; refine Hid.out ?_)
  refine Lib.hid ?_
  go_wp2_with fail
  refine (HNB.out _ (H.out.frame cbr.out)).mono ?_
  rintro e W2 ⟨rfl, hc, hg⟩
  have C2 := Lib.hid (hc)
  have X2 := Lib.hid (xbr.out.frameS hg (by rw [ebr.out]; intro hm; simp at hm; omega))
  have G2 : Hid (Chg [b] w W2) := Lib.hid (cbr.out.add.same hg)
  clear hc hg
  go_wp2_with fail
  refine (HB8.out _).mono ?_
  rintro e W3 ⟨rfl, hg⟩
  have C3 := Lib.hid (C2.out.frame hg)
  have X3 := Lib.hid (X2.out.frame hg)
  have G3 := Lib.hid (G2.out.then hg)
  clear hg
  go_wp2_with fail
  refine (HNC.out _ C3.out).mono ?_
  rintro e W5 ⟨rfl, hc, hg⟩
  have C5 := Lib.hid (hc)
  have X5 := Lib.hid (X3.out.frameS hg (by rw [ebr.out]; intro hm; simp at hm; omega))
  have G5 := Lib.hid (G3.out.same hg)
  clear hc hg
  go_wp2_with ((with_reducible refine Lay.stL Tryd.tRaw (⟨A, B, ⟨#[]⟩, wrap64 (M : Int), (D : Nat)⟩ : Raw) (X5.out) ?_ ?_ ?_); exact rfl; exact rfl; intro W4 cW4 xW4; replace cW4 := Lib.hid cW4; replace xW4 := Lib.hid xW4; refine Hid.out ?_)
  refine Lib.hid ?_
  have C4 := Lib.hid (C5.out.frameB cW4.out (by rw [ebr.out]; exact Nat.le_refl _) H.out)
  have G4 : Hid (Chg [b] w W4) := Lib.hid (G5.out.new cW4.out (by rw [ebr.out]; exact Nat.le_refl _))
  go_wp2
  refine Lay.ret1 Tryd.tRaw Tryd.results34 xW4.out rfl rfl ?_
  exact ⟨rfl, C4.out, G4.out⟩
end Go.Proofs.YtkclmknepbbhnaaDoor
