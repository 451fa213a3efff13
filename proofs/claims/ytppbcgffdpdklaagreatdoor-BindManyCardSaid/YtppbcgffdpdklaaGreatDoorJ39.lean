/- Lemmas, laid together: part 39 of 39. Conditions: none but each lemma's own. -/
import Derived.Test.YtppbcgffdpdklaaGreatDoorJ38
import Derived.Test.YtppbcgffdpdklaaGreatDoorJ5
/- BindMany. -/
namespace Go.Proofs.YtppbcgffdpdklaaGreatDoor
open Go.RowKit
set_option maxRecDepth 100000

def oneImg (sg : SlV) : Img := { Img.zero with kind := 2, segs := sg }
set_option maxHeartbeats 4000000 in
theorem BindMany_walk (W : World) (hg : Env W) (a : Int) (wa : (Lit.int .u64 a).wf = true) (b : Int) (wb : (Lit.int .u64 b).wf = true) :
    Calls Tryz.prog 3 #[.int .u64 a, .int .u64 b] W fun e W' => e = .returned (.bool true) ∧ Chg [] W W' := by
  obtain ⟨A, rfl, hA⟩ := nat_u64 a wa
  obtain ⟨B, rfl, hB⟩ := nat_u64 b wb
  clear wa wb
  have HK := Lib.hid (fun W hg => known14 W hg)
  have Hg := Lib.hid hg
  clear hg
  by_cases h1 : 1048576 < A
  · have d1 : decide ((1048576 : Int) < (A : Int)) = true := by simp; omega
    go_enter Tryz.func3, Tryz.ntmps3
    go_wp2_with ((with_reducible refine Lay.alL Tryz.tImg ?_); intro W1 br ebr cbr xbr; replace ebr := Lib.hid ebr; replace cbr := Lib.hid cbr; replace xbr := Lib.hid xbr; refine Hid.out ?_)
    refine Lib.hid ?_
    go_wp2_with ((with_reducible refine Lay.stL Tryz.tImg (oneImg ⟨some ⟨W.heap.size, 0, none⟩, 1, 1⟩) (xbr.out) ?_ ?_ ?_); exact rfl; exact rfl; intro W2 cW2 xW2; replace cW2 := Lib.hid cW2; replace xW2 := Lib.hid xW2; refine Hid.out ?_)
    refine Lib.hid ?_
    have R2 : Hid (segL.Rd W2 (.slice (some ⟨W.heap.size, 0, none⟩) 1 1) oneSegs) := by
      refine Lib.hid ?_
      refine ((Lay.Rd.of_heap (L := segL) (ls := oneSegs) (E := 26) (fz := (0, 0)) (heap_alloc_eq _ _) rfl rfl (show 1 ≤ maxLen by decide)).frame cbr.out).frameS cW2.out ?_
      intro k hk hm
      cases hk
      simp at hm
      have := ebr.out
      simp at this
      omega
    have C2 : Hid (Chg [] W W2) := Lib.hid (((Chg.refl _ _).alloc _).trans (cbr.out.new cW2.out (by rw [ebr.out]; exact Nat.le_refl _)) (fun _ hi _ => hi))
    have X2 := Lib.hid (xW2.out)
    clear ebr cbr xbr cW2 xW2
    go_wp2_with fail
    refine (HK.out _ (Hg.out.frame C2.out (by simp))).mono ?_
    rintro e W3 ⟨rfl, hc⟩
    have C3 := Lib.hid (C2.out.then hc)
    clear hc
    go_wp2
    go_ret
    exact ⟨rfl, C3.out⟩
  have d1 : decide ((1048576 : Int) < (A : Int)) = false := by simp; omega
  by_cases h2 : 1048576 < B
  · have d2 : decide ((1048576 : Int) < (B : Int)) = true := by simp; omega
    go_enter Tryz.func3, Tryz.ntmps3
    go_wp2_with ((with_reducible refine Lay.alL Tryz.tImg ?_); intro W1 br ebr cbr xbr; replace ebr := Lib.hid ebr; replace cbr := Lib.hid cbr; replace xbr := Lib.hid xbr; refine Hid.out ?_)
    refine Lib.hid ?_
    go_wp2_with ((with_reducible refine Lay.stL Tryz.tImg (oneImg ⟨some ⟨W.heap.size, 0, none⟩, 1, 1⟩) (xbr.out) ?_ ?_ ?_); exact rfl; exact rfl; intro W2 cW2 xW2; replace cW2 := Lib.hid cW2; replace xW2 := Lib.hid xW2; refine Hid.out ?_)
    refine Lib.hid ?_
    have R2 : Hid (segL.Rd W2 (.slice (some ⟨W.heap.size, 0, none⟩) 1 1) oneSegs) := by
      refine Lib.hid ?_
      refine ((Lay.Rd.of_heap (L := segL) (ls := oneSegs) (E := 26) (fz := (0, 0)) (heap_alloc_eq _ _) rfl rfl (show 1 ≤ maxLen by decide)).frame cbr.out).frameS cW2.out ?_
      intro k hk hm
      cases hk
      simp at hm
      have := ebr.out
      simp at this
      omega
    have C2 : Hid (Chg [] W W2) := Lib.hid (((Chg.refl _ _).alloc _).trans (cbr.out.new cW2.out (by rw [ebr.out]; exact Nat.le_refl _)) (fun _ hi _ => hi))
    have X2 := Lib.hid (xW2.out)
    clear ebr cbr xbr cW2 xW2
    go_wp2_with fail
    refine (HK.out _ (Hg.out.frame C2.out (by simp))).mono ?_
    rintro e W3 ⟨rfl, hc⟩
    have C3 := Lib.hid (C2.out.then hc)
    clear hc
    go_wp2
    go_ret
    exact ⟨rfl, C3.out⟩
  have d2 : decide ((1048576 : Int) < (B : Int)) = false := by simp; omega
  have hsum : IntKind.u64.wrap ((A : Int) + (B : Int)) = (A : Int) + (B : Int) := by rw [IntKind.wrap_u64]; omega
  obtain ⟨x1, e1⟩ : ∃ x : UInt8, x.toNat = A % 128 + 128 := ⟨UInt8.ofNat (A % 128 + 128), by rw [UInt8.toNat_ofNat', Nat.mod_eq_of_lt (by omega)]⟩
  obtain ⟨x2, e2⟩ : ∃ x : UInt8, x.toNat = A / 128 % 128 + 128 := ⟨UInt8.ofNat (A / 128 % 128 + 128), by rw [UInt8.toNat_ofNat', Nat.mod_eq_of_lt (by omega)]⟩
  obtain ⟨x3, e3⟩ : ∃ x : UInt8, x.toNat = A / 16384 := ⟨UInt8.ofNat (A / 16384), by rw [UInt8.toNat_ofNat', Nat.mod_eq_of_lt (by omega)]⟩
  obtain ⟨y1, g1⟩ : ∃ x : UInt8, x.toNat = B % 128 + 128 := ⟨UInt8.ofNat (B % 128 + 128), by rw [UInt8.toNat_ofNat', Nat.mod_eq_of_lt (by omega)]⟩
  obtain ⟨y2, g2⟩ : ∃ x : UInt8, x.toNat = B / 128 % 128 + 128 := ⟨UInt8.ofNat (B / 128 % 128 + 128), by rw [UInt8.toNat_ofNat', Nat.mod_eq_of_lt (by omega)]⟩
  obtain ⟨y3, g3⟩ : ∃ x : UInt8, x.toNat = B / 16384 := ⟨UInt8.ofNat (B / 16384), by rw [UInt8.toNat_ofNat', Nat.mod_eq_of_lt (by omega)]⟩
  have ha : x1.toNat % 128 + 128 * (x2.toNat % 128 + 128 * x3.toNat) = A := by rw [e1, e2, e3]; omega
  have hb : y1.toNat % 128 + 128 * (y2.toNat % 128 + 128 * y3.toNat) = B := by rw [g1, g2, g3]; omega
  have Q : Hid ([Value.int .u8 ((A : Int) % 128 + 128), .int .u8 ((A : Int) / 128 % 128 + 128), .int .u8 ((A : Int) / 16384), .int .u8 0, .int .u8 192, .int .u8 ((B : Int) % 128 + 128), .int .u8 ((B : Int) / 128 % 128 + 128), .int .u8 ((B : Int) / 16384), .int .u8 0] = byteL.vals [x1, x2, x3, 0, 192, y1, y2, y3, 0]) := by
    refine Lib.hid ?_
    have q1 : (A : Int) % 128 + 128 = ((x1.toNat : Nat) : Int) := by rw [e1]; omega
    have q2 : (A : Int) / 128 % 128 + 128 = ((x2.toNat : Nat) : Int) := by rw [e2]; omega
    have q3 : (A : Int) / 16384 = ((x3.toNat : Nat) : Int) := by rw [e3]; omega
    have q4 : (B : Int) % 128 + 128 = ((y1.toNat : Nat) : Int) := by rw [g1]; omega
    have q5 : (B : Int) / 128 % 128 + 128 = ((y2.toNat : Nat) : Int) := by rw [g2]; omega
    have q6 : (B : Int) / 16384 = ((y3.toNat : Nat) : Int) := by rw [g3]; omega
    rw [q1, q2, q3, q4, q5, q6]
    rfl
  have HDE : Hid (∀ (q : Int), ((20000 < A + B ∧ q = 11) ∨ (A + B ≤ 20000 ∧ q = 0)) → ∀ (w : World), Env w → ∀ (m : Img), BIn w m oneSegs → ∀ stv, Rd w stv (bytesV (cB x1 x2 x3 y1 y2 y3)) → Calls Tryz.prog 5 #[imgL.val m, .int .i64 1, stv] w fun e w' => ∃ so : SlV, e = .returned (.tuple #[so.v, .int .i64 q]) ∧ Chg [] w w' ∧ (q ≠ 0 → so = ⟨none, 0, 0⟩) ∧ (q = 0 → FB w' w.heap.size so.v (bndW fB2 0 (A + B)))) := by
    refine Lib.hid ?_
    intro q hq w hw m hd stv hst
    exact Decode_c x1 x2 x3 y1 y2 y3 (by rw [e1]; omega) (by rw [e2]; omega) (by rw [e3]; omega) (by rw [g1]; omega) (by rw [g2]; omega) (by rw [g3]; omega) A B ha hb w hw m hd stv hst q hq
  clear ha hb e1 e2 e3 g1 g2 g3
  by_cases h3 : 20000 < A + B
  · have d3 : decide ((20000 : Int) < (A : Int) + (B : Int)) = true := by simp; omega
    replace HDE := Lib.hid (HDE.out 11 (.inl ⟨h3, rfl⟩))
    go_enter Tryz.func3, Tryz.ntmps3
    go_wp2_with ((with_reducible refine Lay.alL Tryz.tImg ?_); intro W1 br ebr cbr xbr; replace ebr := Lib.hid ebr; replace cbr := Lib.hid cbr; replace xbr := Lib.hid xbr; refine Hid.out ?_)
    refine Lib.hid ?_
    go_wp2_with ((with_reducible refine Lay.stL Tryz.tImg (oneImg ⟨some ⟨W.heap.size, 0, none⟩, 1, 1⟩) (xbr.out) ?_ ?_ ?_); exact rfl; exact rfl; intro W2 cW2 xW2; replace cW2 := Lib.hid cW2; replace xW2 := Lib.hid xW2; refine Hid.out ?_)
    refine Lib.hid ?_
    have R2 : Hid (segL.Rd W2 (.slice (some ⟨W.heap.size, 0, none⟩) 1 1) oneSegs) := by
      refine Lib.hid ?_
      refine ((Lay.Rd.of_heap (L := segL) (ls := oneSegs) (E := 26) (fz := (0, 0)) (heap_alloc_eq _ _) rfl rfl (show 1 ≤ maxLen by decide)).frame cbr.out).frameS cW2.out ?_
      intro k hk hm
      cases hk
      simp at hm
      have := ebr.out
      simp at this
      omega
    have C2 : Hid (Chg [] W W2) := Lib.hid (((Chg.refl _ _).alloc _).trans (cbr.out.new cW2.out (by rw [ebr.out]; exact Nat.le_refl _)) (fun _ hi _ => hi))
    have X2 := Lib.hid (xW2.out)
    clear ebr cbr xbr cW2 xW2
    go_upto_region 5 with fail
    refine Lay.with_world (fun WA => BB WA W2.heap.size (.slice (some ⟨W2.heap.size, 0, none⟩) 7 7) [62, 64, 97, 0, 112, 0, 192] ∧ Chg [] W2 WA) ⟨Lay.Buf.of_heap (heap_alloc_eq _ _) rfl rfl (by decide) (Nat.le_refl _), (Chg.refl _ _).alloc _⟩ (fun WA hWA => ?_)
    obtain ⟨bs, ca⟩ := hWA
    have BS := Lib.hid bs
    have CA := Lib.hid ca
    clear bs ca
    go_wp2_with (at_builtin; refine Lay.app (L := byteL) Tryz.infoByte rfl _ _ rfl W2.heap.size (.slice (some ⟨W2.heap.size, 0, none⟩) 7 7) [62, 64, 97, 0, 112, 0, 192] rfl (BS.out.pure ((Chg.refl _ _).alloc _)) _ rfl [x1, x2, x3, 0, 192, y1, y2, y3, 0] (Lay.Rd.of_heap (heap_alloc_eq _ _) Q.out rfl (show 9 ≤ maxLen by decide)) (show (7 + 9) * 1 ≤ 140737488355328 by decide) (show 7 + 9 ≤ 9223372036854775807 by decide) (Nat.le_trans CA.out.size ((Chg.refl [] _).alloc _).size) ?_; intro v3 W3 hov hgv hlc; refine Hid.out ?_)
    refine Lib.hid ?_
    have A3 : Hid (Chg [] W2 W3) := Lib.hid ((CA.out.alloc _).trans (Lay.chg_grown hgv) (fun i hi hw => by simp [Value.ownBlock] at hi; omega))
    have C3 := Lib.hid (C2.out.then A3.out)
    have X3 := Lib.hid (X2.out.frame A3.out)
    have D3 : Hid (BIn W3 (oneImg ⟨some ⟨W.heap.size, 0, none⟩, 1, 1⟩) oneSegs) := by
      refine Lib.hid ?_
      refine ⟨oneSegsB, R2.out.frame A3.out, fun k hk => ?_⟩
      cases hk
      have h0 := R2.out.cells.2 0 _ rfl
      exact Nat.lt_of_lt_of_le (World.block_lt_of_cell? _ _ h0) A3.out.size
    have B3 := Lib.hid (Rd_of_byte hov.rd)
    clear hov hgv hlc BS CA R2 X2 A3
    go_wp2_with ((with_reducible refine Lay.ldL Tryz.tImg (oneImg ⟨some ⟨W.heap.size, 0, none⟩, 1, 1⟩) (X3.out.in) ?_ ?_); exact rfl; refine Hid.out ?_)
    refine Lib.hid ?_
    go_wp2_with fail
    refine (HDE.out W3 (Hg.out.frame C3.out (by simp)) _ D3.out _ B3.out).mono ?_
    rintro e W4 ⟨so, rfl, hc, hso, _⟩
    obtain rfl := hso (by decide)
    have C5 := Lib.hid (C3.out.then hc)
    clear hc hso
    unfold SlV.v
    go_wp2_with fail
    refine (HK.out _ (Hg.out.frame C5.out (by simp))).mono ?_
    rintro e W6 ⟨rfl, hc⟩
    have C6 := Lib.hid (C5.out.then hc)
    clear hc
    go_wp2
    go_ret
    exact ⟨rfl, C6.out⟩
  · have d3 : decide ((20000 : Int) < (A : Int) + (B : Int)) = false := by simp; omega
    replace HDE := Lib.hid (HDE.out 0 (.inr ⟨by omega, rfl⟩))
    obtain ⟨N, hN⟩ : ∃ N, N = A + B := ⟨_, rfl⟩
    have hNi : (A : Int) + (B : Int) = (N : Int) := by omega
    rw [← hN] at HDE
    have hN2 : N ≤ 20000 := by omega
    go_enter Tryz.func3, Tryz.ntmps3
    go_wp2_with ((with_reducible refine Lay.alL Tryz.tImg ?_); intro W1 br ebr cbr xbr; replace ebr := Lib.hid ebr; replace cbr := Lib.hid cbr; replace xbr := Lib.hid xbr; refine Hid.out ?_)
    refine Lib.hid ?_
    go_wp2_with ((with_reducible refine Lay.stL Tryz.tImg (oneImg ⟨some ⟨W.heap.size, 0, none⟩, 1, 1⟩) (xbr.out) ?_ ?_ ?_); exact rfl; exact rfl; intro W2 cW2 xW2; replace cW2 := Lib.hid cW2; replace xW2 := Lib.hid xW2; refine Hid.out ?_)
    refine Lib.hid ?_
    have R2 : Hid (segL.Rd W2 (.slice (some ⟨W.heap.size, 0, none⟩) 1 1) oneSegs) := by
      refine Lib.hid ?_
      refine ((Lay.Rd.of_heap (L := segL) (ls := oneSegs) (E := 26) (fz := (0, 0)) (heap_alloc_eq _ _) rfl rfl (show 1 ≤ maxLen by decide)).frame cbr.out).frameS cW2.out ?_
      intro k hk hm
      cases hk
      simp at hm
      have := ebr.out
      simp at this
      omega
    have C2 : Hid (Chg [] W W2) := Lib.hid (((Chg.refl _ _).alloc _).trans (cbr.out.new cW2.out (by rw [ebr.out]; exact Nat.le_refl _)) (fun _ hi _ => hi))
    have X2 := Lib.hid (xW2.out)
    clear ebr cbr xbr cW2 xW2
    go_upto_region 5 with fail
    refine Lay.with_world (fun WA => BB WA W2.heap.size (.slice (some ⟨W2.heap.size, 0, none⟩) 7 7) [62, 64, 97, 0, 112, 0, 192] ∧ Chg [] W2 WA) ⟨Lay.Buf.of_heap (heap_alloc_eq _ _) rfl rfl (by decide) (Nat.le_refl _), (Chg.refl _ _).alloc _⟩ (fun WA hWA => ?_)
    obtain ⟨bs, ca⟩ := hWA
    have BS := Lib.hid bs
    have CA := Lib.hid ca
    clear bs ca
    go_wp2_with (at_builtin; refine Lay.app (L := byteL) Tryz.infoByte rfl _ _ rfl W2.heap.size (.slice (some ⟨W2.heap.size, 0, none⟩) 7 7) [62, 64, 97, 0, 112, 0, 192] rfl (BS.out.pure ((Chg.refl _ _).alloc _)) _ rfl [x1, x2, x3, 0, 192, y1, y2, y3, 0] (Lay.Rd.of_heap (heap_alloc_eq _ _) Q.out rfl (show 9 ≤ maxLen by decide)) (show (7 + 9) * 1 ≤ 140737488355328 by decide) (show 7 + 9 ≤ 9223372036854775807 by decide) (Nat.le_trans CA.out.size ((Chg.refl [] _).alloc _).size) ?_; intro v3 W3 hov hgv hlc; refine Hid.out ?_)
    refine Lib.hid ?_
    have A3 : Hid (Chg [] W2 W3) := Lib.hid ((CA.out.alloc _).trans (Lay.chg_grown hgv) (fun i hi hw => by simp [Value.ownBlock] at hi; omega))
    have C3 := Lib.hid (C2.out.then A3.out)
    have X3 := Lib.hid (X2.out.frame A3.out)
    have D3 : Hid (BIn W3 (oneImg ⟨some ⟨W.heap.size, 0, none⟩, 1, 1⟩) oneSegs) := by
      refine Lib.hid ?_
      refine ⟨oneSegsB, R2.out.frame A3.out, fun k hk => ?_⟩
      cases hk
      have h0 := R2.out.cells.2 0 _ rfl
      exact Nat.lt_of_lt_of_le (World.block_lt_of_cell? _ _ h0) A3.out.size
    have B3 := Lib.hid (Rd_of_byte hov.rd)
    clear hov hgv hlc BS CA R2 X2 A3
    go_wp2_with ((with_reducible refine Lay.ldL Tryz.tImg (oneImg ⟨some ⟨W.heap.size, 0, none⟩, 1, 1⟩) (X3.out.in) ?_ ?_); exact rfl; refine Hid.out ?_)
    refine Lib.hid ?_
    go_wp2_with fail
    refine (HDE.out W3 (Hg.out.frame C3.out (by simp)) _ D3.out _ B3.out).mono ?_
    rintro e W4 ⟨so, rfl, hc, _, hfb⟩
    have hb4 := hfb (by first | rfl | trivial)
    have C5 := Lib.hid (C3.out.then hc)
    obtain ⟨aa, c, he0, _⟩ := hb4.rd.shape
    obtain rfl := slv_eqB he0
    rw [bndW_len] at hb4 ⊢
    have hb4 : FB W4 W3.heap.size (.slice aa N c) (bndW fB2 0 N) := hb4
    have B4 := Lib.hid hb4
    clear hb4
    clear hc hfb he0
    unfold SlV.v
    have hwN : IntKind.u64.wrap (N : Int) = (N : Int) := by rw [IntKind.wrap_u64]; omega
    have HN := Lib.hid hN
    clear hN
    go_wp2_with fail
    go_loopw [9] (fun s9 wr => ∃ k : Nat, k ≤ N ∧ s9 = .int .i64 (k : Int) ∧ Chg [] W4 wr) (fun s9 _ => N - (intOf s9).toNat)
    case atStart => exact ⟨0, Nat.zero_le _, rfl, Chg.refl _ _⟩
    case round =>
      obtain ⟨k, hk, rfl, hc⟩ := hrel
      have CW := Lib.hid hc
      clear hc
      by_cases hlt : k < N
      · obtain ⟨g, cap', he0, _, _, _, _, _, _, hIn⟩ := B4.out.at (by rw [bndW_len]; omega)
        rw [bndW_len] at he0 hIn
        cases he0
        obtain ⟨x, hx⟩ : ∃ x : Fx, x = { fB2 with at_ := 8 * (k : Int) } := ⟨_, rfl⟩
        have hget : (bndW fB2 0 N).getD k fxl.d = x := by
          rw [hx, List.getD_eq_getElem?_getD]
          unfold bndW
          rw [List.getElem?_map, List.getElem?_range hlt]
          show ({ fB2 with at_ := ((0 + 8 * k : Nat) : Int) } : Fx) = { fB2 with at_ := 8 * (k : Int) }
          rw [show ((0 + 8 * k : Nat) : Int) = 8 * (k : Int) by omega]
        have hI := (hIn k hlt).frame CW.out
        rw [hget] at hI
        have hneq : ∀ W, (binOp .neq 43 (.agg (fxl.f x).toArray) (.agg #[.int .u64 (8 * (k : Int)), .int .i64 2, .int .u64 0, .int .i64 (-2), .string ⟨#[97]⟩, .int .i64 0, .bool false])).run Tryz.prog W = .ok (.bool false) W := fun W => by
          have := fx_neq x x W
          rw [decide_eq_true rfl] at this
          rw [hx] at this ⊢
          exact this
        have hw1 : IntKind.i64.wrap (8 * (k : Int)) = 8 * (k : Int) := by rw [IntKind.wrap_i64]; omega
        have hw2 : IntKind.u64.wrap (8 * (k : Int)) = 8 * (k : Int) := by rw [IntKind.wrap_u64]; omega
        have HI := Lib.hid hI
        have Hx := Lib.hid hx
        have Hget := Lib.hid hget
        clear hI hx hget
        clear hIn
        go_wp2_with ((with_reducible refine Lay.ldL Tryz.tFx x (HI.out) ?_ ?_); exact rfl; refine Hid.out ?_)
        refine Lib.hid ?_
        go_wp2
        go_roundw
        case rel => exact ⟨k + 1, hlt, by go_num, CW.out⟩
        case measure => simp [intOf]; omega
      · obtain rfl : k = N := by omega
        go_wp2_with fail
        refine (HK.out _ (Hg.out.frame (C5.out.then CW.out) (by simp))).mono ?_
        rintro e W6 ⟨rfl, hc⟩
        have C6 := Lib.hid ((C5.out.then CW.out).then hc)
        clear hc
        go_wp2
        go_ret
        exact ⟨rfl, C6.out⟩
end Go.Proofs.YtppbcgffdpdklaaGreatDoor
