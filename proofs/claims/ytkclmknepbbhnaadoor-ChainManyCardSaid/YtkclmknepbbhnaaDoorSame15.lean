/- clevisref15.Same, of chains without starts whose imports are the same; a head whose number of imports is another one. -/
import Derived.Test.YtkclmknepbbhnaaDoorHeadB
namespace Go.Proofs.YtkclmknepbbhnaaDoor
open Go.RowKit
set_option maxRecDepth 100000

set_option maxHeartbeats 2000000 in
theorem rsame_any (l : List Imp) (c d : Chn) (hc : c.starts.n = 0) (hd : d.starts.n = 0) (w : World) (r1 : impL.Rd w c.imps.v l) (r2 : impL.Rd w d.imps.v l) :
    Calls Tryd.prog 10 #[chnL.val c, chnL.val d] w fun e w' => e = .returned (.bool true) ∧ Chg [] w w' := by
  obtain ⟨a1, c1, h1, _, _⟩ := r1.shape
  obtain ⟨a2, c2, h2, _, _⟩ := r2.shape
  replace h1 : Value.slice c.imps.a c.imps.n c.imps.cap = .slice a1 l.length c1 := h1
  replace h2 : Value.slice d.imps.a d.imps.n d.imps.cap = .slice a2 l.length c2 := h2
  have e1 : c.imps.v = .slice a1 l.length c1 := h1
  have e2 : d.imps.v = .slice a2 l.length c2 := h2
  rw [e1] at r1
  rw [e2] at r2
  clear e1 e2
  have R1 := Lib.hid r1
  have R2 := Lib.hid r2
  clear r1 r2
  go_enter Tryd.func10, Tryd.ntmps10
  go_wp2_with ((with_reducible refine Lay.bxL (L := chnL) 38 c ?_ ?_); exact rfl; intro W1 bc ebc cbc xbc; replace ebc := Lib.hid ebc; replace cbc := Lib.hid cbc; replace xbc := Lib.hid xbc; refine Hid.out ?_)
  refine Lib.hid ?_
  go_wp2_with ((with_reducible refine Lay.bxL (L := chnL) 38 d ?_ ?_); exact rfl; intro W2 bd ebd cbd xbd; replace ebd := Lib.hid ebd; replace cbd := Lib.hid cbd; replace xbd := Lib.hid xbd; refine Hid.out ?_)
  refine Lib.hid ?_
  have XC := Lib.hid (xbc.out.frame cbd.out)
  have C2 := Lib.hid (cbc.out.then cbd.out)
  have y0 := Chn.c_starts XC.out
  have y1 := Chn.c_imps XC.out
  have z0 := Chn.c_starts xbd.out
  have z1 := Chn.c_imps xbd.out
  rw [hc] at y0
  rw [hd] at z0
  rw [h1] at y1
  rw [h2] at z1
  go_wp2_with fail
  go_loopw [5] (fun s5 wr => s5 = .int .i64 0 ∧ wr = W2) (fun _ _ => 0)
  case atStart => exact ⟨rfl, rfl⟩
  case round =>
    obtain ⟨rfl, rfl⟩ := hrel
    obtain ⟨W2, rfl⟩ : ∃ x, x = wr := ⟨_, rfl⟩
    go_wp2_with fail
    go_loopw [9] (fun s9 wr => ∃ k : Nat, k ≤ l.length ∧ s9 = .int .i64 (k : Int) ∧ Chg [] W2 wr) (fun s9 _ => l.length - (intOf s9).toNat)
    case atStart => exact ⟨0, Nat.zero_le _, rfl, Chg.refl _ _⟩
    case round =>
      obtain ⟨k, hk, rfl, hch⟩ := hrel
      have y1 := hch.cell y1 (by simp)
      have z1 := hch.cell z1 (by simp)
      by_cases hlt : k < l.length
      · obtain ⟨b1, o1, rfl, _, g1⟩ := ((R1.out.frame C2.out).frame hch).at (by omega)
        obtain ⟨b2, o2, rfl, _, g2⟩ := ((R2.out.frame C2.out).frame hch).at (by omega)
        have g1 : impL.In wr b1 (o1 + k * 4) (l.getD k .zero) := g1 k hlt
        have g2 : impL.In wr b2 (o2 + k * 4) (l.getD k .zero) := g2 k hlt
        obtain ⟨i0, i1, i2, i3⟩ := Imp.at g1
        obtain ⟨j0, j1, j2, j3⟩ := Imp.at g2
        generalize l.getD k .zero = x at *
        have hq := Imp.neq x x
        have hq2 : (!decide (x = x)) = false := by simp
        clear g1 g2
        have Hch := Lib.hid hch
        clear hch
        go_wp2_with fail
        go_quiet (fail)
        go_wp2
        go_roundw
        case rel => exact ⟨k + 1, hlt, by go_num, Hch.out.drewN _⟩
        case measure => simp [intOf]; omega
      · obtain rfl : k = l.length := by omega
        have Hch := Lib.hid hch
        clear hch
        go_wp2
        go_ret
        exact ⟨rfl, C2.out.then Hch.out⟩
theorem leB_set (N : Nat) (h : N < 65536) : ((leB N 4).set 0 1).set 1 16 = leB 4097 4 := by
  have e : leB N 4 = [UInt8.ofNat (N / 2 ^ 0), UInt8.ofNat (N / 2 ^ 8), UInt8.ofNat (N / 2 ^ 16), UInt8.ofNat (N / 2 ^ 24)] := rfl
  rw [e, Nat.div_eq_of_lt (show N < 2 ^ 16 by omega), Nat.div_eq_of_lt (show N < 2 ^ 24 by omega)]
  rfl
theorem set_mid (a b r : List UInt8) (i : Nat) (h : i < b.length) (v : UInt8) : (a ++ (b ++ r)).set (a.length + i) v = a ++ (b.set i v ++ r) := by
  rw [List.set_append_right _ _ (by omega), Nat.add_sub_cancel_left, List.set_append_left _ _ h]
theorem mk_set (fm : Int) (l : List Imp) (h : l.length < 65536) : ((mkB fm l).set 16 1).set 17 16 = hdB [0, 28, 48, 48 + (nmAll fm l).out.length, 4097, fm.toNat, 0] ++ (padB ++ ((nmAll fm l).out ++ (nmAll fm l).ns)) := by
  have e : ∀ (N : Nat), hdB [0, 28, 48, 48 + (nmAll fm l).out.length, N, fm.toNat, 0] ++ (padB ++ ((nmAll fm l).out ++ (nmAll fm l).ns)) = (leB 0 4 ++ (leB 28 4 ++ (leB 48 4 ++ leB (48 + (nmAll fm l).out.length) 4))) ++ (leB N 4 ++ (leB fm.toNat 4 ++ (leB 0 4 ++ (padB ++ ((nmAll fm l).out ++ (nmAll fm l).ns))))) := fun N => by simp [hdB]
  have hlen : (leB 0 4 ++ (leB 28 4 ++ (leB 48 4 ++ leB (48 + (nmAll fm l).out.length) 4))).length = 16 := by simp [leB_len]
  rw [mkB_eq]
  unfold hdW
  rw [e, e]
  generalize (leB fm.toNat 4 ++ (leB 0 4 ++ (padB ++ ((nmAll fm l).out ++ (nmAll fm l).ns)))) = r
  generalize (leB 0 4 ++ (leB 28 4 ++ (leB 48 4 ++ leB (48 + (nmAll fm l).out.length) 4))) = a at *
  have h0 := set_mid a (leB l.length 4) r 0 (by rw [leB_len]; decide) 1
  have h1 := set_mid a ((leB l.length 4).set 0 1) r 1 (by rw [List.length_set, leB_len]; decide) 16
  rw [hlen] at h0 h1
  rw [h0, h1, leB_set _ h]
/-- What is read of a head that says more imports than there may be. -/
theorem many_words (l : List Imp) (fm : Int) (h0 : 0 ≤ fm) (hf : fm ≤ 3) (h : l.length < 65536) (ho : (nmAll fm l).out.length ≤ 1000000) (B : List UInt8) (hB : B = ((mkB fm l).set 16 1).set 17 16) : 28 ≤ B.length ∧ WN B 0 4 = 0 ∧ WN B 4 4 = 28 ∧ WN B 8 4 = 48 ∧ WN B 12 4 = 48 + (nmAll fm l).out.length ∧ WN B 16 4 = 4097 ∧ ((WN B 20 4 : Nat) : Int) = fm ∧ WN B 24 4 = 0 := by
  rw [mk_set fm l h] at hB
  have hw : ∀ k, k < 7 → WN B (4 * k) 4 = ([0, 28, 48, 48 + (nmAll fm l).out.length, 4097, fm.toNat, 0] : List Nat).getD k 0 % 4294967296 := by
    intro k hk
    rw [hB]
    exact WN_hd _ k _ hk
  refine ⟨?_, hw 0 (by decide), hw 1 (by decide), hw 2 (by decide), ?_, hw 4 (by decide), ?_, hw 6 (by decide)⟩
  · rw [hB, List.length_append, hdB_len]; simp
  · rw [show (12 : Nat) = 4 * 3 from rfl, hw 3 (by decide)]
    show (48 + (nmAll fm l).out.length) % 4294967296 = _
    rw [Nat.mod_eq_of_lt (by omega)]
  · rw [show (20 : Nat) = 4 * 5 from rfl, hw 5 (by decide)]
    show ((fm.toNat % 4294967296 : Nat) : Int) = fm
    rw [Nat.mod_eq_of_lt (by omega)]
    omega
end Go.Proofs.YtkclmknepbbhnaaDoor
