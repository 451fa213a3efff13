/- LebReads, walked. -/
import Derived.Test.YtpodphfdoonidaaDoorSl
import Derived.Test.YtpodphfdoonidaaDoorLebOrder
namespace Go.Proofs.YtpodphfdoonidaaDoor
open Go.RowKit
set_option maxRecDepth 100000

theorem LebReads_out (l : List UInt8) (a : Option Addr) (cap : Nat) (at_ : Int) (big : Bool) (w : World) (rd : Rd w (.slice a l.length cap) (bytesV l)) (hg : Env w)
    (hout : 3000 < l.length ∨ at_ < 0 ∨ (l.length : Int) < at_) :
    Calls Tryd.prog 3 #[.slice a l.length cap, .int .i64 at_, .bool big] w fun e w' => e = .returned (.bool true) ∧ Chg [] w w' := by
  have hmax := (Rd_len rd).2
  have HG := Lib.hid hg
  have hsp : 3000 < l.length ∨ (l.length ≤ 3000 ∧ at_ < 0) ∨ (l.length ≤ 3000 ∧ 0 ≤ at_ ∧ (l.length : Int) < at_) := by omega
  clear hg rd hout
  rcases hsp with h | ⟨h1, h2⟩ | ⟨h1, h2, h3⟩
  all_goals
    go_enter Tryd.func3, Tryd.ntmps3
    go_wp2_with fail
    refine (known_ok w HG.out).mono ?_
    rintro e w1 ⟨rfl, hc⟩
    have HC := Lib.hid hc
    clear hc
    go_wp2
    go_ret
    exact ⟨rfl, HC.out⟩
theorem seek_fresh (l : List UInt8) (big : Bool) (k : Nat) (h : k ≤ l.length) : seekS ⟨l, 0, big, false⟩ (k : Int) = ⟨l, k, big, false⟩ := by
  simp [seekS, h]
theorem LebReads_in (l : List UInt8) (a : Option Addr) (cap : Nat) (k : Nat) (big : Bool) (w : World) (rd : Rd w (.slice a l.length cap) (bytesV l)) (hg : Env w)
    (hl : l.length ≤ 3000) (hk : k ≤ l.length) :
    Calls Tryd.prog 3 #[.slice a l.length cap, .int .i64 k, .bool big] w fun e w' => e = .returned (.bool true) ∧ Chg [] w w' := by
  have HG := Lib.hid hg
  have HR := Lib.hid rd
  obtain ⟨a2, hsl, hrd2, _, _⟩ := slice_from a l.length cap k hk
  have HR2 : Hid (∀ W, Chg [] w W → Rd W (.slice a2 (l.drop k).length (cap - k)) (bytesV (l.drop k))) := by
    intro W hc
    have := hrd2 W _ (rd.frame hc (fun _ _ hm => by cases hm))
    rw [bytesV_drop] at this
    rw [List.length_drop]; exact this
  have hsl2 : ∀ W, (Instr.slice 22 (.slice a l.length cap) (some (.int .i64 k)) none none).run Tryd.prog W = .ok (.slice a2 (l.drop k).length (cap - k)) W := by
    intro W; rw [hsl W, List.length_drop]
  clear hg rd hrd2 hsl
  obtain ⟨r, hr⟩ : ∃ r, r = l.drop k := ⟨_, rfl⟩
  rw [← hr] at HR2 hsl2
  have HRK := Lib.hid hr
  have hrl : r.length ≤ 3000 := by rw [hr]; simp; omega
  clear hr
  obtain ⟨n, size, hns⟩ : ∃ n size, (uvalV r).getD (0, 0) = (n, size) := ⟨_, _, rfl⟩
  obtain ⟨m, long, hml⟩ : ∃ m long, (svalV r).getD (0, 0) = (m, long) := ⟨_, _, rfl⟩
  have HU := Lib.hid hns
  have HS := Lib.hid hml
  have hsz10 : size ≤ 10 := by
    have hb := szL_bd r 0
    unfold uvalV at hns
    split at hns
    · simp at hns; omega
    · split at hns
      · simp at hns; omega
      · simp at hns; omega
  have hlg10 : long ≤ 10 := by
    have hb := szL_bd r 0
    unfold svalV at hml
    split at hml
    · simp at hml; omega
    · split at hml
      · simp at hml; omega
      · simp at hml; omega
  clear hns hml
  go_enter Tryd.func3, Tryd.ntmps3
  go_wp2_with fail
  refine (New_cur _ l big w HR.out (by omega)).mono ?_
  rintro e w1 ⟨x, rfl, hx, hcx, hch⟩
  have H1 := Lib.hid ((Curs.start HG.out).new hch hcx hx)
  have HR1 := Lib.hid (HR.out.frame hch (fun _ _ hm => by cases hm))
  clear hcx hch hx
  go_wp2_with fail
  refine (New_cur _ l big w1 HR1.out (by omega)).mono ?_
  rintro e w2 ⟨y, rfl, hx, hcx, hch⟩
  have H2 := Lib.hid (H1.out.new hch hcx hx)
  clear hcx hch hx
  go_wp2_with fail
  refine (Seek_cur x _ _ w2 H2.out.swap.cur).mono ?_
  rintro e w3 ⟨rfl, hcx, hch⟩
  rw [seek_fresh l big k hk] at hcx
  have H3 := Lib.hid (H2.out.swap.call hcx hch)
  clear hcx hch
  go_wp2_with fail
  refine (Seek_cur y _ _ w3 H3.out.swap.cur).mono ?_
  rintro e w4 ⟨rfl, hcx, hch⟩
  rw [seek_fresh l big k hk] at hcx
  have H4 := Lib.hid (H3.out.swap.call hcx hch)
  clear hcx hch
  go_wp2_with fail
  refine (RefUleb_any r a2 _ w4 (HR2.out w4 H4.out.chg)).mono ?_
  rintro e w' ⟨rfl, rfl⟩
  rw [HU.out]
  go_wp2_with fail
  refine (RefSleb_any r a2 _ w4 (HR2.out w4 H4.out.chg)).mono ?_
  rintro e w' ⟨rfl, rfl⟩
  rw [HS.out]
  go_wp2_with fail
  refine (Uleb_cur x _ w4 H4.out.env H4.out.swap.cur).mono ?_
  rintro e w5 ⟨rfl, hcx, hch⟩
  have H5 := Lib.hid (H4.out.swap.call hcx hch)
  clear hcx hch
  rw [lebS_u, ← HRK.out, HU.out] at H5
  rw [lebV_u, ← HRK.out, HU.out]
  go_wp2_with fail
  refine (At_cur x _ w5 H5.out.cur).mono ?_
  rintro e w' ⟨rfl, rfl⟩
  go_wp2_with fail
  refine (Err_cur x _ w5 H5.out.env H5.out.cur).mono ?_
  rintro e w6 ⟨rfl, hch⟩
  have H6 := Lib.hid (H5.out.pure hch)
  clear hch
  obtain ⟨er, her⟩ : ∃ er : Int, er = if (size == 0) = true then 3 else 0 := ⟨_, rfl⟩
  have hE : (er == 0) = decide ((0 : Int) < (size : Int)) := by
    rw [her]
    rcases Nat.eq_zero_or_pos size with h | h
    · subst h; rfl
    · have : (size == 0) = false := by simp; omega
      rw [this]; simp; omega
  rw [← her]
  clear her
  go_wp2_with fail
  refine (Sleb_cur y _ w6 H6.out.env H6.out.swap.cur).mono ?_
  rintro e w7 ⟨rfl, hcx, hch⟩
  have H7 := Lib.hid (H6.out.swap.call hcx hch)
  clear hcx hch hE
  rw [lebS_s, ← HRK.out, HS.out] at H7
  rw [lebV_s, ← HRK.out, HS.out]
  go_wp2_with fail
  refine (At_cur y _ w7 H7.out.cur).mono ?_
  rintro e w' ⟨rfl, rfl⟩
  go_wp2_with fail
  refine (Err_cur y _ w7 H7.out.env H7.out.cur).mono ?_
  rintro e w8 ⟨rfl, hch⟩
  have H8 := Lib.hid (H7.out.pure hch).swap
  clear hch
  obtain ⟨er, her⟩ : ∃ er : Int, er = if (long == 0) = true then 3 else 0 := ⟨_, rfl⟩
  have hE : (er == 0) = decide ((0 : Int) < (long : Int)) := by
    rw [her]
    rcases Nat.eq_zero_or_pos long with h | h
    · subst h; rfl
    · have : (long == 0) = false := by simp; omega
      rw [this]; simp; omega
  rw [← her]
  clear her
  go_wp2_with fail
  refine (Fail_cur x _ w8 H8.out.cur).mono ?_
  rintro e w9 ⟨rfl, hcx, hch⟩
  have H9 := Lib.hid (H8.out.call hcx hch)
  clear hcx hch hE
  obtain ⟨sx, hsx⟩ : ∃ sx, sx = failS ⟨l, k + size, big, size == 0⟩ := ⟨_, rfl⟩
  have hfx : sx.failed = true := by rw [hsx]; rfl
  rw [← hsx] at H9
  have HFX := Lib.hid hfx
  clear hsx hfx
  go_wp2_with fail
  refine (At_cur x _ w9 H9.out.cur).mono ?_
  rintro e w' ⟨rfl, rfl⟩
  go_wp2_with fail
  refine (Uleb_cur x _ w9 H9.out.env H9.out.cur).mono ?_
  rintro e w10 ⟨rfl, hcx, hch⟩
  have H10 := Lib.hid (H9.out.call hcx hch)
  rw [lebS_failed _ _ HFX.out] at H10
  rw [lebV_failed _ _ HFX.out]
  clear hcx hch
  go_wp2_with fail
  refine (Sleb_cur x _ w10 H10.out.env H10.out.cur).mono ?_
  rintro e w11 ⟨rfl, hcx, hch⟩
  have H11 := Lib.hid (H10.out.call hcx hch)
  rw [lebS_failed _ _ HFX.out] at H11
  rw [lebV_failed _ _ HFX.out]
  clear hcx hch
  go_wp2_with fail
  refine (At_cur x _ w11 H11.out.cur).mono ?_
  rintro e w' ⟨rfl, rfl⟩
  go_wp2_with fail
  refine (Err_bad x _ w11 H11.out.env H11.out.cur HFX.out).mono ?_
  rintro e w12 ⟨rfl, hch⟩
  have H12 := Lib.hid (H11.out.pure hch)
  clear hch
  go_wp2_with fail
  refine (known_ok w12 H12.out.env).mono ?_
  rintro e w13 ⟨rfl, hc⟩
  have HC := Lib.hid (H12.out.chg.then hc)
  clear hc
  go_wp2
  go_ret
  exact ⟨rfl, HC.out⟩
theorem LebReads_walk (w : World) (hg : Env w) (l : List UInt8) (a : Option Addr) (cap : Nat) (rd : Rd w (.slice a l.length cap) (bytesV l)) (at_ : Int) (_ : (Lit.int .i64 at_).wf = true) (big : Bool) :
    Calls Tryd.prog 3 #[.slice a l.length cap, .int .i64 at_, .bool big] w fun e w' => e = .returned (.bool true) ∧ Chg [] w w' := by
  by_cases h : 3000 < l.length ∨ at_ < 0 ∨ (l.length : Int) < at_
  · exact LebReads_out l a cap at_ big w rd hg h
  · obtain ⟨k, rfl⟩ : ∃ k : Nat, at_ = k := ⟨at_.toNat, by omega⟩
    exact LebReads_in l a cap k big w rd hg (by omega) (by omega)
end Go.Proofs.YtpodphfdoonidaaDoor
