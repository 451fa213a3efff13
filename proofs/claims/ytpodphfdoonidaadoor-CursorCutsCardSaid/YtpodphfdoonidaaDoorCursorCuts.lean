/- CursorCuts, walked. -/
import Derived.Test.YtpodphfdoonidaaDoorKnown1
import Derived.Test.YtpodphfdoonidaaDoorBytes
import Derived.Test.YtpodphfdoonidaaDoorInt
namespace Go.Proofs.YtpodphfdoonidaaDoor
open Go.RowKit
set_option maxRecDepth 100000

theorem Rd_cells {w : World} {a : Option Addr} {n cap : Nat} {xs : List Value} (h : Rd w (.slice a n cap) xs) (hne : xs ≠ []) :
    ∃ b off, a = some ⟨b, off, none⟩ ∧ b < w.heap.size ∧ ∀ j, j < xs.length → w.cell? ⟨b, off + j, none⟩ = xs[j]? := by
  obtain ⟨a', n', cap', he, hn, hnc, hcm, hx⟩ := h
  cases he
  obtain ⟨b, off, rfl, hc⟩ := hx hne
  have h0 : 0 < xs.length := List.length_pos_iff.2 hne
  have h1 := hc 0 h0
  rw [List.getElem?_eq_getElem h0] at h1
  exact ⟨b, off, rfl, World.block_lt_of_cell? w _ h1, hc⟩
theorem Rd.form {w : World} {v : Value} {xs : List Value} (h : Rd w v xs) : ∃ a cap, v = .slice a xs.length cap := by
  obtain ⟨a, n, cap, rfl, rfl, _⟩ := h
  exact ⟨a, cap, rfl⟩
theorem canTake_at {l : List UInt8} {p : Nat} {big : Bool} {n : Int} (h0 : 0 ≤ n) (h : n ≤ (l.length : Int) - p) : canTake ⟨l, p, big, false⟩ n = true := canTake_of rfl h0 h
theorem takeS_at {l : List UInt8} {p : Nat} {big : Bool} {n : Int} (h0 : 0 ≤ n) (h : n ≤ (l.length : Int) - p) : takeS ⟨l, p, big, false⟩ n = ⟨l, p + n.toNat, big, false⟩ := by
  unfold takeS; rw [if_pos (canTake_at h0 h)]
theorem takeL_at {l : List UInt8} {p : Nat} {big : Bool} {n : Int} (h0 : 0 ≤ n) (h : n ≤ (l.length : Int) - p) : takeL ⟨l, p, big, false⟩ n = (l.drop p).take n.toNat := by
  unfold takeL; rw [if_pos (canTake_at h0 h)]
theorem take_more (l : List UInt8) (p n : Nat) : l.take p ++ (l.drop p).take n = l.take (p + n) := by rw [List.take_add]

set_option maxHeartbeats 1000000 in
theorem CursorCuts_in (l : List UInt8) (a : Option Addr) (cap : Nat) (w : World) (rd : Rd w (.slice a l.length cap) (bytesV l)) (big : Bool)
    (cs : List Int) (a2 : Option Addr) (cap2 : Nat) (rd2 : Rd w (.slice a2 cs.length cap2) (cs.map (Value.int .i64))) (hg : Env w) (hl : l.length ≤ 3000) (hcs : cs.length ≤ 40) :
    Calls Tryd.prog 10 #[.slice a l.length cap, .bool big, .slice a2 cs.length cap2] w fun e w' => e = .returned (.bool true) ∧ Chg [] w w' := by
  have Hg := Lib.hid hg
  have HR := Lib.hid rd
  have HR2 := Lib.hid rd2
  clear hg rd rd2
  go_enter Tryd.func10, Tryd.ntmps10
  go_wp2_with fail
  refine (New_cur _ l big w HR.out (by omega)).mono ?_
  rintro e w1 ⟨x, rfl, hx, hcx, hch⟩
  have H1 := Lib.hid ((Curs.start Hg.out).new hch hcx hx)
  have hwx : w.heap.size ≤ x := hx
  have Hx := Lib.hid hx
  have Hcx := Lib.hid hcx
  have Hch := Lib.hid hch
  clear hx hcx hch
  go_wp2_with fail
  go_loopw [8, 9] (fun s8 s9 wr => ∃ k p : Nat, k ≤ cs.length ∧ s9 = .int .i64 (k : Int) ∧ p ≤ l.length ∧ Curs w wr [(x, ⟨l, p, big, false⟩)] ∧ Buf wr (x + 1) s8 (l.take p)) (fun _ s9 _ => cs.length - (intOf s9).toNat)
  case atStart => exact ⟨0, 0, Nat.zero_le _, rfl, Nat.zero_le _, H1.out, Buf.nil _ _⟩
  case round =>
    obtain ⟨k, p, hk, rfl, hp, hcu, hbu⟩ := hrel
    have hlp : (l.take p).length = p := by rw [List.length_take]; omega
    have HLP := Lib.hid (hlp)
    clear hlp
    have Hcu := Lib.hid hcu
    have Hbu := Lib.hid hbu
    clear hcu hbu
    have HD := Lib.hid (Hcu.out.pure ((Chg.refl [] _).drew))
    by_cases hlt : k < cs.length
    · obtain ⟨b2, off2, rfl, hb2, hcell⟩ := Rd_cells HR2.out (by intro e; have := congrArg List.length e; simp at this; subst this; simp at hlt)
      obtain ⟨n, hn⟩ : ∃ n, n = cs.getD k 0 := ⟨_, rfl⟩
      have hc0 : w.cell? ⟨b2, off2 + k, none⟩ = some (.int .i64 n) := by
        rw [hcell k (by simpa using hlt), hn]
        simp [List.getD_eq_getElem?_getD, hlt]
      have hcl : ∀ W, Chg [] wr W → W.cell? ⟨b2, off2 + k, none⟩ = some (.int .i64 n) := fun W hW => hW.cell (Hcu.out.chg.cell hc0 (by simp)) (by simp)
      clear hcell hn hc0
      by_cases h0 : 0 ≤ n
      · have d0 : decide (0 ≤ n) = true := by simpa using h0
        by_cases h1 : n ≤ (l.length : Int) - p
        · have d1 : decide (n ≤ (l.length : Int) - p) = true := by simpa using h1
          have HTS := Lib.hid (takeS_at (big := big) h0 h1)
          have HTL := Lib.hid (takeL_at (big := big) h0 h1)
          go_wp2_with fail
          refine wp_region_noPanic ?_
          refine wp_region_held_drew (S := fun w' => Chg [] wr w') (by kernel_rfl) ((Chg.refl [] wr).drew) (fun hHeld => ?_)
          refine take_read (i := 0) (v := ?_) (by simp only [List.getElem?_toArray, List.getElem?_cons_zero]; rfl) (by kernel_rfl) (by kernel_rfl) (by kernel_rfl) (fun _ _ _ h => h) hHeld ?_ ?_
          rotate_left
          · intro w hSw
            go_simp
            try with_reducible rfl
          try simp only [Act.put, List.setIfInBounds_toArray, List.set_cons_zero, List.set_cons_succ]
          refine take_read (i := 1) (v := ?_) (by simp only [List.getElem?_toArray, List.getElem?_cons_succ, List.getElem?_cons_zero]; rfl) (by kernel_rfl) (by kernel_rfl) (by kernel_rfl) (fun _ _ _ h => h) hHeld ?_ ?_
          rotate_left
          · intro w hSw
            go_simp
            try with_reducible rfl
          try simp only [Act.put, List.setIfInBounds_toArray, List.set_cons_zero, List.set_cons_succ]
          refine take_read (i := 2) (v := ?_) (by simp only [List.getElem?_toArray, List.getElem?_cons_succ, List.getElem?_cons_zero]; rfl) (by kernel_rfl) (by kernel_rfl) (by kernel_rfl) (fun _ _ _ h => h) hHeld ?_ ?_
          rotate_left
          · intro w hSw
            go_simp
            try with_reducible rfl
          try simp only [Act.put, List.setIfInBounds_toArray, List.set_cons_zero, List.set_cons_succ]
          refine take_read (i := 3) (v := ?_) (by simp only [List.getElem?_toArray, List.getElem?_cons_succ, List.getElem?_cons_zero]; rfl) (by kernel_rfl) (by kernel_rfl) (by kernel_rfl) (fun _ _ _ h => h) hHeld ?_ ?_
          rotate_left
          · intro w hSw
            have hcl := hcl w hSw
            go_simp
            try with_reducible rfl
          try simp only [Act.put, List.setIfInBounds_toArray, List.set_cons_zero, List.set_cons_succ]
          refine take_read (i := 4) (v := ?_) (by simp only [List.getElem?_toArray, List.getElem?_cons_succ, List.getElem?_cons_zero]; rfl) (by kernel_rfl) (by kernel_rfl) (by kernel_rfl) (fun _ _ _ h => h) hHeld ?_ ?_
          rotate_left
          · intro w hSw
            go_simp
            try with_reducible rfl
          try simp only [Act.put, List.setIfInBounds_toArray, List.set_cons_zero, List.set_cons_succ]
          refine take_read (i := 5) (v := ?_) (by simp only [List.getElem?_toArray, List.getElem?_cons_succ, List.getElem?_cons_zero]; rfl) (by kernel_rfl) (by kernel_rfl) (by kernel_rfl) (fun _ _ _ h => h) hHeld ?_ ?_
          rotate_left
          · intro w hSw
            go_simp
            try with_reducible rfl
          try simp only [Act.put, List.setIfInBounds_toArray, List.set_cons_zero, List.set_cons_succ]
          refine take_read (i := 6) (v := ?_) (by simp only [List.getElem?_toArray, List.getElem?_cons_succ, List.getElem?_cons_zero]; rfl) (by kernel_rfl) (by kernel_rfl) (by kernel_rfl) (fun _ _ _ h => h) hHeld ?_ ?_
          rotate_left
          · intro w hSw
            go_simp
            try with_reducible rfl
          try simp only [Act.put, List.setIfInBounds_toArray, List.set_cons_zero, List.set_cons_succ]
          refine take_read (i := 7) (v := ?_) (by simp only [List.getElem?_toArray, List.getElem?_cons_succ, List.getElem?_cons_zero]; rfl) (by kernel_rfl) (by kernel_rfl) (by kernel_rfl) (fun _ _ _ h => h) hHeld ?_ ?_
          rotate_left
          · intro w hSw
            go_simp
            try with_reducible rfl
          try simp only [Act.put, List.setIfInBounds_toArray, List.set_cons_zero, List.set_cons_succ]
          refine take_read (i := 8) (v := ?_) (by simp only [List.getElem?_toArray, List.getElem?_cons_succ, List.getElem?_cons_zero]; rfl) (by kernel_rfl) (by kernel_rfl) (by kernel_rfl) (fun _ _ _ h => h) hHeld ?_ ?_
          rotate_left
          · intro w hSw
            go_simp
            try with_reducible rfl
          try simp only [Act.put, List.setIfInBounds_toArray, List.set_cons_zero, List.set_cons_succ]
          refine take_read (i := 9) (v := ?_) (by simp only [List.getElem?_toArray, List.getElem?_cons_succ, List.getElem?_cons_zero]; rfl) (by kernel_rfl) (by kernel_rfl) (by kernel_rfl) (fun _ _ _ h => h) hHeld ?_ ?_
          rotate_left
          · intro w hSw
            have hcl := hcl w hSw
            go_simp
            try with_reducible rfl
          try simp only [Act.put, List.setIfInBounds_toArray, List.set_cons_zero, List.set_cons_succ]
          refine take_read (i := 10) (v := ?_) (by simp only [List.getElem?_toArray, List.getElem?_cons_succ, List.getElem?_cons_zero]; rfl) (by kernel_rfl) (by kernel_rfl) (by kernel_rfl) (fun _ _ _ h => h) hHeld ?_ ?_
          rotate_left
          · intro w hSw
            go_simp
            try with_reducible rfl
          try simp only [Act.put, List.setIfInBounds_toArray, List.set_cons_zero, List.set_cons_succ]
          refine wpAnyH_ready (rs := [11]) (by kernel_rfl) (by simp) ?_
          refine AllReadyH.cons rfl (fun K hK => ?_) AllReadyH.nil
          go_simp
          refine (Left_cur x _ _ HD.out.cur).mono ?_
          rintro e w4 ⟨rfl, hdr⟩
          have H4 := Lib.hid (HD.out.dr hdr)
          have hHk : Chg [] wr w4 := ((Chg.refl [] wr).drew).dr hdr
          clear hdr
          refine hK.out _ _ hHk (fun _ => ?_)
          clear hK hHeld K
          have hHeld := hHk
          try (unfold Act.put; simp only [List.setIfInBounds_toArray, List.set_cons_zero, List.set_cons_succ])
          refine take_read (i := 12) (v := ?_) (by simp only [List.getElem?_toArray, List.getElem?_cons_succ, List.getElem?_cons_zero]; rfl) (by kernel_rfl) (by kernel_rfl) (by kernel_rfl) (fun _ _ _ h => h) hHeld ?_ ?_
          rotate_left
          · intro w hSw
            go_simp
            try with_reducible rfl
          try simp only [Act.put, List.setIfInBounds_toArray, List.set_cons_zero, List.set_cons_succ]
          refine take_read (i := 13) (v := ?_) (by simp only [List.getElem?_toArray, List.getElem?_cons_succ, List.getElem?_cons_zero]; rfl) (by kernel_rfl) (by kernel_rfl) (by kernel_rfl) (fun _ _ _ h => h) hHeld ?_ ?_
          rotate_left
          · intro w hSw
            go_simp
            try with_reducible rfl
          try simp only [Act.put, List.setIfInBounds_toArray, List.set_cons_zero, List.set_cons_succ]
          refine wpAnyH_done (by kernel_rfl) ?_ _
          refine NoPanic.normal ?_
          have hcl4 := hcl w4 hHk
          have HB4 := Lib.hid (Hbu.out.pure hHk)
          clear hcl hHk hHeld
          go_wp2_with fail
          refine (Bytes_cur x _ n w4 H4.out.cur).mono ?_
          rintro e w5 ⟨v, rfl, hcx5, hb5, hch5⟩
          rw [HTS.out] at hcx5
          rw [HTL.out] at hb5
          have H5 := Lib.hid (H4.out.call hcx5 hch5)
          have HB5 := Lib.hid (HB4.out.frame hch5 (buf_ne HB4.out H4.out.cur))
          clear hcx5 hch5
          have Hb5 := Lib.hid hb5
          clear hb5
          have hx5 := H5.out.cur.lt
          go_wp2_with (at_builtin; refine app_bytes_at rfl _ _ rfl (x + 1) _ _ _ rfl HB5.out _ rfl _ (Rd.owned Hb5.out) (by have := HLP.out; rw [this, List.length_take]; omega) (by omega) ?_; intro va wva hoa hga haa; refine Hid.out ?_)
          refine Lib.hid ?_
          have hS : ∀ i ∈ (Option.toList (Value.ownBlock _)), x + 1 ≤ i := fun i hi => (World.ownsRow.lt HB5.out i (by simpa using hi)).1
          have HCa := Lib.hid (H5.out.far (Chg.of_grown hga) (fun i hi => ⟨by have := hS i hi; omega, by have := hS i hi; have := Hg.out.pos; omega, fun q hq => by rw [List.mem_singleton] at hq; subst hq; have := hS i hi; exact this⟩))
          have HBa : Hid (Buf wva (x + 1) va (l.take (p + n.toNat))) := Lib.hid (by
            rw [← take_more]; exact Buf.app hoa)
          clear hoa hga haa hS
          go_wp2
          go_roundw
          case rel => exact ⟨k + 1, p + n.toNat, by omega, by go_num, by omega, HCa.out, HBa.out⟩
          case measure => simp [intOf]; omega
        · have d1 : decide (n ≤ (l.length : Int) - p) = false := by simpa using h1
          go_wp2_with fail
          refine wp_region_noPanic ?_
          refine wp_region_held_drew (S := fun w' => Chg [] wr w') (by kernel_rfl) ((Chg.refl [] wr).drew) (fun hHeld => ?_)
          refine take_read (i := 0) (v := ?_) (by simp only [List.getElem?_toArray, List.getElem?_cons_zero]; rfl) (by kernel_rfl) (by kernel_rfl) (by kernel_rfl) (fun _ _ _ h => h) hHeld ?_ ?_
          rotate_left
          · intro w hSw
            go_simp
            try with_reducible rfl
          try simp only [Act.put, List.setIfInBounds_toArray, List.set_cons_zero, List.set_cons_succ]
          refine take_read (i := 1) (v := ?_) (by simp only [List.getElem?_toArray, List.getElem?_cons_succ, List.getElem?_cons_zero]; rfl) (by kernel_rfl) (by kernel_rfl) (by kernel_rfl) (fun _ _ _ h => h) hHeld ?_ ?_
          rotate_left
          · intro w hSw
            go_simp
            try with_reducible rfl
          try simp only [Act.put, List.setIfInBounds_toArray, List.set_cons_zero, List.set_cons_succ]
          refine take_read (i := 2) (v := ?_) (by simp only [List.getElem?_toArray, List.getElem?_cons_succ, List.getElem?_cons_zero]; rfl) (by kernel_rfl) (by kernel_rfl) (by kernel_rfl) (fun _ _ _ h => h) hHeld ?_ ?_
          rotate_left
          · intro w hSw
            go_simp
            try with_reducible rfl
          try simp only [Act.put, List.setIfInBounds_toArray, List.set_cons_zero, List.set_cons_succ]
          refine take_read (i := 3) (v := ?_) (by simp only [List.getElem?_toArray, List.getElem?_cons_succ, List.getElem?_cons_zero]; rfl) (by kernel_rfl) (by kernel_rfl) (by kernel_rfl) (fun _ _ _ h => h) hHeld ?_ ?_
          rotate_left
          · intro w hSw
            have hcl := hcl w hSw
            go_simp
            try with_reducible rfl
          try simp only [Act.put, List.setIfInBounds_toArray, List.set_cons_zero, List.set_cons_succ]
          refine take_read (i := 4) (v := ?_) (by simp only [List.getElem?_toArray, List.getElem?_cons_succ, List.getElem?_cons_zero]; rfl) (by kernel_rfl) (by kernel_rfl) (by kernel_rfl) (fun _ _ _ h => h) hHeld ?_ ?_
          rotate_left
          · intro w hSw
            go_simp
            try with_reducible rfl
          try simp only [Act.put, List.setIfInBounds_toArray, List.set_cons_zero, List.set_cons_succ]
          refine take_read (i := 5) (v := ?_) (by simp only [List.getElem?_toArray, List.getElem?_cons_succ, List.getElem?_cons_zero]; rfl) (by kernel_rfl) (by kernel_rfl) (by kernel_rfl) (fun _ _ _ h => h) hHeld ?_ ?_
          rotate_left
          · intro w hSw
            go_simp
            try with_reducible rfl
          try simp only [Act.put, List.setIfInBounds_toArray, List.set_cons_zero, List.set_cons_succ]
          refine take_read (i := 6) (v := ?_) (by simp only [List.getElem?_toArray, List.getElem?_cons_succ, List.getElem?_cons_zero]; rfl) (by kernel_rfl) (by kernel_rfl) (by kernel_rfl) (fun _ _ _ h => h) hHeld ?_ ?_
          rotate_left
          · intro w hSw
            go_simp
            try with_reducible rfl
          try simp only [Act.put, List.setIfInBounds_toArray, List.set_cons_zero, List.set_cons_succ]
          refine take_read (i := 7) (v := ?_) (by simp only [List.getElem?_toArray, List.getElem?_cons_succ, List.getElem?_cons_zero]; rfl) (by kernel_rfl) (by kernel_rfl) (by kernel_rfl) (fun _ _ _ h => h) hHeld ?_ ?_
          rotate_left
          · intro w hSw
            go_simp
            try with_reducible rfl
          try simp only [Act.put, List.setIfInBounds_toArray, List.set_cons_zero, List.set_cons_succ]
          refine take_read (i := 8) (v := ?_) (by simp only [List.getElem?_toArray, List.getElem?_cons_succ, List.getElem?_cons_zero]; rfl) (by kernel_rfl) (by kernel_rfl) (by kernel_rfl) (fun _ _ _ h => h) hHeld ?_ ?_
          rotate_left
          · intro w hSw
            go_simp
            try with_reducible rfl
          try simp only [Act.put, List.setIfInBounds_toArray, List.set_cons_zero, List.set_cons_succ]
          refine take_read (i := 9) (v := ?_) (by simp only [List.getElem?_toArray, List.getElem?_cons_succ, List.getElem?_cons_zero]; rfl) (by kernel_rfl) (by kernel_rfl) (by kernel_rfl) (fun _ _ _ h => h) hHeld ?_ ?_
          rotate_left
          · intro w hSw
            have hcl := hcl w hSw
            go_simp
            try with_reducible rfl
          try simp only [Act.put, List.setIfInBounds_toArray, List.set_cons_zero, List.set_cons_succ]
          refine take_read (i := 10) (v := ?_) (by simp only [List.getElem?_toArray, List.getElem?_cons_succ, List.getElem?_cons_zero]; rfl) (by kernel_rfl) (by kernel_rfl) (by kernel_rfl) (fun _ _ _ h => h) hHeld ?_ ?_
          rotate_left
          · intro w hSw
            go_simp
            try with_reducible rfl
          try simp only [Act.put, List.setIfInBounds_toArray, List.set_cons_zero, List.set_cons_succ]
          refine wpAnyH_ready (rs := [11]) (by kernel_rfl) (by simp) ?_
          refine AllReadyH.cons rfl (fun K hK => ?_) AllReadyH.nil
          go_simp
          refine (Left_cur x _ _ HD.out.cur).mono ?_
          rintro e w4 ⟨rfl, hdr⟩
          have H4 := Lib.hid (HD.out.dr hdr)
          have hHk : Chg [] wr w4 := ((Chg.refl [] wr).drew).dr hdr
          clear hdr
          refine hK.out _ _ hHk (fun _ => ?_)
          clear hK hHeld K
          have hHeld := hHk
          try (unfold Act.put; simp only [List.setIfInBounds_toArray, List.set_cons_zero, List.set_cons_succ])
          refine take_read (i := 12) (v := ?_) (by simp only [List.getElem?_toArray, List.getElem?_cons_succ, List.getElem?_cons_zero]; rfl) (by kernel_rfl) (by kernel_rfl) (by kernel_rfl) (fun _ _ _ h => h) hHeld ?_ ?_
          rotate_left
          · intro w hSw
            go_simp
            try with_reducible rfl
          try simp only [Act.put, List.setIfInBounds_toArray, List.set_cons_zero, List.set_cons_succ]
          refine take_read (i := 13) (v := ?_) (by simp only [List.getElem?_toArray, List.getElem?_cons_succ, List.getElem?_cons_zero]; rfl) (by kernel_rfl) (by kernel_rfl) (by kernel_rfl) (fun _ _ _ h => h) hHeld ?_ ?_
          rotate_left
          · intro w hSw
            go_simp
            try with_reducible rfl
          try simp only [Act.put, List.setIfInBounds_toArray, List.set_cons_zero, List.set_cons_succ]
          refine wpAnyH_done (by kernel_rfl) ?_ _
          refine NoPanic.normal ?_
          have HB4 := Lib.hid (Hbu.out.pure hHk)
          clear hcl hHk hHeld
          go_wp2
          go_roundw
          case rel => exact ⟨k + 1, p, by omega, by go_num, hp, H4.out, HB4.out⟩
          case measure => simp [intOf]; omega
      · have d0 : decide (0 ≤ n) = false := by simpa using h0
        go_wp2_with fail
        refine wp_region_noPanic ?_
        refine wp_region_held_drew (S := fun w' => Chg [] wr w') (by kernel_rfl) ((Chg.refl [] wr).drew) (fun hHeld => ?_)
        refine take_read (i := 0) (v := ?_) (by simp only [List.getElem?_toArray, List.getElem?_cons_zero]; rfl) (by kernel_rfl) (by kernel_rfl) (by kernel_rfl) (fun _ _ _ h => h) hHeld ?_ ?_
        rotate_left
        · intro w hSw
          go_simp
          try with_reducible rfl
        try simp only [Act.put, List.setIfInBounds_toArray, List.set_cons_zero, List.set_cons_succ]
        refine take_read (i := 1) (v := ?_) (by simp only [List.getElem?_toArray, List.getElem?_cons_succ, List.getElem?_cons_zero]; rfl) (by kernel_rfl) (by kernel_rfl) (by kernel_rfl) (fun _ _ _ h => h) hHeld ?_ ?_
        rotate_left
        · intro w hSw
          go_simp
          try with_reducible rfl
        try simp only [Act.put, List.setIfInBounds_toArray, List.set_cons_zero, List.set_cons_succ]
        refine take_read (i := 2) (v := ?_) (by simp only [List.getElem?_toArray, List.getElem?_cons_succ, List.getElem?_cons_zero]; rfl) (by kernel_rfl) (by kernel_rfl) (by kernel_rfl) (fun _ _ _ h => h) hHeld ?_ ?_
        rotate_left
        · intro w hSw
          go_simp
          try with_reducible rfl
        try simp only [Act.put, List.setIfInBounds_toArray, List.set_cons_zero, List.set_cons_succ]
        refine take_read (i := 3) (v := ?_) (by simp only [List.getElem?_toArray, List.getElem?_cons_succ, List.getElem?_cons_zero]; rfl) (by kernel_rfl) (by kernel_rfl) (by kernel_rfl) (fun _ _ _ h => h) hHeld ?_ ?_
        rotate_left
        · intro w hSw
          have hcl := hcl w hSw
          go_simp
          try with_reducible rfl
        try simp only [Act.put, List.setIfInBounds_toArray, List.set_cons_zero, List.set_cons_succ]
        refine take_read (i := 4) (v := ?_) (by simp only [List.getElem?_toArray, List.getElem?_cons_succ, List.getElem?_cons_zero]; rfl) (by kernel_rfl) (by kernel_rfl) (by kernel_rfl) (fun _ _ _ h => h) hHeld ?_ ?_
        rotate_left
        · intro w hSw
          go_simp
          try with_reducible rfl
        try simp only [Act.put, List.setIfInBounds_toArray, List.set_cons_zero, List.set_cons_succ]
        refine take_read (i := 5) (v := ?_) (by simp only [List.getElem?_toArray, List.getElem?_cons_succ, List.getElem?_cons_zero]; rfl) (by kernel_rfl) (by kernel_rfl) (by kernel_rfl) (fun _ _ _ h => h) hHeld ?_ ?_
        rotate_left
        · intro w hSw
          go_simp
          try with_reducible rfl
        try simp only [Act.put, List.setIfInBounds_toArray, List.set_cons_zero, List.set_cons_succ]
        refine take_read (i := 6) (v := ?_) (by simp only [List.getElem?_toArray, List.getElem?_cons_succ, List.getElem?_cons_zero]; rfl) (by kernel_rfl) (by kernel_rfl) (by kernel_rfl) (fun _ _ _ h => h) hHeld ?_ ?_
        rotate_left
        · intro w hSw
          go_simp
          try with_reducible rfl
        try simp only [Act.put, List.setIfInBounds_toArray, List.set_cons_zero, List.set_cons_succ]
        refine take_read (i := 7) (v := ?_) (by simp only [List.getElem?_toArray, List.getElem?_cons_succ, List.getElem?_cons_zero]; rfl) (by kernel_rfl) (by kernel_rfl) (by kernel_rfl) (fun _ _ _ h => h) hHeld ?_ ?_
        rotate_left
        · intro w hSw
          go_simp
          try with_reducible rfl
        try simp only [Act.put, List.setIfInBounds_toArray, List.set_cons_zero, List.set_cons_succ]
        refine take_read (i := 8) (v := ?_) (by simp only [List.getElem?_toArray, List.getElem?_cons_succ, List.getElem?_cons_zero]; rfl) (by kernel_rfl) (by kernel_rfl) (by kernel_rfl) (fun _ _ _ h => h) hHeld ?_ ?_
        rotate_left
        · intro w hSw
          go_simp
          try with_reducible rfl
        try simp only [Act.put, List.setIfInBounds_toArray, List.set_cons_zero, List.set_cons_succ]
        refine take_read (i := 9) (v := ?_) (by simp only [List.getElem?_toArray, List.getElem?_cons_succ, List.getElem?_cons_zero]; rfl) (by kernel_rfl) (by kernel_rfl) (by kernel_rfl) (fun _ _ _ h => h) hHeld ?_ ?_
        rotate_left
        · intro w hSw
          go_simp
          try with_reducible rfl
        try simp only [Act.put, List.setIfInBounds_toArray, List.set_cons_zero, List.set_cons_succ]
        refine take_read (i := 10) (v := ?_) (by simp only [List.getElem?_toArray, List.getElem?_cons_succ, List.getElem?_cons_zero]; rfl) (by kernel_rfl) (by kernel_rfl) (by kernel_rfl) (fun _ _ _ h => h) hHeld ?_ ?_
        rotate_left
        · intro w hSw
          go_simp
          try with_reducible rfl
        try simp only [Act.put, List.setIfInBounds_toArray, List.set_cons_zero, List.set_cons_succ]
        refine take_read (i := 11) (v := ?_) (by simp only [List.getElem?_toArray, List.getElem?_cons_succ, List.getElem?_cons_zero]; rfl) (by kernel_rfl) (by kernel_rfl) (by kernel_rfl) (fun _ _ _ h => h) hHeld ?_ ?_
        rotate_left
        · intro w hSw
          go_simp
          try with_reducible rfl
        try simp only [Act.put, List.setIfInBounds_toArray, List.set_cons_zero, List.set_cons_succ]
        refine take_read (i := 12) (v := ?_) (by simp only [List.getElem?_toArray, List.getElem?_cons_succ, List.getElem?_cons_zero]; rfl) (by kernel_rfl) (by kernel_rfl) (by kernel_rfl) (fun _ _ _ h => h) hHeld ?_ ?_
        rotate_left
        · intro w hSw
          go_simp
          try with_reducible rfl
        try simp only [Act.put, List.setIfInBounds_toArray, List.set_cons_zero, List.set_cons_succ]
        refine take_read (i := 13) (v := ?_) (by simp only [List.getElem?_toArray, List.getElem?_cons_succ, List.getElem?_cons_zero]; rfl) (by kernel_rfl) (by kernel_rfl) (by kernel_rfl) (fun _ _ _ h => h) hHeld ?_ ?_
        rotate_left
        · intro w hSw
          go_simp
          try with_reducible rfl
        try simp only [Act.put, List.setIfInBounds_toArray, List.set_cons_zero, List.set_cons_succ]
        refine wpAnyH_done (by kernel_rfl) ?_ _
        refine NoPanic.normal ?_
        have HB4 := Lib.hid (Hbu.out.pure ((Chg.refl [] _).drew))
        clear hcl hHeld
        go_wp2
        go_roundw
        case rel => exact ⟨k + 1, p, by omega, by go_num, hp, HD.out, HB4.out⟩
        case measure => simp [intOf]; omega
    · obtain rfl : k = cs.length := by omega
      go_wp2_with fail
      refine (Left_cur x _ _ Hcu.out.cur).mono ?_
      rintro e w4 ⟨rfl, hdr⟩
      have H4 := Lib.hid (Hcu.out.dr hdr)
      have HB4 := Lib.hid (Hbu.out.pure ((Chg.refl [] _).dr hdr))
      clear hdr
      have h0 : (0 : Int) ≤ (l.length : Int) - p := by omega
      have HTS := Lib.hid (takeS_at (l := l) (big := big) h0 (Int.le_refl _))
      have HTL := Lib.hid (takeL_at (l := l) (big := big) h0 (Int.le_refl _))
      go_wp2_with fail
      refine (Bytes_cur x _ _ w4 H4.out.cur).mono ?_
      rintro e w5 ⟨v, rfl, hcx5, hb5, hch5⟩
      rw [HTS.out] at hcx5
      rw [HTL.out] at hb5
      have H5 := Lib.hid (H4.out.call hcx5 hch5)
      have HB5 := Lib.hid (HB4.out.frame hch5 (buf_ne HB4.out H4.out.cur))
      clear hcx5 hch5
      have Hb5 := Lib.hid hb5
      clear hb5
      have hx5 := H5.out.cur.lt
      go_wp2_with (at_builtin; refine app_bytes_at rfl _ _ rfl (x + 1) _ _ _ rfl HB5.out _ rfl _ (Rd.owned Hb5.out) (by have := HLP.out; rw [this, List.length_take]; omega) (by omega) ?_; intro va wva hoa hga haa; refine Hid.out ?_)
      refine Lib.hid ?_
      have hS : ∀ i ∈ (Option.toList (Value.ownBlock _)), x + 1 ≤ i := fun i hi => (World.ownsRow.lt HB5.out i (by simpa using hi)).1
      have HCa := Lib.hid (H5.out.far (Chg.of_grown hga) (fun i hi => ⟨by have := hS i hi; omega, by have := hS i hi; have := Hg.out.pos; omega, fun q hq => by rw [List.mem_singleton] at hq; subst hq; have := hS i hi; exact this⟩))
      have HBa : Hid (Buf wva (x + 1) va l) := Lib.hid (by
        have e : l.take p ++ (l.drop p).take ((l.length : Int) - p).toNat = l := by rw [take_more, List.take_of_length_le (by omega)]
        rw [← e]; exact Buf.app hoa)
      clear hoa hga haa hS
      obtain ⟨a3, cap3, hv⟩ := HBa.out.rd.form
      rw [bytesV_length] at hv
      subst hv
      have hs1 : ∀ W, Chg [] wva W → (convert 22 9 (.slice a3 l.length cap3)).run Tryd.prog W = .ok (.string ⟨l.toArray⟩) W := fun W hc => run_str (HBa.out.rd.frame hc (fun _ _ hm => by cases hm))
      have hs2 : ∀ W, Chg [] wva W → (convert 22 9 (.slice a l.length cap)).run Tryd.prog W = .ok (.string ⟨l.toArray⟩) W := fun W hc => run_str (HR.out.frame (HCa.out.chg.then hc) (fun _ _ hm => by cases hm))
      have hs1 := hs1 wva (Chg.refl _ _)
      have hs2 := hs2 wva (Chg.refl _ _)
      have hz : (l.length : Int) - ((p + ((l.length : Int) - p).toNat : Nat) : Int) = 0 := by omega
      have hz2 : ((p + ((l.length : Int) - p).toNat : Nat) : Int) = (l.length : Int) := by omega
      have H6 := HCa
      rw [show p + ((l.length : Int) - p).toNat = l.length from by omega] at H6
      clear hz hz2
      go_wp2_with fail
      refine (Err_cur x _ _ H6.out.env H6.out.cur).mono ?_
      rintro e w6 ⟨rfl, hch⟩
      have H7 := Lib.hid (H6.out.pure hch)
      clear hch hs1 hs2
      go_wp2_with fail
      refine (At_cur x _ _ H7.out.cur).mono ?_
      rintro e w7 ⟨rfl, rfl⟩
      go_wp2_with fail
      refine (Left_cur x _ _ H7.out.cur).mono ?_
      rintro e w8 ⟨rfl, hdr⟩
      have H8 := Lib.hid (H7.out.dr hdr)
      clear hdr
      simp only [Int.sub_self]
      go_wp2_with fail
      refine (known_cur _ H8.out.env).mono ?_
      rintro e w9 ⟨rfl, hch⟩
      have H9 := Lib.hid (H8.out.pure hch)
      clear hch
      go_wp2
      go_ret
      exact ⟨rfl, H9.out.chg⟩
theorem CursorCuts_walk (w : World) (hg : Env w) (l : List UInt8) (a : Option Addr) (cap : Nat) (rd : Rd w (.slice a l.length cap) (bytesV l)) (big : Bool)
    (cs : List Int) (a2 : Option Addr) (cap2 : Nat) (rd2 : Rd w (.slice a2 cs.length cap2) (cs.map (Value.int .i64))) (_ : ∀ n ∈ cs, (Lit.int .i64 n).wf = true) :
    Calls Tryd.prog 10 #[.slice a l.length cap, .bool big, .slice a2 cs.length cap2] w fun e w' => e = .returned (.bool true) ∧ Chg [] w w' := by
  by_cases h1 : l.length ≤ 3000
  · by_cases h2 : cs.length ≤ 40
    · exact CursorCuts_in l a cap w rd big cs a2 cap2 rd2 hg h1 h2
    · have d1 : decide ((3000 : Int) < l.length) = false := by simp; omega
      have d2 : decide ((40 : Int) < cs.length) = true := by simp; omega
      have Hg := Lib.hid hg
      have HR := Lib.hid rd
      have HR2 := Lib.hid rd2
      clear hg rd rd2
      go_enter Tryd.func10, Tryd.ntmps10
      go_wp2_with fail
      refine (known_cur _ Hg.out).mono ?_
      rintro e w9 ⟨rfl, hch⟩
      have Hch := Lib.hid hch
      clear hch
      go_wp2
      go_ret
      exact ⟨rfl, Hch.out⟩
  · have d1 : decide ((3000 : Int) < l.length) = true := by simp; omega
    have Hg := Lib.hid hg
    have HR := Lib.hid rd
    have HR2 := Lib.hid rd2
    clear hg rd rd2
    go_enter Tryd.func10, Tryd.ntmps10
    go_wp2_with fail
    refine (known_cur _ Hg.out).mono ?_
    rintro e w9 ⟨rfl, hch⟩
    have Hch := Lib.hid hch
    clear hch
    go_wp2
    go_ret
    exact ⟨rfl, Hch.out⟩
end Go.Proofs.YtpodphfdoonidaaDoor
