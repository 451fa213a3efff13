/- LebRows, walked. -/
import Derived.Test.YtpodphfdoonidaaDoorLebReads
import Derived.Test.YtpodphfdoonidaaDoorReg
import Derived.Test.YtpodphfdoonidaaDoorApp
import Derived.Test.YtpodphfdoonidaaDoorRowsP
namespace Go.Proofs.YtpodphfdoonidaaDoor
open Go.RowKit
set_option maxRecDepth 100000

theorem par_even (k : Nat) (h : k % 2 = 0) : ((k : Int) % 2 == 0) = true ∧ ((k : Int) % 2 == 1) = false := by constructor <;> simp <;> omega
theorem par_odd (k : Nat) (h : k % 2 ≠ 0) : ((k : Int) % 2 == 0) = false ∧ ((k : Int) % 2 == 1) = true := by constructor <;> simp <;> omega
theorem wrap64_eq (n : Int) : wrap64 n = IntKind.i64.wrap n := by unfold wrap64; rw [IntKind.wrap_i64]
set_option maxHeartbeats 1000000 in
theorem LebRows_in (ns : List Nat) (hns : ∀ n ∈ ns, n < 18446744073709551616) (lb lo cap : Nat) (w : World) (hcw : ∀ j, j < ns.length → w.cell? ⟨lb, lo + j, none⟩ = some (.int .u64 (ns.getD j 0 : Nat)))
    (hg : Env w) (h0 : 0 < ns.length) (h120 : ns.length ≤ 120) :
    Calls Tryd.prog 8 #[.slice (some ⟨lb, lo, none⟩) ns.length cap] w fun e w' => e = .returned (.bool true) ∧ Chg [] w w' := by
  have HG := Lib.hid hg
  have HN := Lib.hid hns
  have HC := Lib.hid hcw
  have hlb : lb < w.heap.size := World.block_lt_of_cell? w _ (hcw 0 h0)
  clear hg hns hcw
  go_enter Tryd.func8, Tryd.ntmps8
  go_wp2_with fail
  go_loopw [3, 4] (fun s3 s4 wr => ∃ k : Nat, k ≤ ns.length ∧ s4 = .int .i64 (k : Int) ∧ Buf wr w.heap.size s3 (rowsL 0 (ns.take k)) ∧ Chg [] w wr) (fun _ s4 _ => ns.length - (intOf s4).toNat)
  case atStart => exact ⟨0, Nat.zero_le _, rfl, by simpa [rowsL] using Buf.nil w w.heap.size, Chg.refl _ _⟩
  case round =>
    obtain ⟨k, hk, rfl, hbuf, hch⟩ := hrel
    have HB := Lib.hid hbuf
    have HCH := Lib.hid hch
    clear hbuf hch
    by_cases hlt : k < ns.length
    · have hcl := HCH.out.cell (HC.out k hlt) (by simp)
      obtain ⟨n, hn⟩ : ∃ n, n = ns.getD k 0 := ⟨_, rfl⟩
      rw [← hn] at hcl
      have HNK : Hid (n < 18446744073709551616) := Lib.hid (by rw [hn]; exact HN.out _ (getD_mem' ns k hlt))
      have HS : Hid (rowsL 0 (ns.take (k + 1)) = rowsL 0 (ns.take k) ++ itemL k n) := Lib.hid (by rw [hn]; exact rows_succ ns k hlt)
      have hlen := rowsL_len (ns.take k) 0
      rw [List.length_take] at hlen
      have HL : Hid ((rowsL 0 (ns.take k)).length ≤ 1200) := Lib.hid (by omega)
      clear hn hlen
      by_cases he : k % 2 = 0
      · have HI : Hid (itemL k n = putU n) := Lib.hid (by unfold itemL; rw [if_pos he])
        obtain ⟨hp1, hp2⟩ := par_even k he
        go_wp2_with fail
        refine (Put_any n _ HNK.out).mono ?_
        rintro e w1 ⟨v1, rfl, ho1, hc1⟩
        have HO1 := Lib.hid ho1
        have HC1 := Lib.hid hc1
        clear ho1 hc1
        go_wp2_with (at_builtin; refine app_bytes_at rfl _ _ rfl w.heap.size _ _ _ rfl (HB.out.pure HC1.out) _ rfl (putU n) (Rd.owned HO1.out) (by have := (putUf_length 9 n).1; have : (putU n).length ≤ 10 := this; have := HL.out; omega) (HCH.out.then HC1.out).size ?_; intro va wva hoa hga haa; refine Hid.out ?_)
        refine Lib.hid ?_
        have HBa : Hid (Buf wva w.heap.size va (rowsL 0 (ns.take (k + 1)))) := Lib.hid (by rw [HS.out, HI.out]; exact Buf.app hoa)
        have HCa := Lib.hid ((HCH.out.then HC1.out).grown hga (fun k hk => .inr (World.ownsRow.lt HB.out k hk).1))
        clear hoa hga haa
        go_wp2
        go_roundw
        case rel => exact ⟨k + 1, by omega, by go_num, HBa.out, HCa.out⟩
        case measure => simp [intOf]; omega
      · have HI : Hid (itemL k n = putS (wrap64 n)) := Lib.hid (by unfold itemL; rw [if_neg he])
        obtain ⟨hp1, hp2⟩ := par_odd k he
        go_wp2_with fail
        refine (PutSigned_any (wrap64 n) _ (wrap64_bd _)).mono ?_
        rintro e w1 ⟨v1, rfl, ho1, hc1⟩
        have HO1 := Lib.hid ho1
        have HC1 := Lib.hid hc1
        clear ho1 hc1
        go_wp2_with (at_builtin; refine app_bytes_at rfl _ _ rfl w.heap.size _ _ _ rfl (HB.out.pure HC1.out) _ rfl (putS (wrap64 n)) (Rd.owned HO1.out) (by have := (putSf_length 9 (wrap64 n)).1; have : (putS (wrap64 n)).length ≤ 10 := this; have := HL.out; omega) (HCH.out.then HC1.out).size ?_; intro va wva hoa hga haa; refine Hid.out ?_)
        refine Lib.hid ?_
        have HBa : Hid (Buf wva w.heap.size va (rowsL 0 (ns.take (k + 1)))) := Lib.hid (by rw [HS.out, HI.out]; exact Buf.app hoa)
        have HCa := Lib.hid ((HCH.out.then HC1.out).grown hga (fun k hk => .inr (World.ownsRow.lt HB.out k hk).1))
        clear hoa hga haa
        go_wp2
        go_roundw
        case rel => exact ⟨k + 1, by omega, by go_num, HBa.out, HCa.out⟩
        case measure => simp [intOf]; omega
    · obtain rfl : k = ns.length := by omega
      obtain ⟨B, hB⟩ : ∃ B, B = rowsL 0 ns := ⟨_, rfl⟩
      rw [List.take_length, ← hB] at HB
      have hBl : B.length ≤ 1200 := by have := rowsL_len ns 0; rw [hB]; omega
      have hB0 : 0 < B.length := by rw [hB]; exact List.length_pos_iff.2 (rowsL_ne ns 0 (List.length_pos_iff.1 h0))
      have HBB := Lib.hid hB
      clear hB
      obtain ⟨g, cb, rfl, _, hcb, _, hgl, _⟩ := owned_at HB.out hB0
      go_wp2_with fail
      refine (New_cur _ B false _ HB.out.rd (by omega)).mono ?_
      rintro e w2 ⟨x, rfl, hx, hcx, hch⟩
      have H2 := Lib.hid (((Curs.start HG.out).pure HCH.out).new hch hcx hx)
      have HB2 := Lib.hid (HB.out.pure hch)
      have hgx : g < x := by omega
      have hlx : lb < x := by have := HCH.out.size; omega
      have HW2 : Hid (∀ k, k < ns.length → k % 2 = 0 → lebV ulebR ⟨B, atL ns k, false, false⟩ = (ns.getD k 0 : Nat) ∧ lebS ulebR ⟨B, atL ns k, false, false⟩ = ⟨B, atL ns (k + 1), false, false⟩) := Lib.hid (by rw [HBB.out]; exact fun k h1 h2 => row_u ns HN.out k h1 h2)
      have HW3 : Hid (∀ k, k < ns.length → k % 2 ≠ 0 → lebV slebR ⟨B, atL ns k, false, false⟩ = IntKind.i64.wrap (ns.getD k 0 : Nat) ∧ lebS slebR ⟨B, atL ns k, false, false⟩ = ⟨B, atL ns (k + 1), false, false⟩) := Lib.hid (by rw [HBB.out]; exact fun k h1 h2 => by rw [← wrap64_eq]; exact row_s ns k h1 h2)
      clear hcx hch hx HB hgl HCH
      go_wp2_with fail
      go_loopw [6] (fun s6 wr => ∃ k : Nat, k ≤ ns.length ∧ s6 = .int .i64 (k : Int) ∧ Curs w wr [(x, ⟨B, atL ns k, false, false⟩)] ∧ Buf wr w.heap.size (.slice (some ⟨g, 0, none⟩) B.length cb) B) (fun s6 _ => ns.length - (intOf s6).toNat)
      case atStart => exact ⟨0, Nat.zero_le _, rfl, H2.out, HB2.out⟩
      case round =>
        obtain ⟨k, hk, rfl, hcs, hbuf⟩ := hrel
        have H3 := Lib.hid hcs
        have HB3 := Lib.hid hbuf
        have HD := Lib.hid (hcs.pure ((Chg.refl [] _).drew))
        clear hcs hbuf H2 HB2
        by_cases hlt : k < ns.length
        · have hcell : ∀ W, Chg [x] wr W → W.cell? ⟨lb, lo + k, none⟩ = some (.int .u64 (ns.getD k 0 : Nat)) := fun W hW => hW.cell (H3.out.chg.cell (HC.out k hlt) (by simp)) (by simp; omega)
          obtain ⟨n, hn⟩ : ∃ n, n = ns.getD k 0 := ⟨_, rfl⟩
          rw [← hn] at hcell
          have HNE := Lib.hid hn
          clear hn
          by_cases he : k % 2 = 0
          · have HLW := Lib.hid (HW2.out k hlt he)
            rw [← HNE.out] at HLW
            obtain ⟨hp1, hp2⟩ := par_even k he
            have hq : (k : Int).tmod 2 = 0 := by rw [Int.tmod_eq_emod_of_nonneg (by omega)]; omega
            go_wp2_with fail
            refine wp_region_noPanic ?_
            refine wp_region_held_drew (S := fun w' => Chg [x] wr w') (by kernel_rfl) ((Chg.refl [x] wr).drew) (fun hHeld => ?_)
            refine take_read (i := 0) (v := ?_) (by simp only [List.getElem?_toArray, List.getElem?_cons_zero]; rfl) (by kernel_rfl) (by kernel_rfl) (by kernel_rfl) (fun _ _ _ h => h) hHeld ?_ ?_
            rotate_left
            · intro w hSw
              go_simp
              try with_reducible rfl
            try simp only [Act.put, List.setIfInBounds_toArray, List.set_cons_zero, List.set_cons_succ]
            refine take_read (i := 1) (v := ?_) (by simp only [List.getElem?_toArray, List.getElem?_cons_succ, List.getElem?_cons_zero]; rfl) (by kernel_rfl) (by kernel_rfl) (by kernel_rfl) (fun _ _ _ h => h) hHeld ?_ ?_
            rotate_left
            · intro w hSw
              go_simp
              try with_reducible rfl
            try simp only [Act.put, List.setIfInBounds_toArray, List.set_cons_zero, List.set_cons_succ]
            refine take_read (i := 2) (v := ?_) (by simp only [List.getElem?_toArray, List.getElem?_cons_succ, List.getElem?_cons_zero]; rfl) (by kernel_rfl) (by kernel_rfl) (by kernel_rfl) (fun _ _ _ h => h) hHeld ?_ ?_
            rotate_left
            · intro w hSw
              go_simp
              try with_reducible rfl
            try simp only [Act.put, List.setIfInBounds_toArray, List.set_cons_zero, List.set_cons_succ]
            refine take_read (i := 3) (v := ?_) (by simp only [List.getElem?_toArray, List.getElem?_cons_succ, List.getElem?_cons_zero]; rfl) (by kernel_rfl) (by kernel_rfl) (by kernel_rfl) (fun _ _ _ h => h) hHeld ?_ ?_
            rotate_left
            · intro w hSw
              go_simp
              try with_reducible rfl
            try simp only [Act.put, List.setIfInBounds_toArray, List.set_cons_zero, List.set_cons_succ]
            refine take_read (i := 4) (v := ?_) (by simp only [List.getElem?_toArray, List.getElem?_cons_succ, List.getElem?_cons_zero]; rfl) (by kernel_rfl) (by kernel_rfl) (by kernel_rfl) (fun _ _ _ h => h) hHeld ?_ ?_
            rotate_left
            · intro w hSw
              go_simp
              try with_reducible rfl
            try simp only [Act.put, List.setIfInBounds_toArray, List.set_cons_zero, List.set_cons_succ]
            refine take_read (i := 6) (v := ?_) (by simp only [List.getElem?_toArray, List.getElem?_cons_succ, List.getElem?_cons_zero]; rfl) (by kernel_rfl) (by kernel_rfl) (by kernel_rfl) (fun _ _ _ h => h) hHeld ?_ ?_
            rotate_left
            · intro w hSw
              go_simp
              try with_reducible rfl
            try simp only [Act.put, List.setIfInBounds_toArray, List.set_cons_zero, List.set_cons_succ]
            refine take_read (i := 7) (v := ?_) (by simp only [List.getElem?_toArray, List.getElem?_cons_succ, List.getElem?_cons_zero]; rfl) (by kernel_rfl) (by kernel_rfl) (by kernel_rfl) (fun _ _ _ h => h) hHeld ?_ ?_
            rotate_left
            · intro w hSw
              go_simp
              try with_reducible rfl
            try simp only [Act.put, List.setIfInBounds_toArray, List.set_cons_zero, List.set_cons_succ]
            refine take_read (i := 8) (v := ?_) (by simp only [List.getElem?_toArray, List.getElem?_cons_succ, List.getElem?_cons_zero]; rfl) (by kernel_rfl) (by kernel_rfl) (by kernel_rfl) (fun _ _ _ h => h) hHeld ?_ ?_
            rotate_left
            · intro w hSw
              go_simp
              try with_reducible rfl
            try simp only [Act.put, List.setIfInBounds_toArray, List.set_cons_zero, List.set_cons_succ]
            refine take_read (i := 9) (v := ?_) (by simp only [List.getElem?_toArray, List.getElem?_cons_succ, List.getElem?_cons_zero]; rfl) (by kernel_rfl) (by kernel_rfl) (by kernel_rfl) (fun _ _ _ h => h) hHeld ?_ ?_
            rotate_left
            · intro w hSw
              have hcl := hcell w hSw
              go_simp
              try with_reducible rfl
            try simp only [Act.put, List.setIfInBounds_toArray, List.set_cons_zero, List.set_cons_succ]
            refine wpAnyH_ready (rs := [5]) (by kernel_rfl) (by simp) ?_
            refine AllReadyH.cons rfl (fun K hK => ?_) AllReadyH.nil
            go_simp
            refine (Uleb_cur x _ _ HD.out.env HD.out.cur).mono ?_
            rintro e w4 ⟨rfl, hcx, hch⟩
            rw [HLW.out.1]
            rw [HLW.out.2] at hcx
            have H4 := Lib.hid (HD.out.call hcx hch)
            have hHk : Chg [x] wr w4 := ((Chg.refl [x] wr).drew).same hch
            have HB4 := Lib.hid (HB3.out.frame hHk (fun b hb hm => by
              rw [List.mem_singleton] at hm; have e : g = b := Option.some.inj hb; omega))
            clear hcx hch
            refine hK.out _ _ hHk (fun _ => ?_)
            clear hK hHeld K
            have hHeld := hHk
            try simp only [Act.put, List.setIfInBounds_toArray, List.set_cons_zero, List.set_cons_succ]
            refine take_read (i := 10) (v := ?_) (by simp only [List.getElem?_toArray, List.getElem?_cons_succ, List.getElem?_cons_zero]; rfl) (by kernel_rfl) (by kernel_rfl) (by kernel_rfl) (fun _ _ _ h => h) hHeld ?_ ?_
            rotate_left
            · intro w hSw
              go_simp
              try with_reducible rfl
            try simp only [Act.put, List.setIfInBounds_toArray, List.set_cons_zero, List.set_cons_succ]
            refine take_read (i := 11) (v := ?_) (by simp only [List.getElem?_toArray, List.getElem?_cons_succ, List.getElem?_cons_zero]; rfl) (by kernel_rfl) (by kernel_rfl) (by kernel_rfl) (fun _ _ _ h => h) hHeld ?_ ?_
            rotate_left
            · intro w hSw
              go_simp
              try with_reducible rfl
            try simp only [Act.put, List.setIfInBounds_toArray, List.set_cons_zero, List.set_cons_succ]
            refine take_read (i := 12) (v := ?_) (by simp only [List.getElem?_toArray, List.getElem?_cons_succ, List.getElem?_cons_zero]; rfl) (by kernel_rfl) (by kernel_rfl) (by kernel_rfl) (fun _ _ _ h => h) hHeld ?_ ?_
            rotate_left
            · intro w hSw
              go_simp
              try with_reducible rfl
            try simp only [Act.put, List.setIfInBounds_toArray, List.set_cons_zero, List.set_cons_succ]
            refine take_read (i := 13) (v := ?_) (by simp only [List.getElem?_toArray, List.getElem?_cons_succ, List.getElem?_cons_zero]; rfl) (by kernel_rfl) (by kernel_rfl) (by kernel_rfl) (fun _ _ _ h => h) hHeld ?_ ?_
            rotate_left
            · intro w hSw
              go_simp
              try with_reducible rfl
            try simp only [Act.put, List.setIfInBounds_toArray, List.set_cons_zero, List.set_cons_succ]
            refine take_read (i := 14) (v := ?_) (by simp only [List.getElem?_toArray, List.getElem?_cons_succ, List.getElem?_cons_zero]; rfl) (by kernel_rfl) (by kernel_rfl) (by kernel_rfl) (fun _ _ _ h => h) hHeld ?_ ?_
            rotate_left
            · intro w hSw
              go_simp
              try with_reducible rfl
            try simp only [Act.put, List.setIfInBounds_toArray, List.set_cons_zero, List.set_cons_succ]
            refine take_read (i := 15) (v := ?_) (by simp only [List.getElem?_toArray, List.getElem?_cons_succ, List.getElem?_cons_zero]; rfl) (by kernel_rfl) (by kernel_rfl) (by kernel_rfl) (fun _ _ _ h => h) hHeld ?_ ?_
            rotate_left
            · intro w hSw
              go_simp
              try with_reducible rfl
            try simp only [Act.put, List.setIfInBounds_toArray, List.set_cons_zero, List.set_cons_succ]
            refine take_read (i := 16) (v := ?_) (by simp only [List.getElem?_toArray, List.getElem?_cons_succ, List.getElem?_cons_zero]; rfl) (by kernel_rfl) (by kernel_rfl) (by kernel_rfl) (fun _ _ _ h => h) hHeld ?_ ?_
            rotate_left
            · intro w hSw
              go_simp
              try with_reducible rfl
            try simp only [Act.put, List.setIfInBounds_toArray, List.set_cons_zero, List.set_cons_succ]
            refine take_read (i := 17) (v := ?_) (by simp only [List.getElem?_toArray, List.getElem?_cons_succ, List.getElem?_cons_zero]; rfl) (by kernel_rfl) (by kernel_rfl) (by kernel_rfl) (fun _ _ _ h => h) hHeld ?_ ?_
            rotate_left
            · intro w hSw
              go_simp
              try with_reducible rfl
            try simp only [Act.put, List.setIfInBounds_toArray, List.set_cons_zero, List.set_cons_succ]
            refine take_read (i := 18) (v := ?_) (by simp only [List.getElem?_toArray, List.getElem?_cons_succ, List.getElem?_cons_zero]; rfl) (by kernel_rfl) (by kernel_rfl) (by kernel_rfl) (fun _ _ _ h => h) hHeld ?_ ?_
            rotate_left
            · intro w hSw
              go_simp
              try with_reducible rfl
            try simp only [Act.put, List.setIfInBounds_toArray, List.set_cons_zero, List.set_cons_succ]
            refine take_read (i := 19) (v := ?_) (by simp only [List.getElem?_toArray, List.getElem?_cons_succ, List.getElem?_cons_zero]; rfl) (by kernel_rfl) (by kernel_rfl) (by kernel_rfl) (fun _ _ _ h => h) hHeld ?_ ?_
            rotate_left
            · intro w hSw
              go_simp
              try with_reducible rfl
            try simp only [Act.put, List.setIfInBounds_toArray, List.set_cons_zero, List.set_cons_succ]
            refine take_read (i := 20) (v := ?_) (by simp only [List.getElem?_toArray, List.getElem?_cons_succ, List.getElem?_cons_zero]; rfl) (by kernel_rfl) (by kernel_rfl) (by kernel_rfl) (fun _ _ _ h => h) hHeld ?_ ?_
            rotate_left
            · intro w hSw
              go_simp
              try with_reducible rfl
            try simp only [Act.put, List.setIfInBounds_toArray, List.set_cons_zero, List.set_cons_succ]
            refine take_read (i := 21) (v := ?_) (by simp only [List.getElem?_toArray, List.getElem?_cons_succ, List.getElem?_cons_zero]; rfl) (by kernel_rfl) (by kernel_rfl) (by kernel_rfl) (fun _ _ _ h => h) hHeld ?_ ?_
            rotate_left
            · intro w hSw
              go_simp
              try with_reducible rfl
            try simp only [Act.put, List.setIfInBounds_toArray, List.set_cons_zero, List.set_cons_succ]
            refine take_read (i := 22) (v := ?_) (by simp only [List.getElem?_toArray, List.getElem?_cons_succ, List.getElem?_cons_zero]; rfl) (by kernel_rfl) (by kernel_rfl) (by kernel_rfl) (fun _ _ _ h => h) hHeld ?_ ?_
            rotate_left
            · intro w hSw
              go_simp
              try with_reducible rfl
            try simp only [Act.put, List.setIfInBounds_toArray, List.set_cons_zero, List.set_cons_succ]
            refine take_read (i := 23) (v := ?_) (by simp only [List.getElem?_toArray, List.getElem?_cons_succ, List.getElem?_cons_zero]; rfl) (by kernel_rfl) (by kernel_rfl) (by kernel_rfl) (fun _ _ _ h => h) hHeld ?_ ?_
            rotate_left
            · intro w hSw
              go_simp
              try with_reducible rfl
            try simp only [Act.put, List.setIfInBounds_toArray, List.set_cons_zero, List.set_cons_succ]
            refine take_read (i := 24) (v := ?_) (by simp only [List.getElem?_toArray, List.getElem?_cons_succ, List.getElem?_cons_zero]; rfl) (by kernel_rfl) (by kernel_rfl) (by kernel_rfl) (fun _ _ _ h => h) hHeld ?_ ?_
            rotate_left
            · intro w hSw
              go_simp
              try with_reducible rfl
            try simp only [Act.put, List.setIfInBounds_toArray, List.set_cons_zero, List.set_cons_succ]
            refine take_read (i := 25) (v := ?_) (by simp only [List.getElem?_toArray, List.getElem?_cons_succ, List.getElem?_cons_zero]; rfl) (by kernel_rfl) (by kernel_rfl) (by kernel_rfl) (fun _ _ _ h => h) hHeld ?_ ?_
            rotate_left
            · intro w hSw
              go_simp
              try with_reducible rfl
            try simp only [Act.put, List.setIfInBounds_toArray, List.set_cons_zero, List.set_cons_succ]
            refine take_read (i := 26) (v := ?_) (by simp only [List.getElem?_toArray, List.getElem?_cons_succ, List.getElem?_cons_zero]; rfl) (by kernel_rfl) (by kernel_rfl) (by kernel_rfl) (fun _ _ _ h => h) hHeld ?_ ?_
            rotate_left
            · intro w hSw
              go_simp
              try with_reducible rfl
            try simp only [Act.put, List.setIfInBounds_toArray, List.set_cons_zero, List.set_cons_succ]
            refine wpAnyH_done (by kernel_rfl) ?_ _
            refine NoPanic.normal ?_
            go_wp2
            go_roundw
            case rel => exact ⟨k + 1, by omega, by go_num, H4.out, HB4.out⟩
            case measure => simp [intOf]; omega
          · have HLW := Lib.hid (HW3.out k hlt he)
            rw [← HNE.out] at HLW
            obtain ⟨hp1, hp2⟩ := par_odd k he
            have hq : (k : Int).tmod 2 = 1 := by rw [Int.tmod_eq_emod_of_nonneg (by omega)]; omega
            go_wp2_with fail
            refine wp_region_noPanic ?_
            refine wp_region_held_drew (S := fun w' => Chg [x] wr w') (by kernel_rfl) ((Chg.refl [x] wr).drew) (fun hHeld => ?_)
            refine take_read (i := 0) (v := ?_) (by simp only [List.getElem?_toArray, List.getElem?_cons_zero]; rfl) (by kernel_rfl) (by kernel_rfl) (by kernel_rfl) (fun _ _ _ h => h) hHeld ?_ ?_
            rotate_left
            · intro w hSw
              go_simp
              try with_reducible rfl
            try simp only [Act.put, List.setIfInBounds_toArray, List.set_cons_zero, List.set_cons_succ]
            refine take_read (i := 1) (v := ?_) (by simp only [List.getElem?_toArray, List.getElem?_cons_succ, List.getElem?_cons_zero]; rfl) (by kernel_rfl) (by kernel_rfl) (by kernel_rfl) (fun _ _ _ h => h) hHeld ?_ ?_
            rotate_left
            · intro w hSw
              go_simp
              try with_reducible rfl
            try simp only [Act.put, List.setIfInBounds_toArray, List.set_cons_zero, List.set_cons_succ]
            refine take_read (i := 2) (v := ?_) (by simp only [List.getElem?_toArray, List.getElem?_cons_succ, List.getElem?_cons_zero]; rfl) (by kernel_rfl) (by kernel_rfl) (by kernel_rfl) (fun _ _ _ h => h) hHeld ?_ ?_
            rotate_left
            · intro w hSw
              go_simp
              try with_reducible rfl
            try simp only [Act.put, List.setIfInBounds_toArray, List.set_cons_zero, List.set_cons_succ]
            refine take_read (i := 3) (v := ?_) (by simp only [List.getElem?_toArray, List.getElem?_cons_succ, List.getElem?_cons_zero]; rfl) (by kernel_rfl) (by kernel_rfl) (by kernel_rfl) (fun _ _ _ h => h) hHeld ?_ ?_
            rotate_left
            · intro w hSw
              go_simp
              try with_reducible rfl
            try simp only [Act.put, List.setIfInBounds_toArray, List.set_cons_zero, List.set_cons_succ]
            refine take_read (i := 4) (v := ?_) (by simp only [List.getElem?_toArray, List.getElem?_cons_succ, List.getElem?_cons_zero]; rfl) (by kernel_rfl) (by kernel_rfl) (by kernel_rfl) (fun _ _ _ h => h) hHeld ?_ ?_
            rotate_left
            · intro w hSw
              go_simp
              try with_reducible rfl
            try simp only [Act.put, List.setIfInBounds_toArray, List.set_cons_zero, List.set_cons_succ]
            refine take_read (i := 5) (v := ?_) (by simp only [List.getElem?_toArray, List.getElem?_cons_succ, List.getElem?_cons_zero]; rfl) (by kernel_rfl) (by kernel_rfl) (by kernel_rfl) (fun _ _ _ h => h) hHeld ?_ ?_
            rotate_left
            · intro w hSw
              go_simp
              try with_reducible rfl
            try simp only [Act.put, List.setIfInBounds_toArray, List.set_cons_zero, List.set_cons_succ]
            refine take_read (i := 6) (v := ?_) (by simp only [List.getElem?_toArray, List.getElem?_cons_succ, List.getElem?_cons_zero]; rfl) (by kernel_rfl) (by kernel_rfl) (by kernel_rfl) (fun _ _ _ h => h) hHeld ?_ ?_
            rotate_left
            · intro w hSw
              go_simp
              try with_reducible rfl
            try simp only [Act.put, List.setIfInBounds_toArray, List.set_cons_zero, List.set_cons_succ]
            refine take_read (i := 7) (v := ?_) (by simp only [List.getElem?_toArray, List.getElem?_cons_succ, List.getElem?_cons_zero]; rfl) (by kernel_rfl) (by kernel_rfl) (by kernel_rfl) (fun _ _ _ h => h) hHeld ?_ ?_
            rotate_left
            · intro w hSw
              go_simp
              try with_reducible rfl
            try simp only [Act.put, List.setIfInBounds_toArray, List.set_cons_zero, List.set_cons_succ]
            refine take_read (i := 8) (v := ?_) (by simp only [List.getElem?_toArray, List.getElem?_cons_succ, List.getElem?_cons_zero]; rfl) (by kernel_rfl) (by kernel_rfl) (by kernel_rfl) (fun _ _ _ h => h) hHeld ?_ ?_
            rotate_left
            · intro w hSw
              go_simp
              try with_reducible rfl
            try simp only [Act.put, List.setIfInBounds_toArray, List.set_cons_zero, List.set_cons_succ]
            refine take_read (i := 9) (v := ?_) (by simp only [List.getElem?_toArray, List.getElem?_cons_succ, List.getElem?_cons_zero]; rfl) (by kernel_rfl) (by kernel_rfl) (by kernel_rfl) (fun _ _ _ h => h) hHeld ?_ ?_
            rotate_left
            · intro w hSw
              go_simp
              try with_reducible rfl
            try simp only [Act.put, List.setIfInBounds_toArray, List.set_cons_zero, List.set_cons_succ]
            refine take_read (i := 10) (v := ?_) (by simp only [List.getElem?_toArray, List.getElem?_cons_succ, List.getElem?_cons_zero]; rfl) (by kernel_rfl) (by kernel_rfl) (by kernel_rfl) (fun _ _ _ h => h) hHeld ?_ ?_
            rotate_left
            · intro w hSw
              go_simp
              try with_reducible rfl
            try simp only [Act.put, List.setIfInBounds_toArray, List.set_cons_zero, List.set_cons_succ]
            refine take_read (i := 11) (v := ?_) (by simp only [List.getElem?_toArray, List.getElem?_cons_succ, List.getElem?_cons_zero]; rfl) (by kernel_rfl) (by kernel_rfl) (by kernel_rfl) (fun _ _ _ h => h) hHeld ?_ ?_
            rotate_left
            · intro w hSw
              go_simp
              try with_reducible rfl
            try simp only [Act.put, List.setIfInBounds_toArray, List.set_cons_zero, List.set_cons_succ]
            refine take_read (i := 12) (v := ?_) (by simp only [List.getElem?_toArray, List.getElem?_cons_succ, List.getElem?_cons_zero]; rfl) (by kernel_rfl) (by kernel_rfl) (by kernel_rfl) (fun _ _ _ h => h) hHeld ?_ ?_
            rotate_left
            · intro w hSw
              go_simp
              try with_reducible rfl
            try simp only [Act.put, List.setIfInBounds_toArray, List.set_cons_zero, List.set_cons_succ]
            refine take_read (i := 13) (v := ?_) (by simp only [List.getElem?_toArray, List.getElem?_cons_succ, List.getElem?_cons_zero]; rfl) (by kernel_rfl) (by kernel_rfl) (by kernel_rfl) (fun _ _ _ h => h) hHeld ?_ ?_
            rotate_left
            · intro w hSw
              go_simp
              try with_reducible rfl
            try simp only [Act.put, List.setIfInBounds_toArray, List.set_cons_zero, List.set_cons_succ]
            refine take_read (i := 14) (v := ?_) (by simp only [List.getElem?_toArray, List.getElem?_cons_succ, List.getElem?_cons_zero]; rfl) (by kernel_rfl) (by kernel_rfl) (by kernel_rfl) (fun _ _ _ h => h) hHeld ?_ ?_
            rotate_left
            · intro w hSw
              go_simp
              try with_reducible rfl
            try simp only [Act.put, List.setIfInBounds_toArray, List.set_cons_zero, List.set_cons_succ]
            refine take_read (i := 15) (v := ?_) (by simp only [List.getElem?_toArray, List.getElem?_cons_succ, List.getElem?_cons_zero]; rfl) (by kernel_rfl) (by kernel_rfl) (by kernel_rfl) (fun _ _ _ h => h) hHeld ?_ ?_
            rotate_left
            · intro w hSw
              go_simp
              try with_reducible rfl
            try simp only [Act.put, List.setIfInBounds_toArray, List.set_cons_zero, List.set_cons_succ]
            refine take_read (i := 16) (v := ?_) (by simp only [List.getElem?_toArray, List.getElem?_cons_succ, List.getElem?_cons_zero]; rfl) (by kernel_rfl) (by kernel_rfl) (by kernel_rfl) (fun _ _ _ h => h) hHeld ?_ ?_
            rotate_left
            · intro w hSw
              go_simp
              try with_reducible rfl
            try simp only [Act.put, List.setIfInBounds_toArray, List.set_cons_zero, List.set_cons_succ]
            refine take_read (i := 17) (v := ?_) (by simp only [List.getElem?_toArray, List.getElem?_cons_succ, List.getElem?_cons_zero]; rfl) (by kernel_rfl) (by kernel_rfl) (by kernel_rfl) (fun _ _ _ h => h) hHeld ?_ ?_
            rotate_left
            · intro w hSw
              go_simp
              try with_reducible rfl
            try simp only [Act.put, List.setIfInBounds_toArray, List.set_cons_zero, List.set_cons_succ]
            refine take_read (i := 19) (v := ?_) (by simp only [List.getElem?_toArray, List.getElem?_cons_succ, List.getElem?_cons_zero]; rfl) (by kernel_rfl) (by kernel_rfl) (by kernel_rfl) (fun _ _ _ h => h) hHeld ?_ ?_
            rotate_left
            · intro w hSw
              go_simp
              try with_reducible rfl
            try simp only [Act.put, List.setIfInBounds_toArray, List.set_cons_zero, List.set_cons_succ]
            refine take_read (i := 20) (v := ?_) (by simp only [List.getElem?_toArray, List.getElem?_cons_succ, List.getElem?_cons_zero]; rfl) (by kernel_rfl) (by kernel_rfl) (by kernel_rfl) (fun _ _ _ h => h) hHeld ?_ ?_
            rotate_left
            · intro w hSw
              go_simp
              try with_reducible rfl
            try simp only [Act.put, List.setIfInBounds_toArray, List.set_cons_zero, List.set_cons_succ]
            refine take_read (i := 21) (v := ?_) (by simp only [List.getElem?_toArray, List.getElem?_cons_succ, List.getElem?_cons_zero]; rfl) (by kernel_rfl) (by kernel_rfl) (by kernel_rfl) (fun _ _ _ h => h) hHeld ?_ ?_
            rotate_left
            · intro w hSw
              go_simp
              try with_reducible rfl
            try simp only [Act.put, List.setIfInBounds_toArray, List.set_cons_zero, List.set_cons_succ]
            refine take_read (i := 22) (v := ?_) (by simp only [List.getElem?_toArray, List.getElem?_cons_succ, List.getElem?_cons_zero]; rfl) (by kernel_rfl) (by kernel_rfl) (by kernel_rfl) (fun _ _ _ h => h) hHeld ?_ ?_
            rotate_left
            · intro w hSw
              have hcl := hcell w hSw
              go_simp
              try with_reducible rfl
            try simp only [Act.put, List.setIfInBounds_toArray, List.set_cons_zero, List.set_cons_succ]
            refine take_read (i := 23) (v := ?_) (by simp only [List.getElem?_toArray, List.getElem?_cons_succ, List.getElem?_cons_zero]; rfl) (by kernel_rfl) (by kernel_rfl) (by kernel_rfl) (fun _ _ _ h => h) hHeld ?_ ?_
            rotate_left
            · intro w hSw
              go_simp
              try with_reducible rfl
            try simp only [Act.put, List.setIfInBounds_toArray, List.set_cons_zero, List.set_cons_succ]
            refine wpAnyH_ready (rs := [18]) (by kernel_rfl) (by simp) ?_
            refine AllReadyH.cons rfl (fun K hK => ?_) AllReadyH.nil
            go_simp
            refine (Sleb_cur x _ _ HD.out.env HD.out.cur).mono ?_
            rintro e w4 ⟨rfl, hcx, hch⟩
            rw [HLW.out.1]
            rw [HLW.out.2] at hcx
            have H4 := Lib.hid (HD.out.call hcx hch)
            have hHk : Chg [x] wr w4 := ((Chg.refl [x] wr).drew).same hch
            have HB4 := Lib.hid (HB3.out.frame hHk (fun b hb hm => by
              rw [List.mem_singleton] at hm; have e : g = b := Option.some.inj hb; omega))
            clear hcx hch
            refine hK.out _ _ hHk (fun _ => ?_)
            clear hK hHeld K
            have hHeld := hHk
            try simp only [Act.put, List.setIfInBounds_toArray, List.set_cons_zero, List.set_cons_succ]
            refine take_read (i := 24) (v := ?_) (by simp only [List.getElem?_toArray, List.getElem?_cons_succ, List.getElem?_cons_zero]; rfl) (by kernel_rfl) (by kernel_rfl) (by kernel_rfl) (fun _ _ _ h => h) hHeld ?_ ?_
            rotate_left
            · intro w hSw
              go_simp
              try with_reducible rfl
            try simp only [Act.put, List.setIfInBounds_toArray, List.set_cons_zero, List.set_cons_succ]
            refine take_read (i := 25) (v := ?_) (by simp only [List.getElem?_toArray, List.getElem?_cons_succ, List.getElem?_cons_zero]; rfl) (by kernel_rfl) (by kernel_rfl) (by kernel_rfl) (fun _ _ _ h => h) hHeld ?_ ?_
            rotate_left
            · intro w hSw
              go_simp
              try with_reducible rfl
            try simp only [Act.put, List.setIfInBounds_toArray, List.set_cons_zero, List.set_cons_succ]
            refine take_read (i := 26) (v := ?_) (by simp only [List.getElem?_toArray, List.getElem?_cons_succ, List.getElem?_cons_zero]; rfl) (by kernel_rfl) (by kernel_rfl) (by kernel_rfl) (fun _ _ _ h => h) hHeld ?_ ?_
            rotate_left
            · intro w hSw
              go_simp
              try with_reducible rfl
            try simp only [Act.put, List.setIfInBounds_toArray, List.set_cons_zero, List.set_cons_succ]
            refine wpAnyH_done (by kernel_rfl) ?_ _
            refine NoPanic.normal ?_
            go_wp2
            go_roundw
            case rel => exact ⟨k + 1, by omega, by go_num, H4.out, HB4.out⟩
            case measure => simp [intOf]; omega
        · obtain rfl : k = ns.length := by omega
          have hat : atL ns ns.length = B.length := by rw [HBB.out]; exact atL_all ns
          rw [hat] at H3
          clear HD hat
          go_wp2_with fail
          refine (Left_cur x _ _ H3.out.cur).mono ?_
          rintro e w4 ⟨rfl, hdr⟩
          have H4 := Lib.hid (H3.out.dr hdr)
          have HB4 := Lib.hid (HB3.out.pure ((Chg.refl [] _).dr hdr))
          clear hdr
          simp only [Int.sub_self]
          go_wp2_with fail
          refine (Err_ok x _ _ H4.out.cur rfl).mono ?_
          rintro e w5 ⟨rfl, hch⟩
          have H5 := Lib.hid (H4.out.pure hch)
          have HB5 := Lib.hid (HB4.out.pure hch)
          clear hch
          have hz : ((B.length : Int) == 0) = false := by rw [beq_eq_false_iff_ne]; omega
          have HRT := Lib.hid (Rd_take (k := B.length - 1) HB5.out.rd (by omega))
          rw [← List.dropLast_eq_take] at HRT
          have hcast : ((B.length : Int) - 1) = ((B.length - 1 : Nat) : Int) := by omega
          clear HB4 HB5 HB3 H4 H3 HW2 HW3
          go_wp2_with fail
          refine (New_cur _ B.dropLast false _ HRT.out (by rw [List.length_dropLast]; omega)).mono ?_
          rintro e w6 ⟨d, rfl, hd, hcd, hch⟩
          have H6 := Lib.hid (H5.out.new hch hcd hd)
          have HD0 : Hid (Curs w w6 [(d, cutS ns 0)]) := Lib.hid (by rw [cut_zero ns (List.length_pos_iff.1 h0), ← HBB.out]; exact H6.out.swap.tail)
          clear H5 H6 hd hcd hch HRT
          go_wp2_with fail
          go_loopw [8] (fun s8 wr => ∃ k : Nat, k ≤ ns.length ∧ s8 = .int .i64 (k : Int) ∧ Curs w wr [(d, cutS ns k)]) (fun s8 _ => ns.length - (intOf s8).toNat)
          case atStart => exact ⟨0, Nat.zero_le _, rfl, HD0.out⟩
          case round =>
            obtain ⟨k, hk, rfl, hcs⟩ := hrel
            have H7 := Lib.hid hcs
            clear hcs HD0
            by_cases hlt : k < ns.length
            · by_cases he : k % 2 = 0
              · have HLS := Lib.hid (cut_u ns HN.out k hlt he)
                obtain ⟨hp1, hp2⟩ := par_even k he
                go_wp2_with fail
                refine (Uleb_cur d _ _ H7.out.env H7.out.cur).mono ?_
                rintro e w8 ⟨rfl, hcx, hch⟩
                rw [HLS.out] at hcx
                have H8 := Lib.hid (H7.out.call hcx hch)
                clear hcx hch
                go_wp2
                go_roundw
                case rel => exact ⟨k + 1, by omega, by go_num, H8.out⟩
                case measure => simp [intOf]; omega
              · have HLS := Lib.hid (cut_s ns HN.out k hlt he)
                obtain ⟨hp1, hp2⟩ := par_odd k he
                go_wp2_with fail
                refine (Sleb_cur d _ _ H7.out.env H7.out.cur).mono ?_
                rintro e w8 ⟨rfl, hcx, hch⟩
                rw [HLS.out] at hcx
                have H8 := Lib.hid (H7.out.call hcx hch)
                clear hcx hch
                go_wp2
                go_roundw
                case rel => exact ⟨k + 1, by omega, by go_num, H8.out⟩
                case measure => simp [intOf]; omega
            · obtain rfl : k = ns.length := by omega
              go_wp2_with fail
              refine (Err_bad d _ _ H7.out.env H7.out.cur (cut_end ns)).mono ?_
              rintro e w8 ⟨rfl, hch⟩
              have H8 := Lib.hid (H7.out.pure hch)
              clear hch
              go_wp2_with fail
              refine (known_ok _ H8.out.env).mono ?_
              rintro e wk ⟨rfl, hc⟩
              have HZ := Lib.hid (H8.out.chg.then hc)
              clear hc
              go_wp2
              go_ret
              exact ⟨rfl, HZ.out⟩
theorem LebRows_nil (a : Option Addr) (cap : Nat) (w : World) (hg : Env w) :
    Calls Tryd.prog 8 #[.slice a 0 cap] w fun e w' => e = .returned (.bool true) ∧ Chg [] w w' := by
  have HG := Lib.hid hg
  clear hg
  go_enter Tryd.func8, Tryd.ntmps8
  go_wp2_with fail
  go_loopw [3, 4] (fun s3 s4 wr => s3 = .slice none 0 0 ∧ s4 = .int .i64 0 ∧ Env wr ∧ Chg [] w wr) (fun _ _ _ => 0)
  case atStart => exact ⟨rfl, rfl, HG.out, Chg.refl _ _⟩
  case round =>
    obtain ⟨rfl, rfl, he, hch⟩ := hrel
    have HE := Lib.hid he
    have HCH := Lib.hid hch
    clear he hch
    go_wp2_with fail
    refine (New_cur _ [] false _ (Rd.nil _) (by simp)).mono ?_
    rintro e w2 ⟨x, rfl, hx, hcx, hch⟩
    have H2 := Lib.hid (((Curs.start HG.out).pure HCH.out).new hch hcx hx)
    clear hcx hch hx
    go_wp2_with fail
    go_loopw [6] (fun s6 wr => s6 = .int .i64 0 ∧ Curs w wr [(x, ⟨[], 0, false, false⟩)]) (fun _ _ => 0)
    case atStart => exact ⟨rfl, H2.out⟩
    case round =>
      obtain ⟨rfl, hcs⟩ := hrel
      have H3 := Lib.hid hcs
      clear hcs H2
      go_wp2_with fail
      refine (Left_cur x _ _ H3.out.cur).mono ?_
      rintro e w4 ⟨rfl, hdr⟩
      have H4 := Lib.hid (H3.out.dr hdr)
      clear hdr
      simp only [List.length_nil]
      go_wp2_with fail
      refine (Err_ok x _ _ H4.out.cur rfl).mono ?_
      rintro e w5 ⟨rfl, hch⟩
      have H5 := Lib.hid (H4.out.pure hch)
      clear hch
      go_wp2_with fail
      refine (known_ok _ H5.out.env).mono ?_
      rintro e wk ⟨rfl, hc⟩
      have HZ := Lib.hid (H5.out.chg.then hc)
      clear hc
      go_wp2
      go_ret
      exact ⟨rfl, HZ.out⟩
theorem LebRows_out (n : Nat) (a : Option Addr) (cap : Nat) (w : World) (hg : Env w) (h : 120 < n) :
    Calls Tryd.prog 8 #[.slice a n cap] w fun e w' => e = .returned (.bool true) ∧ Chg [] w w' := by
  have HG := Lib.hid hg
  clear hg
  go_enter Tryd.func8, Tryd.ntmps8
  go_wp2_with fail
  refine (known_ok w HG.out).mono ?_
  rintro e w1 ⟨rfl, hc⟩
  have HC := Lib.hid hc
  clear hc
  go_wp2
  go_ret
  exact ⟨rfl, HC.out⟩
theorem nats_of (zs : List Int) (h : ∀ n ∈ zs, (Lit.int .u64 n).wf = true) : ∃ ns : List Nat, zs = ns.map (fun n : Nat => (n : Int)) ∧ ∀ n ∈ ns, n < 18446744073709551616 := by
  induction zs with
  | nil => exact ⟨[], rfl, fun _ h => by cases h⟩
  | cons z zs ih =>
    obtain ⟨ns, rfl, h2⟩ := ih (fun n hn => h n (List.mem_cons_of_mem _ hn))
    obtain ⟨n, rfl, h1⟩ := u64_nat z (h z (List.mem_cons_self ..))
    refine ⟨n :: ns, rfl, fun m hm => ?_⟩
    rcases List.mem_cons.1 hm with rfl | hm
    · exact h1
    · exact h2 m hm
theorem LebRows_walk (w : World) (hg : Env w) (zs : List Int) (a : Option Addr) (cap : Nat) (rd : Rd w (.slice a zs.length cap) (zs.map (Value.int .u64))) (hw : ∀ n ∈ zs, (Lit.int .u64 n).wf = true) :
    Calls Tryd.prog 8 #[.slice a zs.length cap] w fun e w' => e = .returned (.bool true) ∧ Chg [] w w' := by
  obtain ⟨ns, rfl, hn⟩ := nats_of zs hw
  rw [List.length_map] at *
  by_cases h : 120 < ns.length
  · exact LebRows_out _ a cap w hg h
  · rcases Nat.eq_zero_or_pos ns.length with h0 | h0
    · rw [h0]; exact LebRows_nil a cap w hg
    · obtain ⟨a', n', cap', he, _, _, _, hx⟩ := rd
      cases he
      obtain ⟨b, off, rfl, hc⟩ := hx (by intro e; simp at e; rw [e] at h0; exact absurd h0 (by simp))
      refine LebRows_in ns hn b off cap w (fun j hj => ?_) hg h0 (by omega)
      rw [hc j (by simpa using hj)]
      simp [List.getD_eq_getElem?_getD, hj]
end Go.Proofs.YtpodphfdoonidaaDoor
