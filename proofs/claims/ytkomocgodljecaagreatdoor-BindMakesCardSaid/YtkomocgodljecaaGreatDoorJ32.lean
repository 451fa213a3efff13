/- Lemmas, laid together: part 32 of 40. Conditions: none but each lemma's own. -/
import Derived.Test.YtkomocgodljecaaGreatDoorJ28
import Derived.Test.YtkomocgodljecaaGreatDoorJ29
import Derived.Test.YtkomocgodljecaaGreatDoorJ31
/- clevisref14.May, of any fixups. -/
namespace Go.Proofs.YtkomocgodljecaaGreatDoor
open Go.RowKit
set_option maxRecDepth 100000

set_option linter.unusedSimpArgs false in
set_option maxHeartbeats 8000000 in
theorem RMay14_any (m : Img) (K : Int) (nd : Nat) (hnd : m.deps.n = nd) (segs : List Seg) (hls : SegsB segs) (s : List Fx) (hr : ∀ f ∈ s, 0 ≤ f.at_ ∧ f.at_ < 18446744073709551616) (a : Option Addr) (cap : Nat) (w : World) (rd : segL.Rd w m.segs.v segs) (hl : fxl.Rd w (.slice a s.length cap) s) :
    Calls Tryz.prog 19 #[imgL.val m, .int .i64 K, .slice a s.length cap] w fun e w' => e = .returned (.int .i64 (mayBE K nd segs s)) ∧ Chg [] w w' := by
  have HME := Lib.hid (fun w rd => RMeet_any s (.slice a s.length cap) w rd hr)
  have HWR := Lib.hid (fun (A : Int) h w rd => rWritable_any m segs hls A 8 h w rd)
  have HMA := Lib.hid (RMay12_any)
  have HLC : Hid (s.length ≤ 9223372036854775807) := by
    refine Lib.hid ?_
    obtain ⟨_, _, _, h1, h2⟩ := hl.shape
    omega
  by_cases qk : K = 1 ∨ K = 2 ∨ K = 3
  case neg =>
    rw [show mayBE K nd segs s = 2 by unfold mayBE; rw [if_pos (by omega)]]
    have k1 : (K == 1) = false := by rw [beq_eq_false_iff_ne]; omega
    have k2 : (K == 2) = false := by rw [beq_eq_false_iff_ne]; omega
    have k3 : (K == 3) = false := by rw [beq_eq_false_iff_ne]; omega
    have k1b : (K != 1) = true := by rw [bne, k1]; rfl
    have k2b : (K != 2) = true := by rw [bne, k2]; rfl
    have k3b : (K != 3) = true := by rw [bne, k3]; rfl
    have HRD := Lib.hid rd
    have HL := Lib.hid hl
    have Qk := Lib.hid qk
    clear rd hl qk
    go_enter Tryz.func19, Tryz.ntmps19
    go_wp2_with ((with_reducible refine Lay.bxL (L := imgL) 30 m ?_ ?_); exact rfl; intro W1 bi ebi cbi xbi; replace ebi := Lib.hid ebi; replace cbi := Lib.hid cbi; replace xbi := Lib.hid xbi; refine Hid.out ?_)
    refine Lib.hid ?_
    go_wp2
    go_ret
    exact ⟨rfl, cbi.out⟩
  cases q3 : meetF s with
  | true =>
    rw [show mayBE K nd segs s = 2 by unfold mayBE; rw [if_pos (.inr (.inr q3))]]
    rw [q3] at HME
    have HRD := Lib.hid rd
    have HL := Lib.hid hl
    have Q3 := Lib.hid q3
    clear rd hl q3
    rcases qk with rfl | rfl | rfl
    all_goals
      go_enter Tryz.func19, Tryz.ntmps19
      go_wp2_with ((with_reducible refine Lay.bxL (L := imgL) 30 m ?_ ?_); exact rfl; intro W1 bi ebi cbi xbi; replace ebi := Lib.hid ebi; replace cbi := Lib.hid cbi; replace xbi := Lib.hid xbi; refine Hid.out ?_)
      refine Lib.hid ?_
      go_wp2_with fail
      refine (HME.out _ (fx_ofL (HL.out.frame cbi.out))).mono ?_
      rintro e W2 ⟨rfl, h2⟩
      have H2 := Lib.hid h2
      clear h2
      go_wp2
      go_ret
      exact ⟨rfl, cbi.out.then H2.out⟩
  | false =>
    rw [q3] at HME
    have hm0 : mayBE K nd segs s = if s.any (badB K) then 2 else if s.any (fun f => decide ((nd : Int) < f.ord)) then 22 else if 20000 < s.length then 11 else if s.any (fun f => !writS segs f.at_ 8) then 19 else 0 := by
      unfold mayBE
      rw [if_neg (by rw [q3]; simp; omega)]
    rw [hm0]
    obtain ⟨E, hE⟩ : ∃ E, E = (if s.any (badB K) then 2 else if s.any (fun f => decide ((nd : Int) < f.ord)) then 22 else if 20000 < s.length then 11 else if s.any (fun f => !writS segs f.at_ 8) then 19 else 0 : Int) := ⟨_, rfl⟩
    rw [← hE]
    have HRD := Lib.hid rd
    have HL := Lib.hid hl
    have Hm0 := Lib.hid hm0
    have HE := Lib.hid hE
    have Q3 := Lib.hid q3
    clear rd hl hm0 hE q3
    go_enter Tryz.func19, Tryz.ntmps19
    go_wp2_with ((with_reducible refine Lay.bxL (L := imgL) 30 m ?_ ?_); exact rfl; intro W1 bi ebi cbi xbi; replace ebi := Lib.hid ebi; replace cbi := Lib.hid cbi; replace xbi := Lib.hid xbi; refine Hid.out ?_)
    refine Lib.hid ?_
    go_upto_region 1 with fail
    go_cut [23] (fun s23 wx => s23 = .bool false ∧ Chg [] W1 wx)
    case first =>
      rcases qk with rfl | rfl | rfl
      all_goals
        go_wp2_with fail
        refine (HME.out _ (fx_ofL (HL.out.frame cbi.out))).mono ?_
        rintro e W2 ⟨rfl, h2⟩
        have H2 := Lib.hid h2
        clear h2
        go_wp2_with fail
        go_meet
        exact ⟨rfl, H2.out⟩
    case rest =>
    obtain ⟨rfl, h2⟩ := hcut
    obtain ⟨W2, rfl⟩ : ∃ W, W = wc := ⟨_, rfl⟩
    have C2 : Hid (Chg [] W1 W2) := Lib.hid (h2)
    clear h2
    have Qk := Lib.hid qk
    clear qk
    go_wp2_with fail
    go_loopw [7] (fun s7 wr => ∃ k : Nat, k ≤ s.length ∧ s7 = .int .i64 (k : Int) ∧ (s.take k).any (badB K) = false ∧ Chg [] W1 wr) (fun s7 _ => s.length - (intOf s7).toNat)
    case atStart => exact ⟨0, Nat.zero_le _, rfl, rfl, C2.out⟩
    case round =>
      obtain ⟨k, hk, rfl, hbad, hc⟩ := hrel
      have CW := Lib.hid hc
      have Hbad := Lib.hid hbad
      clear hc hbad
      by_cases hlt : k < s.length
      · obtain ⟨g, off, hao, _, hIn⟩ := HL.out.at (by omega)
        cases hao
        obtain ⟨x, hx⟩ : ∃ x, x = s.getD k fxl.d := ⟨_, rfl⟩
        have hI := ((hIn k hlt).frame cbi.out).frame CW.out
        have hxs : x ∈ s := by rw [hx]; exact getD_mem hlt
        have htk : s.take (k + 1) = s.take k ++ [x] := by rw [hx]; exact take_snocF hlt
        have dlt : decide ((k : Int) < (s.length : Int)) = true := decide_eq_true (by omega)
        have dlt' : decide (k < s.length) = true := decide_eq_true hlt
        have hw1 : wrap64 ((k : Int) + 1) = (k : Int) + 1 := by have := HLC.out; unfold wrap64; omega
        rw [← hx] at hI
        have y0 : wr.cell? ⟨g, off + k * 7, none⟩ = some (.int .u64 x.at_) := by have := hI 0 (by decide); rw [Nat.add_zero] at this; exact this
        have y1 : wr.cell? ⟨g, off + k * 7 + 1, none⟩ = some (.int .i64 x.kind) := hI 1 (by decide)
        have y3 : wr.cell? ⟨g, off + k * 7 + 3, none⟩ = some (.int .i64 x.ord) := hI 3 (by decide)
        have HI := Lib.hid hI
        have Hx := Lib.hid hx
        have HIN := Lib.hid hIn
        clear hI hx hIn
        by_cases c1 : x.kind = 2
        · rw [c1] at y1
          have hma := HMA.out x
          cases c2 : mayFx x with
          | false =>
            rw [c2] at hma
            have hEr : E = 2 := by
              rw [HE.out, if_pos]
              rw [List.any_eq_true]
              exact ⟨x, hxs, by unfold badB; rw [c2]; simp⟩
            have Hma := Lib.hid hma
            clear hma
            go_wp2_with ((with_reducible refine Lay.ldG2 Tryz.tFx x (HI.out) ?_ ?_ ?_); exact rfl; exact rfl; refine Hid.out ?_)
            refine Lib.hid ?_
            go_wp2_with fail
            refine (Hma.out _).mono ?_
            rintro e W5 ⟨rfl, h5⟩
            have C5 := Lib.hid (CW.out.then h5)
            clear h5
            go_wp2
            go_ret
            exact ⟨by rw [hEr]; rfl, cbi.out.then C5.out⟩
          | true =>
            rw [c2] at hma
            have Hma := Lib.hid hma
            clear hma
            by_cases c3 : K = 2
            · have e3 : (K == 2) = true := by simpa using c3
              by_cases c4 : x.ord = -3
              · have e4 : (x.ord == -3) = true := by simpa using c4
                have hbx : badB K x = false := by unfold badB; rw [c2, c1, c4]; simp
                have C3K := Lib.hid c3
                have C4K := Lib.hid c4
                clear c3 c4
                go_wp2_with ((with_reducible refine Lay.ldG2 Tryz.tFx x (HI.out) ?_ ?_ ?_); exact rfl; exact rfl; refine Hid.out ?_)
                refine Lib.hid ?_
                go_wp2_with fail
                refine (Hma.out _).mono ?_
                rintro e W5 ⟨rfl, h5⟩
                have C5 := Lib.hid (h5)
                replace y3 := h5.cell y3 (by simp)
                clear h5
                have hnx : (s.take (k + 1)).any (badB K) = false := by
                  have h0 := Hbad.out
                  rw [htk, List.any_append, h0, Bool.false_or]
                  show ((badB K) x || false) = false
                  exact Bool.or_eq_false_iff.2 ⟨hbx, rfl⟩
                have Hnx := Lib.hid hnx
                have Hbx := Lib.hid hbx
                have Htk := Lib.hid htk
                clear hnx hbx htk
                go_wp2
                go_roundw
                case rel => exact ⟨k + 1, hlt, by first | rfl | exact congrArg (Value.int .i64) hw1 | go_num, Hnx.out, CW.out.then C5.out⟩
                case measure => first | exact meas_v hlt | exact meas_w hw1 hlt
              · have e4 : (x.ord == -3) = false := by simpa using c4
                have hEr : E = 2 := by
                  rw [HE.out, if_pos]
                  rw [List.any_eq_true]
                  exact ⟨x, hxs, by unfold badB; rw [decide_eq_true c3, decide_eq_true c4]; simp⟩
                have C3K := Lib.hid c3
                have C4K := Lib.hid c4
                clear c3 c4
                go_wp2_with ((with_reducible refine Lay.ldG2 Tryz.tFx x (HI.out) ?_ ?_ ?_); exact rfl; exact rfl; refine Hid.out ?_)
                refine Lib.hid ?_
                go_wp2_with fail
                refine (Hma.out _).mono ?_
                rintro e W5 ⟨rfl, h5⟩
                have C5 := Lib.hid (CW.out.then h5)
                replace y3 := h5.cell y3 (by simp)
                clear h5
                go_wp2
                go_ret
                exact ⟨by rw [hEr]; rfl, cbi.out.then C5.out⟩
            · have e3 : (K == 2) = false := by simpa using c3
              have hbx : badB K x = false := by unfold badB; rw [c2, c1, decide_eq_false c3]; simp
              have C3K := Lib.hid c3
              clear c3
              go_wp2_with ((with_reducible refine Lay.ldG2 Tryz.tFx x (HI.out) ?_ ?_ ?_); exact rfl; exact rfl; refine Hid.out ?_)
              refine Lib.hid ?_
              go_wp2_with fail
              refine (Hma.out _).mono ?_
              rintro e W5 ⟨rfl, h5⟩
              have C5 := Lib.hid (h5)
              replace y3 := h5.cell y3 (by simp)
              clear h5
              have hnx : (s.take (k + 1)).any (badB K) = false := by
                have h0 := Hbad.out
                rw [htk, List.any_append, h0, Bool.false_or]
                show ((badB K) x || false) = false
                exact Bool.or_eq_false_iff.2 ⟨hbx, rfl⟩
              have Hnx := Lib.hid hnx
              have Hbx := Lib.hid hbx
              have Htk := Lib.hid htk
              clear hnx hbx htk
              go_wp2
              go_roundw
              case rel => exact ⟨k + 1, hlt, by first | rfl | exact congrArg (Value.int .i64) hw1 | go_num, Hnx.out, CW.out.then C5.out⟩
              case measure => first | exact meas_v hlt | exact meas_w hw1 hlt
        · have d1 : (x.kind == 2) = false := by simpa using c1
          have hEr : E = 2 := by
            rw [HE.out, if_pos]
            rw [List.any_eq_true]
            exact ⟨x, hxs, by unfold badB; rw [decide_eq_true c1, Bool.true_or]⟩
          go_wp2
          go_ret
          exact ⟨by rw [hEr]; rfl, cbi.out.then CW.out⟩
      · obtain rfl : k = s.length := by omega
        have dlt : decide ((s.length : Int) < (s.length : Int)) = false := decide_eq_false (by omega)
        have dlt' : decide (s.length < s.length) = false := decide_eq_false (by omega)
        have hb1 := Hbad.out
        rw [List.take_length] at hb1
        have hE2 := HE.out
        rw [if_neg (by rw [hb1]; decide)] at hE2
        clear HE Hbad
        have HE := Lib.hid hE2
        have Hb1 := Lib.hid hb1
        clear hE2 hb1
        go_wp2_with fail
        go_loopw [8] (fun s8 wr => ∃ k : Nat, k ≤ s.length ∧ s8 = .int .i64 (k : Int) ∧ (s.take k).any (fun f => decide ((nd : Int) < f.ord)) = false ∧ Chg [] W1 wr) (fun s8 _ => s.length - (intOf s8).toNat)
        case atStart => exact ⟨0, Nat.zero_le _, rfl, rfl, CW.out⟩
        case round =>
          clear hlt hk CW dlt dlt'
          obtain ⟨k, hk, rfl, hbad, hc⟩ := hrel
          have CW := Lib.hid hc
          have Hbad := Lib.hid hbad
          clear hc hbad
          by_cases hlt : k < s.length
          · obtain ⟨g, off, hao, _, hIn⟩ := HL.out.at (by omega)
            cases hao
            obtain ⟨x, hx⟩ : ∃ x, x = s.getD k fxl.d := ⟨_, rfl⟩
            have hI := ((hIn k hlt).frame cbi.out).frame CW.out
            have hxs : x ∈ s := by rw [hx]; exact getD_mem hlt
            have htk : s.take (k + 1) = s.take k ++ [x] := by rw [hx]; exact take_snocF hlt
            have dlt : decide ((k : Int) < (s.length : Int)) = true := decide_eq_true (by omega)
            have dlt' : decide (k < s.length) = true := decide_eq_true hlt
            have hw1 : wrap64 ((k : Int) + 1) = (k : Int) + 1 := by have := HLC.out; unfold wrap64; omega
            rw [← hx] at hI
            have y0 : wr.cell? ⟨g, off + k * 7, none⟩ = some (.int .u64 x.at_) := by have := hI 0 (by decide); rw [Nat.add_zero] at this; exact this
            have y1 : wr.cell? ⟨g, off + k * 7 + 1, none⟩ = some (.int .i64 x.kind) := hI 1 (by decide)
            have y3 : wr.cell? ⟨g, off + k * 7 + 3, none⟩ = some (.int .i64 x.ord) := hI 3 (by decide)
            have HI := Lib.hid hI
            have Hx := Lib.hid hx
            have HIN := Lib.hid hIn
            clear hI hx hIn
            have x5 := Img.c_deps (xbi.out.frame CW.out)
            rw [hnd] at x5
            have hkl : (k : Int) < (s.length : Int) := by omega
            go_upto_region 11 with fail
            refine wp_region_noPanic ?_
            refine wp_region_held_drew (S := fun w' => Chg [] wr w') (by kernel_rfl) ((Chg.refl _ _).drew) (fun hHeld => ?_)
            refine take_read (i := 0) (v := ?_) (by simp only [List.getElem?_toArray, List.getElem?_cons_zero]; rfl) (by kernel_rfl) (by kernel_rfl) (by kernel_rfl) (fun _ _ _ h => h) hHeld ?_ ?_
            rotate_left
            · intro w hSw
              go_simp
              try with_reducible rfl
            try simp only [Act.put, List.setIfInBounds_toArray, List.set_cons_zero, List.set_cons_succ]
            refine take_read (i := 1) (v := ?_) (by simp only [List.getElem?_toArray, List.getElem?_cons_succ, List.getElem?_cons_zero]; rfl) (by kernel_rfl) (by kernel_rfl) (by kernel_rfl) (fun _ _ _ h => h) hHeld ?_ ?_
            rotate_left
            · intro w hSw
              go_simp
              try with_reducible rfl
            try simp only [Act.put, List.setIfInBounds_toArray, List.set_cons_zero, List.set_cons_succ]
            refine take_read (i := 2) (v := ?_) (by simp only [List.getElem?_toArray, List.getElem?_cons_succ, List.getElem?_cons_zero]; rfl) (by kernel_rfl) (by kernel_rfl) (by kernel_rfl) (fun _ _ _ h => h) hHeld ?_ ?_
            rotate_left
            · intro w hSw
              go_simp
              try with_reducible rfl
            try simp only [Act.put, List.setIfInBounds_toArray, List.set_cons_zero, List.set_cons_succ]
            refine take_read (i := 3) (v := ?_) (by simp only [List.getElem?_toArray, List.getElem?_cons_succ, List.getElem?_cons_zero]; rfl) (by kernel_rfl) (by kernel_rfl) (by kernel_rfl) (fun _ _ _ h => h) hHeld ?_ ?_
            rotate_left
            · intro w hSw
              go_simp
              try with_reducible rfl
            try simp only [Act.put, List.setIfInBounds_toArray, List.set_cons_zero, List.set_cons_succ]
            refine take_read (i := 4) (v := ?_) (by simp only [List.getElem?_toArray, List.getElem?_cons_succ, List.getElem?_cons_zero]; rfl) (by kernel_rfl) (by kernel_rfl) (by kernel_rfl) (fun _ _ _ h => h) hHeld ?_ ?_
            rotate_left
            · intro w hSw
              have y3 := hSw.cell y3 (by simp)
              go_simp
              try with_reducible rfl
            try simp only [Act.put, List.setIfInBounds_toArray, List.set_cons_zero, List.set_cons_succ]
            refine take_read (i := 5) (v := ?_) (by simp only [List.getElem?_toArray, List.getElem?_cons_succ, List.getElem?_cons_zero]; rfl) (by kernel_rfl) (by kernel_rfl) (by kernel_rfl) (fun _ _ _ h => h) hHeld ?_ ?_
            rotate_left
            · intro w hSw
              go_simp
              try with_reducible rfl
            try simp only [Act.put, List.setIfInBounds_toArray, List.set_cons_zero, List.set_cons_succ]
            refine take_read (i := 6) (v := ?_) (by simp only [List.getElem?_toArray, List.getElem?_cons_succ, List.getElem?_cons_zero]; rfl) (by kernel_rfl) (by kernel_rfl) (by kernel_rfl) (fun _ _ _ h => h) hHeld ?_ ?_
            rotate_left
            · intro w hSw
              have x5 := hSw.cell x5 (by simp)
              go_simp
              try with_reducible rfl
            try simp only [Act.put, List.setIfInBounds_toArray, List.set_cons_zero, List.set_cons_succ]
            refine take_read (i := 7) (v := ?_) (by simp only [List.getElem?_toArray, List.getElem?_cons_succ, List.getElem?_cons_zero]; rfl) (by kernel_rfl) (by kernel_rfl) (by kernel_rfl) (fun _ _ _ h => h) hHeld ?_ ?_
            rotate_left
            · intro w hSw
              go_simp
              try with_reducible rfl
            try simp only [Act.put, List.setIfInBounds_toArray, List.set_cons_zero, List.set_cons_succ]
            refine take_read (i := 8) (v := ?_) (by simp only [List.getElem?_toArray, List.getElem?_cons_succ, List.getElem?_cons_zero]; rfl) (by kernel_rfl) (by kernel_rfl) (by kernel_rfl) (fun _ _ _ h => h) hHeld ?_ ?_
            rotate_left
            · intro w hSw
              go_simp
              try with_reducible rfl
            try simp only [Act.put, List.setIfInBounds_toArray, List.set_cons_zero, List.set_cons_succ]
            refine wpAnyH_done (by kernel_rfl) ?_ _
            refine NoPanic.normal ?_
            have C5 : Hid (Chg [] wr _) := Lib.hid (hHeld)
            clear hHeld y0 y1 y3 x5
            cases c1 : decide ((nd : Int) < x.ord) with
            | true =>
              have hEr : E = 22 := by
                rw [HE.out, if_pos]
                rw [List.any_eq_true]
                exact ⟨x, hxs, c1⟩
              go_wp2
              go_ret
              exact ⟨by rw [hEr]; rfl, cbi.out.then (CW.out.then C5.out)⟩
            | false =>
              have hbx : (fun f : Fx => decide ((nd : Int) < f.ord)) x = false := c1
              have hnx : (s.take (k + 1)).any (fun f : Fx => decide ((nd : Int) < f.ord)) = false := by
                have h0 := Hbad.out
                rw [htk, List.any_append, h0, Bool.false_or]
                show ((fun f : Fx => decide ((nd : Int) < f.ord)) x || false) = false
                exact Bool.or_eq_false_iff.2 ⟨hbx, rfl⟩
              have Hnx := Lib.hid hnx
              have Hbx := Lib.hid hbx
              have Htk := Lib.hid htk
              clear hnx hbx htk
              go_wp2
              go_roundw
              case rel => exact ⟨k + 1, hlt, by first | rfl | exact congrArg (Value.int .i64) hw1 | go_num, Hnx.out, CW.out.then C5.out⟩
              case measure => first | exact meas_v hlt | exact meas_w hw1 hlt
          · obtain rfl : k = s.length := by omega
            have dlt : decide ((s.length : Int) < (s.length : Int)) = false := decide_eq_false (by omega)
            have dlt' : decide (s.length < s.length) = false := decide_eq_false (by omega)
            have hb2 := Hbad.out
            rw [List.take_length] at hb2
            have hE3 := HE.out
            rw [if_neg (by rw [hb2]; decide)] at hE3
            clear HE Hbad
            have HE := Lib.hid hE3
            have Hb2 := Lib.hid hb2
            clear hE3 hb2
            by_cases c0 : 20000 < s.length
            · have d0' : decide ((20000 : Int) < (s.length : Int)) = true := decide_eq_true (by omega)
              have hEr : E = 11 := by rw [HE.out, if_pos c0]
              go_wp2
              go_ret
              exact ⟨by rw [hEr]; rfl, cbi.out.then CW.out⟩
            · have d0' : decide ((20000 : Int) < (s.length : Int)) = false := decide_eq_false (by omega)
              have hE4 := HE.out
              rw [if_neg c0] at hE4
              clear HE
              have HE := Lib.hid hE4
              clear hE4
              go_wp2_with fail
              go_loopw [9] (fun s9 wr => ∃ k : Nat, k ≤ s.length ∧ s9 = .int .i64 (k : Int) ∧ (s.take k).any (fun f => !writS segs f.at_ 8) = false ∧ Chg [] W1 wr) (fun s9 _ => s.length - (intOf s9).toNat)
              case atStart => exact ⟨0, Nat.zero_le _, rfl, rfl, CW.out⟩
              case round =>
                clear hlt hk CW dlt dlt'
                obtain ⟨k, hk, rfl, hbad, hc⟩ := hrel
                have CW := Lib.hid hc
                have Hbad := Lib.hid hbad
                clear hc hbad
                by_cases hlt : k < s.length
                · obtain ⟨g, off, hao, _, hIn⟩ := HL.out.at (by omega)
                  cases hao
                  obtain ⟨x, hx⟩ : ∃ x, x = s.getD k fxl.d := ⟨_, rfl⟩
                  have hI := ((hIn k hlt).frame cbi.out).frame CW.out
                  have hxs : x ∈ s := by rw [hx]; exact getD_mem hlt
                  have htk : s.take (k + 1) = s.take k ++ [x] := by rw [hx]; exact take_snocF hlt
                  have dlt : decide ((k : Int) < (s.length : Int)) = true := decide_eq_true (by omega)
                  have dlt' : decide (k < s.length) = true := decide_eq_true hlt
                  have hw1 : wrap64 ((k : Int) + 1) = (k : Int) + 1 := by have := HLC.out; unfold wrap64; omega
                  rw [← hx] at hI
                  have y0 : wr.cell? ⟨g, off + k * 7, none⟩ = some (.int .u64 x.at_) := by have := hI 0 (by decide); rw [Nat.add_zero] at this; exact this
                  have y1 : wr.cell? ⟨g, off + k * 7 + 1, none⟩ = some (.int .i64 x.kind) := hI 1 (by decide)
                  have y3 : wr.cell? ⟨g, off + k * 7 + 3, none⟩ = some (.int .i64 x.ord) := hI 3 (by decide)
                  have HI := Lib.hid hI
                  have Hx := Lib.hid hx
                  have HIN := Lib.hid hIn
                  clear hI hx hIn
                  have hkl : (k : Int) < (s.length : Int) := by omega
                  have hwr := fun w rd => HWR.out x.at_ (hr x hxs).2 w rd
                  obtain ⟨q, hq⟩ : ∃ q, q = writS segs x.at_ 8 := ⟨_, rfl⟩
                  rw [← hq] at hwr
                  have BIR := Lib.hid (xbi.out.frame CW.out)
                  have RDR := Lib.hid (HRD.out.frame (cbi.out.then CW.out))
                  have Hwr := Lib.hid hwr
                  have Hq := Lib.hid hq
                  clear hwr hq
                  go_upto_region 18 with fail
                  refine wp_region_noPanic ?_
                  refine wp_region_held_drew (S := fun w' => Chg [] wr w') (by kernel_rfl) ((Chg.refl _ _).drew) (fun hHeld => ?_)
                  refine take_read (i := 0) (v := ?_) (by simp only [List.getElem?_toArray, List.getElem?_cons_zero]; rfl) (by kernel_rfl) (by kernel_rfl) (by kernel_rfl) (fun _ _ _ h => h) hHeld ?_ ?_
                  rotate_left
                  · intro w hSw
                    refine Lay.read_ld Tryz.tImg ((BIR.out.frame hSw).in) ?_ ?_
                    exact rfl
                    exact rfl
                  try simp only [Act.put, List.setIfInBounds_toArray, List.set_cons_zero, List.set_cons_succ]
                  refine take_read (i := 1) (v := ?_) (by simp only [List.getElem?_toArray, List.getElem?_cons_succ, List.getElem?_cons_zero]; rfl) (by kernel_rfl) (by kernel_rfl) (by kernel_rfl) (fun _ _ _ h => h) hHeld ?_ ?_
                  rotate_left
                  · intro w hSw
                    go_simp
                    try with_reducible rfl
                  try simp only [Act.put, List.setIfInBounds_toArray, List.set_cons_zero, List.set_cons_succ]
                  refine take_read (i := 2) (v := ?_) (by simp only [List.getElem?_toArray, List.getElem?_cons_succ, List.getElem?_cons_zero]; rfl) (by kernel_rfl) (by kernel_rfl) (by kernel_rfl) (fun _ _ _ h => h) hHeld ?_ ?_
                  rotate_left
                  · intro w hSw
                    go_simp
                    try with_reducible rfl
                  try simp only [Act.put, List.setIfInBounds_toArray, List.set_cons_zero, List.set_cons_succ]
                  refine take_read (i := 3) (v := ?_) (by simp only [List.getElem?_toArray, List.getElem?_cons_succ, List.getElem?_cons_zero]; rfl) (by kernel_rfl) (by kernel_rfl) (by kernel_rfl) (fun _ _ _ h => h) hHeld ?_ ?_
                  rotate_left
                  · intro w hSw
                    go_simp
                    try with_reducible rfl
                  try simp only [Act.put, List.setIfInBounds_toArray, List.set_cons_zero, List.set_cons_succ]
                  refine take_read (i := 4) (v := ?_) (by simp only [List.getElem?_toArray, List.getElem?_cons_succ, List.getElem?_cons_zero]; rfl) (by kernel_rfl) (by kernel_rfl) (by kernel_rfl) (fun _ _ _ h => h) hHeld ?_ ?_
                  rotate_left
                  · intro w hSw
                    go_simp
                    try with_reducible rfl
                  try simp only [Act.put, List.setIfInBounds_toArray, List.set_cons_zero, List.set_cons_succ]
                  refine take_read (i := 5) (v := ?_) (by simp only [List.getElem?_toArray, List.getElem?_cons_succ, List.getElem?_cons_zero]; rfl) (by kernel_rfl) (by kernel_rfl) (by kernel_rfl) (fun _ _ _ h => h) hHeld ?_ ?_
                  rotate_left
                  · intro w hSw
                    have y0 := hSw.cell y0 (by simp)
                    go_simp
                    try with_reducible rfl
                  try simp only [Act.put, List.setIfInBounds_toArray, List.set_cons_zero, List.set_cons_succ]
                  refine wpAnyH_ready (rs := [6]) (by kernel_rfl) (by simp) ?_
                  refine AllReadyH.cons rfl (fun K hK => ?_) AllReadyH.nil
                  go_simp
                  refine (Hwr.out _ (RDR.out.frame hHeld)).mono ?_
                  rintro e W6 ⟨rfl, hc⟩
                  have A6 := Lib.hid (hHeld.then hc)
                  clear hc
                  refine hK.out _ _ A6.out (fun hHeld2 => ?_)
                  clear hK hHeld K
                  have hHeld := hHeld2
                  clear hHeld2
                  try (unfold Act.put; simp only [List.setIfInBounds_toArray, List.set_cons_zero, List.set_cons_succ])
                  refine take_read (i := 7) (v := ?_) (by simp only [List.getElem?_toArray, List.getElem?_cons_succ, List.getElem?_cons_zero]; rfl) (by kernel_rfl) (by kernel_rfl) (by kernel_rfl) (fun _ _ _ h => h) hHeld ?_ ?_
                  rotate_left
                  · intro w hSw
                    go_simp
                    try with_reducible rfl
                  try simp only [Act.put, List.setIfInBounds_toArray, List.set_cons_zero, List.set_cons_succ]
                  refine wpAnyH_done (by kernel_rfl) ?_ _
                  refine NoPanic.normal ?_
                  have C5 := Lib.hid (A6.out)
                  clear hHeld y0 y1 y3
                  cases q with
                  | false =>
                    have hEr : E = 19 := by
                      rw [HE.out, if_pos]
                      rw [List.any_eq_true]
                      exact ⟨x, hxs, by rw [← Hq.out]; rfl⟩
                    go_wp2
                    go_ret
                    exact ⟨by rw [hEr]; rfl, cbi.out.then (CW.out.then C5.out)⟩
                  | true =>
                    have hbx : (fun f : Fx => !writS segs f.at_ 8) x = false := by dsimp only; rw [← Hq.out]; rfl
                    have hnx : (s.take (k + 1)).any (fun f : Fx => !writS segs f.at_ 8) = false := by
                      have h0 := Hbad.out
                      rw [htk, List.any_append, h0, Bool.false_or]
                      show ((fun f : Fx => !writS segs f.at_ 8) x || false) = false
                      exact Bool.or_eq_false_iff.2 ⟨hbx, rfl⟩
                    have Hnx := Lib.hid hnx
                    have Hbx := Lib.hid hbx
                    have Htk := Lib.hid htk
                    clear hnx hbx htk
                    go_wp2
                    go_roundw
                    case rel => exact ⟨k + 1, hlt, by first | rfl | exact congrArg (Value.int .i64) hw1 | go_num, Hnx.out, CW.out.then C5.out⟩
                    case measure => first | exact meas_v hlt | exact meas_w hw1 hlt
                · obtain rfl : k = s.length := by omega
                  have dlt : decide ((s.length : Int) < (s.length : Int)) = false := decide_eq_false (by omega)
                  have dlt' : decide (s.length < s.length) = false := decide_eq_false (by omega)
                  have hb3 := Hbad.out
                  rw [List.take_length] at hb3
                  have hEr : E = 0 := by rw [HE.out, if_neg (by rw [hb3]; decide)]
                  have Hb3 := Lib.hid hb3
                  clear hb3
                  go_wp2
                  go_ret
                  exact ⟨by rw [hEr]; rfl, cbi.out.then CW.out⟩
end Go.Proofs.YtkomocgodljecaaGreatDoor
