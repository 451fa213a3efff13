/- The document's Make of layer 4. -/
import Derived.Test.YtchkombikjcokaaDoorGet
import Derived.Test.YtchkombikjcokaaDoorMake
namespace Go.Proofs.YtchkombikjcokaaDoor
open Go.RowKit
set_option maxRecDepth 100000

theorem CRMake_kind (sub kind : Int) (fl : Int) (v : Value) (w : World) (h : kindB sub kind = false) :
    Calls Tryd.prog 28 #[.agg #[.int .i64 sub, .int .i64 kind, .int .u32 fl], v] w fun e w' => e = .returned (.tuple #[.slice none 0 0, .int .i64 2]) ∧ Chg [] w w' := by
  by_cases hs : sub = 0 ∨ sub = 2
  · have hk : ¬ (kind = 2 ∨ kind = 6) := fun hk => by simp [kindB, hs, hk] at h
    have k1 : (kind != 2) = true := by rw [bne_iff_ne]; omega
    have k2 : (kind != 6) = true := by rw [bne_iff_ne]; omega
    clear h hk
    rcases hs with rfl | rfl
    all_goals
      go_enter Tryd.func28, Tryd.ntmps28
      go_wp2
      go_ret2
      exact ⟨rfl, (Chg.refl _ _).alloc _⟩
  · have k1 : (sub != 0) = true := by rw [bne_iff_ne]; omega
    have k2 : (sub != 2) = true := by rw [bne_iff_ne]; omega
    clear h hs
    go_enter Tryd.func28, Tryd.ntmps28
    go_wp2
    go_ret2
    exact ⟨rfl, (Chg.refl _ _).alloc _⟩

set_option maxHeartbeats 2000000 in
theorem CRMake_0_2 (fl : Nat) (hfl : fl < 4294967296) (cs : List Cmd) (a : Option Addr) (cap : Nat) (w : World) (rd : CmdRd w (.slice a cs.length cap) cs) (hlen : cs.length ≤ 1048576) (hl : (catL cs).length ≤ 70368744177664) :
    Calls Tryd.prog 28 #[.agg #[.int .i64 0, .int .i64 2, .int .u32 fl], .slice a cs.length cap] w fun e w' => ∃ v, e = .returned (.tuple #[v, .int .i64 (makeE 0 2 cs)]) ∧
      (makeE 0 2 cs = 0 → Rd w' v (bytesV (makeL 0 2 fl cs))) ∧ (makeE 0 2 cs ≠ 0 → v = .slice none 0 0) ∧ Chg [] w w' := by
  obtain ⟨_, _, _, he, _, hc1, hc2, _⟩ := id rd
  cases he
  unfold maxLen at hc2
  have H : Hid (kindB 0 2 = true) := Lib.hid (rfl)
  have HR := Lib.hid rd
  clear rd
  go_enter Tryd.func28, Tryd.ntmps28
  go_wp2_with fail
  obtain ⟨w0, hw0⟩ : ∃ w0, w0 = w.alloc (.cells #[.int .i64 0, .int .i64 2, .int .u32 fl] 34) := ⟨_, rfl⟩
  obtain ⟨r, hr⟩ : ∃ r, r = w.heap.size := ⟨_, rfl⟩
  have HH : Hid (w0.heap[r]? = some (.cells #[.int .i64 0, .int .i64 2, .int .u32 fl] 34 (0, 0))) := Lib.hid (by rw [hw0, hr]; exact heap_alloc_eq _ _)
  have HW0 : Hid (Chg [] w w0) := Lib.hid (by rw [hw0]; exact (Chg.refl _ _).alloc _)
  rw [← hr, ← hw0]
  clear hw0 hr
  go_loopw [6, 7] (fun s6 s7 wr => ∃ k : Nat, k ≤ cs.length ∧ s7 = .int .i64 (k : Int) ∧ s6 = .int .i64 ((catL (cs.take k)).length : Nat) ∧ (∀ c ∈ cs.take k, mayB c.1 c.2 = true) ∧ Chg [] w0 wr) (fun _ s7 _ => cs.length - (intOf s7).toNat)
  case atStart => exact ⟨0, Nat.zero_le _, rfl, rfl, by simp, Chg.refl _ _⟩
  case round =>
    obtain ⟨k, hk, rfl, rfl, hall, hch⟩ := hrel
    have Hall := Lib.hid hall
    have Hch := Lib.hid hch
    clear hall hch
    by_cases hlt : k < cs.length
    · obtain ⟨a', n', cap', he, _, _, _, hx⟩ := HR.out
      cases he
      obtain ⟨b, off, rfl, hb, hcell⟩ := hx (by rintro rfl; simp at hlt)
      obtain ⟨h1, a2, cap2, h2, h3⟩ := hcell k hlt
      obtain ⟨c, hc⟩ : ∃ c, c = cs.getD k (0, []) := ⟨_, rfl⟩
      rw [← hc] at h1 h2 h3
      have hs := catL_snoc cs k hlt
      have hle := catL_get_le cs k hlt
      rw [← hc] at hs hle
      have hs' : (catL (cs.take (k + 1))).length = (catL (cs.take k)).length + c.2.length := by rw [hs, List.length_append]
      have HS := Lib.hid (hs')
      have HMEM : Hid (c ∈ cs) := Lib.hid (by rw [hc]; simp [List.getD_eq_getElem?_getD, hlt])
      have HCK : Hid (cs.take (k + 1) = cs.take k ++ [c]) := Lib.hid (by rw [List.take_succ_eq_append_getElem hlt, hc]; simp [List.getD_eq_getElem?_getD, hlt])
      have H1 := Lib.hid (h1)
      have H2 := Lib.hid (h2)
      have k1 := (HW0.out.then Hch.out).cell h1 (by simp)
      have k2 := (HW0.out.then Hch.out).cell h2 (by simp)
      have HR3 := Lib.hid (h3.frame (HW0.out.then Hch.out) (fun _ _ hm => by cases hm))
      clear h1 h2 h3 hcell hx hc hs hs'
      obtain ⟨m, l⟩ := c
      simp only at hle
      have hle2 : l.length ≤ 70368744177664 := by omega
      obtain ⟨T, hT⟩ : ∃ T, T = (catL (cs.take k)).length := ⟨_, rfl⟩
      rw [← hT] at HS hle
      rw [← hT]
      clear hT
      go_wp2_with fail
      clear k1 k2
      refine (RMay4_any m l a2 cap2 wr HR3.out hle2).mono ?_
      rintro e w4 ⟨rfl, hch4⟩
      have HC4 := Lib.hid (Hch.out.then hch4)
      clear hch4
      cases hmay : mayB m l with
      | false =>
        have HE : Hid (makeE 0 2 cs = 2) := by
          refine Lib.hid ?_
          unfold makeE
          rw [H.out, if_neg (by decide), if_pos]
          rw [List.all_eq_false]
          exact ⟨_, HMEM.out, by simpa using hmay⟩
        clear hmay
        go_wp2
        go_ret2
        rw [HE.out]
        exact ⟨_, rfl, fun h => absurd h (by decide), fun _ => rfl, HW0.out.then HC4.out⟩
      | true =>
        have HA5 : Hid (∀ c ∈ cs.take (k + 1), mayB c.1 c.2 = true) := by
          refine Lib.hid ?_
          rw [HCK.out]
          intro c hc
          rw [List.mem_append, List.mem_singleton] at hc
          rcases hc with hc | rfl
          · exact Hall.out c hc
          · exact hmay
        clear hmay
        have k2 := (HW0.out.then HC4.out).cell H2.out (by simp)
        go_wp2
        go_roundw
        case rel => exact ⟨k + 1, hlt, by go_num, by rw [HS.out]; push_cast; rfl, HA5.out, HC4.out⟩
        case measure => simp [intOf]; omega
    · obtain rfl : k = cs.length := by omega
      rw [List.take_length] at Hall
      rw [List.take_length]
      have HALL : Hid ((cs.all fun c => mayB c.1 c.2) = true) := Lib.hid (List.all_eq_true.2 Hall.out)
      obtain ⟨T, hT⟩ : ∃ T, T = (catL cs).length := ⟨_, rfl⟩
      rw [← hT] at hl
      rw [← hT]
      have HT := Lib.hid (hT)
      clear hT
      by_cases h1 : 256 < cs.length
      · have d1 : decide ((256 : Int) < cs.length) = true := by simp; omega
        have HE : Hid (makeE 0 2 cs = 11) := by
          refine Lib.hid ?_
          unfold makeE
          rw [H.out, if_neg (by decide), HALL.out, if_neg (by decide), if_pos (.inl h1)]
        go_wp2
        go_ret2
        rw [HE.out]
        exact ⟨_, rfl, fun h => absurd h (by decide), fun _ => rfl, HW0.out.then Hch.out⟩
      · have d1 : decide ((256 : Int) < cs.length) = false := by simp; omega
        by_cases h2 : 1048576 < 32 + T
        · have d2 : decide ((1048576 : Int) < 32 + T) = true := by simp; omega
          have HE : Hid (makeE 0 2 cs = 11) := by
            refine Lib.hid ?_
            unfold makeE
            rw [H.out, if_neg (by decide), HALL.out, if_neg (by decide), if_pos (.inr (by rw [← HT.out]; exact h2))]
          go_wp2
          go_ret2
          rw [HE.out]
          exact ⟨_, rfl, fun h => absurd h (by decide), fun _ => rfl, HW0.out.then Hch.out⟩
        · have d2 : decide ((1048576 : Int) < 32 + T) = false := by simp; omega
          have HE : Hid (makeE 0 2 cs = 0) := by
            refine Lib.hid ?_
            unfold makeE
            rw [H.out, if_neg (by decide), HALL.out, if_neg (by decide), if_neg (by rw [← HT.out]; omega)]
          have hh := Hch.out.heap HH.out (by simp)
          have c0 := cell_of_heap hh 0
          have c1 := cell_of_heap hh 1
          have c2 := cell_of_heap hh 2
          simp at c0 c1 c2
          clear hh
          go_wp2_with fail
          obtain ⟨ws, hws⟩ : ∃ ws : List Nat, ws = words 0 2 fl cs := ⟨_, rfl⟩
          obtain ⟨w5, hw5⟩ : ∃ w5, w5 = wr.alloc (.cells #[.int .i64 4277009103, .int .i64 16777228, .int .i64 0, .int .i64 2, .int .i64 cs.length, .int .i64 T, .int .i64 fl, .int .i64 0] 3) := ⟨_, rfl⟩
          obtain ⟨q, hq⟩ : ∃ q, q = wr.heap.size := ⟨_, rfl⟩
          have HQ : Hid (w5.heap[q]? = some (.cells (ws.map fun n : Nat => Value.int .i64 (n : Int)).toArray 3 (0, 0))) := by
            refine Lib.hid ?_
            rw [hw5, hq, hws]
            refine (heap_alloc_eq _ _).trans ?_
            unfold words
            rw [← HT.out]
            rfl
          have HWL : Hid (ws.length = 8) := Lib.hid (by rw [hws]; rfl)
          have HWB : Hid (∀ n ∈ ws, n < 4294967296) := by
            refine Lib.hid ?_
            rw [hws]
            unfold words
            rw [← HT.out]
            intro n hn
            simp only [List.mem_cons, List.not_mem_nil, or_false] at hn
            omega
          have HWS := Lib.hid (hws)
          have HW5 : Hid (Chg [] wr w5) := Lib.hid (by rw [hw5]; exact (Chg.refl _ _).alloc _)
          rw [← hq, ← hw5]
          clear hw5 hq hws c0 c1 c2
          have HB5 := Lib.hid (HW0.out.then (Hch.out.then HW5.out))
          obtain ⟨wo, rfl⟩ : ∃ wo, wo = wr := ⟨_, rfl⟩
          go_loopw [9, 10] (fun s9 s10 wl => ∃ j : Nat, j ≤ 8 ∧ s10 = .int .i64 (j : Int) ∧ Buf wl w5.heap.size s9 (headL (ws.take j)) ∧ Chg [] w5 wl) (fun _ s10 _ => 8 - (intOf s10).toNat)
          case atStart => exact ⟨0, by omega, rfl, Buf.nil _ _, Chg.refl _ _⟩
          case round =>
            obtain ⟨j, hj, rfl, hb9, hch9⟩ := hrel
            have H9 := Lib.hid (hb9)
            have HC9 := Lib.hid (hch9)
            clear hb9 hch9
            obtain ⟨wq, rfl⟩ : ∃ wq, wq = wr := ⟨_, rfl⟩
            by_cases hlt : j < 8
            · obtain ⟨n, hn⟩ : ∃ n, n = ws.getD j 0 := ⟨_, rfl⟩
              have hjw : j < ws.length := by rw [HWL.out]; exact hlt
              have hcell := cell_of_heap (HC9.out.heap HQ.out (by simp)) j
              have hcn : (ws.map fun n : Nat => Value.int .i64 (n : Int)).toArray[j]? = some (.int .i64 (n : Int)) := by rw [hn]; simp [List.getD_eq_getElem?_getD, hjw]
              rw [hcn] at hcell
              have HN : Hid (n < 4294967296) := Lib.hid (HWB.out n (by rw [hn]; simp [List.getD_eq_getElem?_getD, hjw]))
              have HS : Hid (headL (ws.take (j + 1)) = headL (ws.take j) ++ le4 n) := by
                refine Lib.hid ?_
                unfold headL
                rw [List.take_succ_eq_append_getElem hjw, List.flatMap_append, hn]
                simp [List.getD_eq_getElem?_getD, hjw]
              have HL9 : Hid ((headL (ws.take j)).length ≤ 70368744177664) := by
                refine Lib.hid ?_
                unfold headL
                have : ∀ l : List Nat, (l.flatMap le4).length = 4 * l.length := fun l => by
                  induction l with
                  | nil => rfl
                  | cons a l ih => simp only [List.flatMap_cons, List.length_append, ih, List.length_cons]; show 4 + _ = _; omega
                rw [this, List.length_take]
                omega
              clear hn hjw hcn
              go_wp2_with fail
              refine (CPut_any n HN.out wq).mono ?_
              rintro e wz ⟨vz, rfl, hrz, hcz⟩
              have HRZ := Lib.hid (hrz)
              have HCZ := Lib.hid (HC9.out.then hcz)
              have H9Z := Lib.hid (H9.out.pure hcz)
              clear hrz hcz
              go_wp2_with (at_builtin; refine app_buf rfl _ _ rfl w5.heap.size u9 (headL (ws.take j)) rfl H9Z.out _ rfl (le4 n) HRZ.out (by have := HL9.out; show _ + 4 ≤ _; omega) HCZ.out.size ?_; intro va wa hoa hga haa; refine Hid.out ?_)
              refine Lib.hid ?_
              have HBN : Hid (Buf wa w5.heap.size va (headL (ws.take (j + 1)))) := Lib.hid (by rw [HS.out]; exact hoa)
              have HCN : Hid (Chg [] w5 wa) := Lib.hid (HCZ.out.trans (Chg.of_grown hga) (fun i hm hi => by have := (World.ownsRow.lt H9Z.out i (by simpa using hm)).1; omega))
              clear hoa hga haa
              go_wp2
              go_roundw
              case rel => exact ⟨j + 1, by omega, by go_num, HBN.out, HCN.out⟩
              case measure => simp [intOf]; omega
            · obtain rfl : j = 8 := by omega
              rw [List.take_of_length_le (Nat.le_of_eq HWL.out)] at H9
              have hl9 : (headL ws).length = 32 := by rw [HWS.out]; rfl
              have HL9 := Lib.hid (hl9)
              have HMK : Hid (makeL 0 2 fl cs = headL ws ++ catL cs) := Lib.hid (by unfold makeL; rw [← HWS.out])
              clear hl9
              go_wp2_with fail
              rw [show ((8 : Nat) : Int) = 8 from rfl]
              go_loopw [9, 11] (fun s9 s11 wl => ∃ k : Nat, k ≤ cs.length ∧ s11 = .int .i64 (k : Int) ∧ Buf wl w5.heap.size s9 (headL ws ++ catL (cs.take k)) ∧ Chg [] w5 wl) (fun _ s11 _ => cs.length - (intOf s11).toNat)
              case atStart => exact ⟨0, Nat.zero_le _, rfl, by rw [show headL ws ++ catL (cs.take 0) = headL ws from List.append_nil _]; exact H9.out, HC9.out⟩
              case round =>
                obtain ⟨k, hk, rfl, hbk, hchk⟩ := hrel
                have HBK := Lib.hid (hbk)
                have HCK := Lib.hid (hchk)
                clear hbk hchk
                obtain ⟨wk, rfl⟩ : ∃ wq, wq = wr := ⟨_, rfl⟩
                by_cases hlt : k < cs.length
                · obtain ⟨a', n', cap', he, _, _, _, hx⟩ := HR.out
                  cases he
                  obtain ⟨b, off, rfl, hb, hcell⟩ := hx (by rintro rfl; simp at hlt)
                  obtain ⟨_, a2, cap2, h2, h3⟩ := hcell k hlt
                  obtain ⟨c, hc⟩ : ∃ c, c = cs.getD k (0, []) := ⟨_, rfl⟩
                  rw [← hc] at h2 h3
                  have hs := catL_snoc cs k hlt
                  have hle := catL_get_le cs k hlt
                  rw [← hc] at hs hle
                  rw [← HT.out] at hle
                  have HS := Lib.hid (hs)
                  have kk := HW0.out.then (Hch.out.then (HW5.out.then HCK.out))
                  have k2 := kk.cell h2 (by simp)
                  have HR3 := Lib.hid (h3.frame kk (fun _ _ hm => by cases hm))
                  clear h2 h3 hcell hx hc hs kk
                  obtain ⟨m, l⟩ := c
                  simp only at hle k2
                  go_wp2_with (at_builtin; refine app_buf rfl _ _ rfl w5.heap.size u9 (headL ws ++ catL (cs.take k)) rfl HBK.out _ rfl l HR3.out (by have := HL9.out; rw [List.length_append]; omega) HCK.out.size ?_; intro va wa hoa hga haa; refine Hid.out ?_)
                  refine Lib.hid ?_
                  have HBN : Hid (Buf wa w5.heap.size va (headL ws ++ catL (cs.take (k + 1)))) := Lib.hid (by rw [HS.out, ← List.append_assoc]; exact hoa)
                  have HCN : Hid (Chg [] w5 wa) := Lib.hid (HCK.out.trans (Chg.of_grown hga) (fun i hm hi => by have := (World.ownsRow.lt HBK.out i (by simpa using hm)).1; omega))
                  clear hoa hga haa
                  go_wp2
                  go_roundw
                  case rel => exact ⟨k + 1, hlt, by go_num, HBN.out, HCN.out⟩
                  case measure => simp [intOf]; omega
                · obtain rfl : k = cs.length := by omega
                  rw [List.take_length, ← HMK.out] at HBK
                  go_wp2
                  go_ret2
                  rw [HE.out]
                  exact ⟨_, rfl, fun _ => HBK.out.rd, fun h => absurd rfl h, HW0.out.then (Hch.out.then (HW5.out.then HCK.out))⟩
set_option maxHeartbeats 2000000 in
theorem CRMake_0_6 (fl : Nat) (hfl : fl < 4294967296) (cs : List Cmd) (a : Option Addr) (cap : Nat) (w : World) (rd : CmdRd w (.slice a cs.length cap) cs) (hlen : cs.length ≤ 1048576) (hl : (catL cs).length ≤ 70368744177664) :
    Calls Tryd.prog 28 #[.agg #[.int .i64 0, .int .i64 6, .int .u32 fl], .slice a cs.length cap] w fun e w' => ∃ v, e = .returned (.tuple #[v, .int .i64 (makeE 0 6 cs)]) ∧
      (makeE 0 6 cs = 0 → Rd w' v (bytesV (makeL 0 6 fl cs))) ∧ (makeE 0 6 cs ≠ 0 → v = .slice none 0 0) ∧ Chg [] w w' := by
  obtain ⟨_, _, _, he, _, hc1, hc2, _⟩ := id rd
  cases he
  unfold maxLen at hc2
  have H : Hid (kindB 0 6 = true) := Lib.hid (rfl)
  have HR := Lib.hid rd
  clear rd
  go_enter Tryd.func28, Tryd.ntmps28
  go_wp2_with fail
  obtain ⟨w0, hw0⟩ : ∃ w0, w0 = w.alloc (.cells #[.int .i64 0, .int .i64 6, .int .u32 fl] 34) := ⟨_, rfl⟩
  obtain ⟨r, hr⟩ : ∃ r, r = w.heap.size := ⟨_, rfl⟩
  have HH : Hid (w0.heap[r]? = some (.cells #[.int .i64 0, .int .i64 6, .int .u32 fl] 34 (0, 0))) := Lib.hid (by rw [hw0, hr]; exact heap_alloc_eq _ _)
  have HW0 : Hid (Chg [] w w0) := Lib.hid (by rw [hw0]; exact (Chg.refl _ _).alloc _)
  rw [← hr, ← hw0]
  clear hw0 hr
  go_loopw [6, 7] (fun s6 s7 wr => ∃ k : Nat, k ≤ cs.length ∧ s7 = .int .i64 (k : Int) ∧ s6 = .int .i64 ((catL (cs.take k)).length : Nat) ∧ (∀ c ∈ cs.take k, mayB c.1 c.2 = true) ∧ Chg [] w0 wr) (fun _ s7 _ => cs.length - (intOf s7).toNat)
  case atStart => exact ⟨0, Nat.zero_le _, rfl, rfl, by simp, Chg.refl _ _⟩
  case round =>
    obtain ⟨k, hk, rfl, rfl, hall, hch⟩ := hrel
    have Hall := Lib.hid hall
    have Hch := Lib.hid hch
    clear hall hch
    by_cases hlt : k < cs.length
    · obtain ⟨a', n', cap', he, _, _, _, hx⟩ := HR.out
      cases he
      obtain ⟨b, off, rfl, hb, hcell⟩ := hx (by rintro rfl; simp at hlt)
      obtain ⟨h1, a2, cap2, h2, h3⟩ := hcell k hlt
      obtain ⟨c, hc⟩ : ∃ c, c = cs.getD k (0, []) := ⟨_, rfl⟩
      rw [← hc] at h1 h2 h3
      have hs := catL_snoc cs k hlt
      have hle := catL_get_le cs k hlt
      rw [← hc] at hs hle
      have hs' : (catL (cs.take (k + 1))).length = (catL (cs.take k)).length + c.2.length := by rw [hs, List.length_append]
      have HS := Lib.hid (hs')
      have HMEM : Hid (c ∈ cs) := Lib.hid (by rw [hc]; simp [List.getD_eq_getElem?_getD, hlt])
      have HCK : Hid (cs.take (k + 1) = cs.take k ++ [c]) := Lib.hid (by rw [List.take_succ_eq_append_getElem hlt, hc]; simp [List.getD_eq_getElem?_getD, hlt])
      have H1 := Lib.hid (h1)
      have H2 := Lib.hid (h2)
      have k1 := (HW0.out.then Hch.out).cell h1 (by simp)
      have k2 := (HW0.out.then Hch.out).cell h2 (by simp)
      have HR3 := Lib.hid (h3.frame (HW0.out.then Hch.out) (fun _ _ hm => by cases hm))
      clear h1 h2 h3 hcell hx hc hs hs'
      obtain ⟨m, l⟩ := c
      simp only at hle
      have hle2 : l.length ≤ 70368744177664 := by omega
      obtain ⟨T, hT⟩ : ∃ T, T = (catL (cs.take k)).length := ⟨_, rfl⟩
      rw [← hT] at HS hle
      rw [← hT]
      clear hT
      go_wp2_with fail
      clear k1 k2
      refine (RMay4_any m l a2 cap2 wr HR3.out hle2).mono ?_
      rintro e w4 ⟨rfl, hch4⟩
      have HC4 := Lib.hid (Hch.out.then hch4)
      clear hch4
      cases hmay : mayB m l with
      | false =>
        have HE : Hid (makeE 0 6 cs = 2) := by
          refine Lib.hid ?_
          unfold makeE
          rw [H.out, if_neg (by decide), if_pos]
          rw [List.all_eq_false]
          exact ⟨_, HMEM.out, by simpa using hmay⟩
        clear hmay
        go_wp2
        go_ret2
        rw [HE.out]
        exact ⟨_, rfl, fun h => absurd h (by decide), fun _ => rfl, HW0.out.then HC4.out⟩
      | true =>
        have HA5 : Hid (∀ c ∈ cs.take (k + 1), mayB c.1 c.2 = true) := by
          refine Lib.hid ?_
          rw [HCK.out]
          intro c hc
          rw [List.mem_append, List.mem_singleton] at hc
          rcases hc with hc | rfl
          · exact Hall.out c hc
          · exact hmay
        clear hmay
        have k2 := (HW0.out.then HC4.out).cell H2.out (by simp)
        go_wp2
        go_roundw
        case rel => exact ⟨k + 1, hlt, by go_num, by rw [HS.out]; push_cast; rfl, HA5.out, HC4.out⟩
        case measure => simp [intOf]; omega
    · obtain rfl : k = cs.length := by omega
      rw [List.take_length] at Hall
      rw [List.take_length]
      have HALL : Hid ((cs.all fun c => mayB c.1 c.2) = true) := Lib.hid (List.all_eq_true.2 Hall.out)
      obtain ⟨T, hT⟩ : ∃ T, T = (catL cs).length := ⟨_, rfl⟩
      rw [← hT] at hl
      rw [← hT]
      have HT := Lib.hid (hT)
      clear hT
      by_cases h1 : 256 < cs.length
      · have d1 : decide ((256 : Int) < cs.length) = true := by simp; omega
        have HE : Hid (makeE 0 6 cs = 11) := by
          refine Lib.hid ?_
          unfold makeE
          rw [H.out, if_neg (by decide), HALL.out, if_neg (by decide), if_pos (.inl h1)]
        go_wp2
        go_ret2
        rw [HE.out]
        exact ⟨_, rfl, fun h => absurd h (by decide), fun _ => rfl, HW0.out.then Hch.out⟩
      · have d1 : decide ((256 : Int) < cs.length) = false := by simp; omega
        by_cases h2 : 1048576 < 32 + T
        · have d2 : decide ((1048576 : Int) < 32 + T) = true := by simp; omega
          have HE : Hid (makeE 0 6 cs = 11) := by
            refine Lib.hid ?_
            unfold makeE
            rw [H.out, if_neg (by decide), HALL.out, if_neg (by decide), if_pos (.inr (by rw [← HT.out]; exact h2))]
          go_wp2
          go_ret2
          rw [HE.out]
          exact ⟨_, rfl, fun h => absurd h (by decide), fun _ => rfl, HW0.out.then Hch.out⟩
        · have d2 : decide ((1048576 : Int) < 32 + T) = false := by simp; omega
          have HE : Hid (makeE 0 6 cs = 0) := by
            refine Lib.hid ?_
            unfold makeE
            rw [H.out, if_neg (by decide), HALL.out, if_neg (by decide), if_neg (by rw [← HT.out]; omega)]
          have hh := Hch.out.heap HH.out (by simp)
          have c0 := cell_of_heap hh 0
          have c1 := cell_of_heap hh 1
          have c2 := cell_of_heap hh 2
          simp at c0 c1 c2
          clear hh
          go_wp2_with fail
          obtain ⟨ws, hws⟩ : ∃ ws : List Nat, ws = words 0 6 fl cs := ⟨_, rfl⟩
          obtain ⟨w5, hw5⟩ : ∃ w5, w5 = wr.alloc (.cells #[.int .i64 4277009103, .int .i64 16777228, .int .i64 0, .int .i64 6, .int .i64 cs.length, .int .i64 T, .int .i64 fl, .int .i64 0] 3) := ⟨_, rfl⟩
          obtain ⟨q, hq⟩ : ∃ q, q = wr.heap.size := ⟨_, rfl⟩
          have HQ : Hid (w5.heap[q]? = some (.cells (ws.map fun n : Nat => Value.int .i64 (n : Int)).toArray 3 (0, 0))) := by
            refine Lib.hid ?_
            rw [hw5, hq, hws]
            refine (heap_alloc_eq _ _).trans ?_
            unfold words
            rw [← HT.out]
            rfl
          have HWL : Hid (ws.length = 8) := Lib.hid (by rw [hws]; rfl)
          have HWB : Hid (∀ n ∈ ws, n < 4294967296) := by
            refine Lib.hid ?_
            rw [hws]
            unfold words
            rw [← HT.out]
            intro n hn
            simp only [List.mem_cons, List.not_mem_nil, or_false] at hn
            omega
          have HWS := Lib.hid (hws)
          have HW5 : Hid (Chg [] wr w5) := Lib.hid (by rw [hw5]; exact (Chg.refl _ _).alloc _)
          rw [← hq, ← hw5]
          clear hw5 hq hws c0 c1 c2
          have HB5 := Lib.hid (HW0.out.then (Hch.out.then HW5.out))
          obtain ⟨wo, rfl⟩ : ∃ wo, wo = wr := ⟨_, rfl⟩
          go_loopw [9, 10] (fun s9 s10 wl => ∃ j : Nat, j ≤ 8 ∧ s10 = .int .i64 (j : Int) ∧ Buf wl w5.heap.size s9 (headL (ws.take j)) ∧ Chg [] w5 wl) (fun _ s10 _ => 8 - (intOf s10).toNat)
          case atStart => exact ⟨0, by omega, rfl, Buf.nil _ _, Chg.refl _ _⟩
          case round =>
            obtain ⟨j, hj, rfl, hb9, hch9⟩ := hrel
            have H9 := Lib.hid (hb9)
            have HC9 := Lib.hid (hch9)
            clear hb9 hch9
            obtain ⟨wq, rfl⟩ : ∃ wq, wq = wr := ⟨_, rfl⟩
            by_cases hlt : j < 8
            · obtain ⟨n, hn⟩ : ∃ n, n = ws.getD j 0 := ⟨_, rfl⟩
              have hjw : j < ws.length := by rw [HWL.out]; exact hlt
              have hcell := cell_of_heap (HC9.out.heap HQ.out (by simp)) j
              have hcn : (ws.map fun n : Nat => Value.int .i64 (n : Int)).toArray[j]? = some (.int .i64 (n : Int)) := by rw [hn]; simp [List.getD_eq_getElem?_getD, hjw]
              rw [hcn] at hcell
              have HN : Hid (n < 4294967296) := Lib.hid (HWB.out n (by rw [hn]; simp [List.getD_eq_getElem?_getD, hjw]))
              have HS : Hid (headL (ws.take (j + 1)) = headL (ws.take j) ++ le4 n) := by
                refine Lib.hid ?_
                unfold headL
                rw [List.take_succ_eq_append_getElem hjw, List.flatMap_append, hn]
                simp [List.getD_eq_getElem?_getD, hjw]
              have HL9 : Hid ((headL (ws.take j)).length ≤ 70368744177664) := by
                refine Lib.hid ?_
                unfold headL
                have : ∀ l : List Nat, (l.flatMap le4).length = 4 * l.length := fun l => by
                  induction l with
                  | nil => rfl
                  | cons a l ih => simp only [List.flatMap_cons, List.length_append, ih, List.length_cons]; show 4 + _ = _; omega
                rw [this, List.length_take]
                omega
              clear hn hjw hcn
              go_wp2_with fail
              refine (CPut_any n HN.out wq).mono ?_
              rintro e wz ⟨vz, rfl, hrz, hcz⟩
              have HRZ := Lib.hid (hrz)
              have HCZ := Lib.hid (HC9.out.then hcz)
              have H9Z := Lib.hid (H9.out.pure hcz)
              clear hrz hcz
              go_wp2_with (at_builtin; refine app_buf rfl _ _ rfl w5.heap.size u9 (headL (ws.take j)) rfl H9Z.out _ rfl (le4 n) HRZ.out (by have := HL9.out; show _ + 4 ≤ _; omega) HCZ.out.size ?_; intro va wa hoa hga haa; refine Hid.out ?_)
              refine Lib.hid ?_
              have HBN : Hid (Buf wa w5.heap.size va (headL (ws.take (j + 1)))) := Lib.hid (by rw [HS.out]; exact hoa)
              have HCN : Hid (Chg [] w5 wa) := Lib.hid (HCZ.out.trans (Chg.of_grown hga) (fun i hm hi => by have := (World.ownsRow.lt H9Z.out i (by simpa using hm)).1; omega))
              clear hoa hga haa
              go_wp2
              go_roundw
              case rel => exact ⟨j + 1, by omega, by go_num, HBN.out, HCN.out⟩
              case measure => simp [intOf]; omega
            · obtain rfl : j = 8 := by omega
              rw [List.take_of_length_le (Nat.le_of_eq HWL.out)] at H9
              have hl9 : (headL ws).length = 32 := by rw [HWS.out]; rfl
              have HL9 := Lib.hid (hl9)
              have HMK : Hid (makeL 0 6 fl cs = headL ws ++ catL cs) := Lib.hid (by unfold makeL; rw [← HWS.out])
              clear hl9
              go_wp2_with fail
              rw [show ((8 : Nat) : Int) = 8 from rfl]
              go_loopw [9, 11] (fun s9 s11 wl => ∃ k : Nat, k ≤ cs.length ∧ s11 = .int .i64 (k : Int) ∧ Buf wl w5.heap.size s9 (headL ws ++ catL (cs.take k)) ∧ Chg [] w5 wl) (fun _ s11 _ => cs.length - (intOf s11).toNat)
              case atStart => exact ⟨0, Nat.zero_le _, rfl, by rw [show headL ws ++ catL (cs.take 0) = headL ws from List.append_nil _]; exact H9.out, HC9.out⟩
              case round =>
                obtain ⟨k, hk, rfl, hbk, hchk⟩ := hrel
                have HBK := Lib.hid (hbk)
                have HCK := Lib.hid (hchk)
                clear hbk hchk
                obtain ⟨wk, rfl⟩ : ∃ wq, wq = wr := ⟨_, rfl⟩
                by_cases hlt : k < cs.length
                · obtain ⟨a', n', cap', he, _, _, _, hx⟩ := HR.out
                  cases he
                  obtain ⟨b, off, rfl, hb, hcell⟩ := hx (by rintro rfl; simp at hlt)
                  obtain ⟨_, a2, cap2, h2, h3⟩ := hcell k hlt
                  obtain ⟨c, hc⟩ : ∃ c, c = cs.getD k (0, []) := ⟨_, rfl⟩
                  rw [← hc] at h2 h3
                  have hs := catL_snoc cs k hlt
                  have hle := catL_get_le cs k hlt
                  rw [← hc] at hs hle
                  rw [← HT.out] at hle
                  have HS := Lib.hid (hs)
                  have kk := HW0.out.then (Hch.out.then (HW5.out.then HCK.out))
                  have k2 := kk.cell h2 (by simp)
                  have HR3 := Lib.hid (h3.frame kk (fun _ _ hm => by cases hm))
                  clear h2 h3 hcell hx hc hs kk
                  obtain ⟨m, l⟩ := c
                  simp only at hle k2
                  go_wp2_with (at_builtin; refine app_buf rfl _ _ rfl w5.heap.size u9 (headL ws ++ catL (cs.take k)) rfl HBK.out _ rfl l HR3.out (by have := HL9.out; rw [List.length_append]; omega) HCK.out.size ?_; intro va wa hoa hga haa; refine Hid.out ?_)
                  refine Lib.hid ?_
                  have HBN : Hid (Buf wa w5.heap.size va (headL ws ++ catL (cs.take (k + 1)))) := Lib.hid (by rw [HS.out, ← List.append_assoc]; exact hoa)
                  have HCN : Hid (Chg [] w5 wa) := Lib.hid (HCK.out.trans (Chg.of_grown hga) (fun i hm hi => by have := (World.ownsRow.lt HBK.out i (by simpa using hm)).1; omega))
                  clear hoa hga haa
                  go_wp2
                  go_roundw
                  case rel => exact ⟨k + 1, hlt, by go_num, HBN.out, HCN.out⟩
                  case measure => simp [intOf]; omega
                · obtain rfl : k = cs.length := by omega
                  rw [List.take_length, ← HMK.out] at HBK
                  go_wp2
                  go_ret2
                  rw [HE.out]
                  exact ⟨_, rfl, fun _ => HBK.out.rd, fun h => absurd rfl h, HW0.out.then (Hch.out.then (HW5.out.then HCK.out))⟩
set_option maxHeartbeats 2000000 in
theorem CRMake_2_2 (fl : Nat) (hfl : fl < 4294967296) (cs : List Cmd) (a : Option Addr) (cap : Nat) (w : World) (rd : CmdRd w (.slice a cs.length cap) cs) (hlen : cs.length ≤ 1048576) (hl : (catL cs).length ≤ 70368744177664) :
    Calls Tryd.prog 28 #[.agg #[.int .i64 2, .int .i64 2, .int .u32 fl], .slice a cs.length cap] w fun e w' => ∃ v, e = .returned (.tuple #[v, .int .i64 (makeE 2 2 cs)]) ∧
      (makeE 2 2 cs = 0 → Rd w' v (bytesV (makeL 2 2 fl cs))) ∧ (makeE 2 2 cs ≠ 0 → v = .slice none 0 0) ∧ Chg [] w w' := by
  obtain ⟨_, _, _, he, _, hc1, hc2, _⟩ := id rd
  cases he
  unfold maxLen at hc2
  have H : Hid (kindB 2 2 = true) := Lib.hid (rfl)
  have HR := Lib.hid rd
  clear rd
  go_enter Tryd.func28, Tryd.ntmps28
  go_wp2_with fail
  obtain ⟨w0, hw0⟩ : ∃ w0, w0 = w.alloc (.cells #[.int .i64 2, .int .i64 2, .int .u32 fl] 34) := ⟨_, rfl⟩
  obtain ⟨r, hr⟩ : ∃ r, r = w.heap.size := ⟨_, rfl⟩
  have HH : Hid (w0.heap[r]? = some (.cells #[.int .i64 2, .int .i64 2, .int .u32 fl] 34 (0, 0))) := Lib.hid (by rw [hw0, hr]; exact heap_alloc_eq _ _)
  have HW0 : Hid (Chg [] w w0) := Lib.hid (by rw [hw0]; exact (Chg.refl _ _).alloc _)
  rw [← hr, ← hw0]
  clear hw0 hr
  go_loopw [6, 7] (fun s6 s7 wr => ∃ k : Nat, k ≤ cs.length ∧ s7 = .int .i64 (k : Int) ∧ s6 = .int .i64 ((catL (cs.take k)).length : Nat) ∧ (∀ c ∈ cs.take k, mayB c.1 c.2 = true) ∧ Chg [] w0 wr) (fun _ s7 _ => cs.length - (intOf s7).toNat)
  case atStart => exact ⟨0, Nat.zero_le _, rfl, rfl, by simp, Chg.refl _ _⟩
  case round =>
    obtain ⟨k, hk, rfl, rfl, hall, hch⟩ := hrel
    have Hall := Lib.hid hall
    have Hch := Lib.hid hch
    clear hall hch
    by_cases hlt : k < cs.length
    · obtain ⟨a', n', cap', he, _, _, _, hx⟩ := HR.out
      cases he
      obtain ⟨b, off, rfl, hb, hcell⟩ := hx (by rintro rfl; simp at hlt)
      obtain ⟨h1, a2, cap2, h2, h3⟩ := hcell k hlt
      obtain ⟨c, hc⟩ : ∃ c, c = cs.getD k (0, []) := ⟨_, rfl⟩
      rw [← hc] at h1 h2 h3
      have hs := catL_snoc cs k hlt
      have hle := catL_get_le cs k hlt
      rw [← hc] at hs hle
      have hs' : (catL (cs.take (k + 1))).length = (catL (cs.take k)).length + c.2.length := by rw [hs, List.length_append]
      have HS := Lib.hid (hs')
      have HMEM : Hid (c ∈ cs) := Lib.hid (by rw [hc]; simp [List.getD_eq_getElem?_getD, hlt])
      have HCK : Hid (cs.take (k + 1) = cs.take k ++ [c]) := Lib.hid (by rw [List.take_succ_eq_append_getElem hlt, hc]; simp [List.getD_eq_getElem?_getD, hlt])
      have H1 := Lib.hid (h1)
      have H2 := Lib.hid (h2)
      have k1 := (HW0.out.then Hch.out).cell h1 (by simp)
      have k2 := (HW0.out.then Hch.out).cell h2 (by simp)
      have HR3 := Lib.hid (h3.frame (HW0.out.then Hch.out) (fun _ _ hm => by cases hm))
      clear h1 h2 h3 hcell hx hc hs hs'
      obtain ⟨m, l⟩ := c
      simp only at hle
      have hle2 : l.length ≤ 70368744177664 := by omega
      obtain ⟨T, hT⟩ : ∃ T, T = (catL (cs.take k)).length := ⟨_, rfl⟩
      rw [← hT] at HS hle
      rw [← hT]
      clear hT
      go_wp2_with fail
      clear k1 k2
      refine (RMay4_any m l a2 cap2 wr HR3.out hle2).mono ?_
      rintro e w4 ⟨rfl, hch4⟩
      have HC4 := Lib.hid (Hch.out.then hch4)
      clear hch4
      cases hmay : mayB m l with
      | false =>
        have HE : Hid (makeE 2 2 cs = 2) := by
          refine Lib.hid ?_
          unfold makeE
          rw [H.out, if_neg (by decide), if_pos]
          rw [List.all_eq_false]
          exact ⟨_, HMEM.out, by simpa using hmay⟩
        clear hmay
        go_wp2
        go_ret2
        rw [HE.out]
        exact ⟨_, rfl, fun h => absurd h (by decide), fun _ => rfl, HW0.out.then HC4.out⟩
      | true =>
        have HA5 : Hid (∀ c ∈ cs.take (k + 1), mayB c.1 c.2 = true) := by
          refine Lib.hid ?_
          rw [HCK.out]
          intro c hc
          rw [List.mem_append, List.mem_singleton] at hc
          rcases hc with hc | rfl
          · exact Hall.out c hc
          · exact hmay
        clear hmay
        have k2 := (HW0.out.then HC4.out).cell H2.out (by simp)
        go_wp2
        go_roundw
        case rel => exact ⟨k + 1, hlt, by go_num, by rw [HS.out]; push_cast; rfl, HA5.out, HC4.out⟩
        case measure => simp [intOf]; omega
    · obtain rfl : k = cs.length := by omega
      rw [List.take_length] at Hall
      rw [List.take_length]
      have HALL : Hid ((cs.all fun c => mayB c.1 c.2) = true) := Lib.hid (List.all_eq_true.2 Hall.out)
      obtain ⟨T, hT⟩ : ∃ T, T = (catL cs).length := ⟨_, rfl⟩
      rw [← hT] at hl
      rw [← hT]
      have HT := Lib.hid (hT)
      clear hT
      by_cases h1 : 256 < cs.length
      · have d1 : decide ((256 : Int) < cs.length) = true := by simp; omega
        have HE : Hid (makeE 2 2 cs = 11) := by
          refine Lib.hid ?_
          unfold makeE
          rw [H.out, if_neg (by decide), HALL.out, if_neg (by decide), if_pos (.inl h1)]
        go_wp2
        go_ret2
        rw [HE.out]
        exact ⟨_, rfl, fun h => absurd h (by decide), fun _ => rfl, HW0.out.then Hch.out⟩
      · have d1 : decide ((256 : Int) < cs.length) = false := by simp; omega
        by_cases h2 : 1048576 < 32 + T
        · have d2 : decide ((1048576 : Int) < 32 + T) = true := by simp; omega
          have HE : Hid (makeE 2 2 cs = 11) := by
            refine Lib.hid ?_
            unfold makeE
            rw [H.out, if_neg (by decide), HALL.out, if_neg (by decide), if_pos (.inr (by rw [← HT.out]; exact h2))]
          go_wp2
          go_ret2
          rw [HE.out]
          exact ⟨_, rfl, fun h => absurd h (by decide), fun _ => rfl, HW0.out.then Hch.out⟩
        · have d2 : decide ((1048576 : Int) < 32 + T) = false := by simp; omega
          have HE : Hid (makeE 2 2 cs = 0) := by
            refine Lib.hid ?_
            unfold makeE
            rw [H.out, if_neg (by decide), HALL.out, if_neg (by decide), if_neg (by rw [← HT.out]; omega)]
          have hh := Hch.out.heap HH.out (by simp)
          have c0 := cell_of_heap hh 0
          have c1 := cell_of_heap hh 1
          have c2 := cell_of_heap hh 2
          simp at c0 c1 c2
          clear hh
          go_wp2_with fail
          obtain ⟨ws, hws⟩ : ∃ ws : List Nat, ws = words 2 2 fl cs := ⟨_, rfl⟩
          obtain ⟨w5, hw5⟩ : ∃ w5, w5 = wr.alloc (.cells #[.int .i64 4277009103, .int .i64 16777228, .int .i64 2, .int .i64 2, .int .i64 cs.length, .int .i64 T, .int .i64 fl, .int .i64 0] 3) := ⟨_, rfl⟩
          obtain ⟨q, hq⟩ : ∃ q, q = wr.heap.size := ⟨_, rfl⟩
          have HQ : Hid (w5.heap[q]? = some (.cells (ws.map fun n : Nat => Value.int .i64 (n : Int)).toArray 3 (0, 0))) := by
            refine Lib.hid ?_
            rw [hw5, hq, hws]
            refine (heap_alloc_eq _ _).trans ?_
            unfold words
            rw [← HT.out]
            rfl
          have HWL : Hid (ws.length = 8) := Lib.hid (by rw [hws]; rfl)
          have HWB : Hid (∀ n ∈ ws, n < 4294967296) := by
            refine Lib.hid ?_
            rw [hws]
            unfold words
            rw [← HT.out]
            intro n hn
            simp only [List.mem_cons, List.not_mem_nil, or_false] at hn
            omega
          have HWS := Lib.hid (hws)
          have HW5 : Hid (Chg [] wr w5) := Lib.hid (by rw [hw5]; exact (Chg.refl _ _).alloc _)
          rw [← hq, ← hw5]
          clear hw5 hq hws c0 c1 c2
          have HB5 := Lib.hid (HW0.out.then (Hch.out.then HW5.out))
          obtain ⟨wo, rfl⟩ : ∃ wo, wo = wr := ⟨_, rfl⟩
          go_loopw [9, 10] (fun s9 s10 wl => ∃ j : Nat, j ≤ 8 ∧ s10 = .int .i64 (j : Int) ∧ Buf wl w5.heap.size s9 (headL (ws.take j)) ∧ Chg [] w5 wl) (fun _ s10 _ => 8 - (intOf s10).toNat)
          case atStart => exact ⟨0, by omega, rfl, Buf.nil _ _, Chg.refl _ _⟩
          case round =>
            obtain ⟨j, hj, rfl, hb9, hch9⟩ := hrel
            have H9 := Lib.hid (hb9)
            have HC9 := Lib.hid (hch9)
            clear hb9 hch9
            obtain ⟨wq, rfl⟩ : ∃ wq, wq = wr := ⟨_, rfl⟩
            by_cases hlt : j < 8
            · obtain ⟨n, hn⟩ : ∃ n, n = ws.getD j 0 := ⟨_, rfl⟩
              have hjw : j < ws.length := by rw [HWL.out]; exact hlt
              have hcell := cell_of_heap (HC9.out.heap HQ.out (by simp)) j
              have hcn : (ws.map fun n : Nat => Value.int .i64 (n : Int)).toArray[j]? = some (.int .i64 (n : Int)) := by rw [hn]; simp [List.getD_eq_getElem?_getD, hjw]
              rw [hcn] at hcell
              have HN : Hid (n < 4294967296) := Lib.hid (HWB.out n (by rw [hn]; simp [List.getD_eq_getElem?_getD, hjw]))
              have HS : Hid (headL (ws.take (j + 1)) = headL (ws.take j) ++ le4 n) := by
                refine Lib.hid ?_
                unfold headL
                rw [List.take_succ_eq_append_getElem hjw, List.flatMap_append, hn]
                simp [List.getD_eq_getElem?_getD, hjw]
              have HL9 : Hid ((headL (ws.take j)).length ≤ 70368744177664) := by
                refine Lib.hid ?_
                unfold headL
                have : ∀ l : List Nat, (l.flatMap le4).length = 4 * l.length := fun l => by
                  induction l with
                  | nil => rfl
                  | cons a l ih => simp only [List.flatMap_cons, List.length_append, ih, List.length_cons]; show 4 + _ = _; omega
                rw [this, List.length_take]
                omega
              clear hn hjw hcn
              go_wp2_with fail
              refine (CPut_any n HN.out wq).mono ?_
              rintro e wz ⟨vz, rfl, hrz, hcz⟩
              have HRZ := Lib.hid (hrz)
              have HCZ := Lib.hid (HC9.out.then hcz)
              have H9Z := Lib.hid (H9.out.pure hcz)
              clear hrz hcz
              go_wp2_with (at_builtin; refine app_buf rfl _ _ rfl w5.heap.size u9 (headL (ws.take j)) rfl H9Z.out _ rfl (le4 n) HRZ.out (by have := HL9.out; show _ + 4 ≤ _; omega) HCZ.out.size ?_; intro va wa hoa hga haa; refine Hid.out ?_)
              refine Lib.hid ?_
              have HBN : Hid (Buf wa w5.heap.size va (headL (ws.take (j + 1)))) := Lib.hid (by rw [HS.out]; exact hoa)
              have HCN : Hid (Chg [] w5 wa) := Lib.hid (HCZ.out.trans (Chg.of_grown hga) (fun i hm hi => by have := (World.ownsRow.lt H9Z.out i (by simpa using hm)).1; omega))
              clear hoa hga haa
              go_wp2
              go_roundw
              case rel => exact ⟨j + 1, by omega, by go_num, HBN.out, HCN.out⟩
              case measure => simp [intOf]; omega
            · obtain rfl : j = 8 := by omega
              rw [List.take_of_length_le (Nat.le_of_eq HWL.out)] at H9
              have hl9 : (headL ws).length = 32 := by rw [HWS.out]; rfl
              have HL9 := Lib.hid (hl9)
              have HMK : Hid (makeL 2 2 fl cs = headL ws ++ catL cs) := Lib.hid (by unfold makeL; rw [← HWS.out])
              clear hl9
              go_wp2_with fail
              rw [show ((8 : Nat) : Int) = 8 from rfl]
              go_loopw [9, 11] (fun s9 s11 wl => ∃ k : Nat, k ≤ cs.length ∧ s11 = .int .i64 (k : Int) ∧ Buf wl w5.heap.size s9 (headL ws ++ catL (cs.take k)) ∧ Chg [] w5 wl) (fun _ s11 _ => cs.length - (intOf s11).toNat)
              case atStart => exact ⟨0, Nat.zero_le _, rfl, by rw [show headL ws ++ catL (cs.take 0) = headL ws from List.append_nil _]; exact H9.out, HC9.out⟩
              case round =>
                obtain ⟨k, hk, rfl, hbk, hchk⟩ := hrel
                have HBK := Lib.hid (hbk)
                have HCK := Lib.hid (hchk)
                clear hbk hchk
                obtain ⟨wk, rfl⟩ : ∃ wq, wq = wr := ⟨_, rfl⟩
                by_cases hlt : k < cs.length
                · obtain ⟨a', n', cap', he, _, _, _, hx⟩ := HR.out
                  cases he
                  obtain ⟨b, off, rfl, hb, hcell⟩ := hx (by rintro rfl; simp at hlt)
                  obtain ⟨_, a2, cap2, h2, h3⟩ := hcell k hlt
                  obtain ⟨c, hc⟩ : ∃ c, c = cs.getD k (0, []) := ⟨_, rfl⟩
                  rw [← hc] at h2 h3
                  have hs := catL_snoc cs k hlt
                  have hle := catL_get_le cs k hlt
                  rw [← hc] at hs hle
                  rw [← HT.out] at hle
                  have HS := Lib.hid (hs)
                  have kk := HW0.out.then (Hch.out.then (HW5.out.then HCK.out))
                  have k2 := kk.cell h2 (by simp)
                  have HR3 := Lib.hid (h3.frame kk (fun _ _ hm => by cases hm))
                  clear h2 h3 hcell hx hc hs kk
                  obtain ⟨m, l⟩ := c
                  simp only at hle k2
                  go_wp2_with (at_builtin; refine app_buf rfl _ _ rfl w5.heap.size u9 (headL ws ++ catL (cs.take k)) rfl HBK.out _ rfl l HR3.out (by have := HL9.out; rw [List.length_append]; omega) HCK.out.size ?_; intro va wa hoa hga haa; refine Hid.out ?_)
                  refine Lib.hid ?_
                  have HBN : Hid (Buf wa w5.heap.size va (headL ws ++ catL (cs.take (k + 1)))) := Lib.hid (by rw [HS.out, ← List.append_assoc]; exact hoa)
                  have HCN : Hid (Chg [] w5 wa) := Lib.hid (HCK.out.trans (Chg.of_grown hga) (fun i hm hi => by have := (World.ownsRow.lt HBK.out i (by simpa using hm)).1; omega))
                  clear hoa hga haa
                  go_wp2
                  go_roundw
                  case rel => exact ⟨k + 1, hlt, by go_num, HBN.out, HCN.out⟩
                  case measure => simp [intOf]; omega
                · obtain rfl : k = cs.length := by omega
                  rw [List.take_length, ← HMK.out] at HBK
                  go_wp2
                  go_ret2
                  rw [HE.out]
                  exact ⟨_, rfl, fun _ => HBK.out.rd, fun h => absurd rfl h, HW0.out.then (Hch.out.then (HW5.out.then HCK.out))⟩
set_option maxHeartbeats 2000000 in
theorem CRMake_2_6 (fl : Nat) (hfl : fl < 4294967296) (cs : List Cmd) (a : Option Addr) (cap : Nat) (w : World) (rd : CmdRd w (.slice a cs.length cap) cs) (hlen : cs.length ≤ 1048576) (hl : (catL cs).length ≤ 70368744177664) :
    Calls Tryd.prog 28 #[.agg #[.int .i64 2, .int .i64 6, .int .u32 fl], .slice a cs.length cap] w fun e w' => ∃ v, e = .returned (.tuple #[v, .int .i64 (makeE 2 6 cs)]) ∧
      (makeE 2 6 cs = 0 → Rd w' v (bytesV (makeL 2 6 fl cs))) ∧ (makeE 2 6 cs ≠ 0 → v = .slice none 0 0) ∧ Chg [] w w' := by
  obtain ⟨_, _, _, he, _, hc1, hc2, _⟩ := id rd
  cases he
  unfold maxLen at hc2
  have H : Hid (kindB 2 6 = true) := Lib.hid (rfl)
  have HR := Lib.hid rd
  clear rd
  go_enter Tryd.func28, Tryd.ntmps28
  go_wp2_with fail
  obtain ⟨w0, hw0⟩ : ∃ w0, w0 = w.alloc (.cells #[.int .i64 2, .int .i64 6, .int .u32 fl] 34) := ⟨_, rfl⟩
  obtain ⟨r, hr⟩ : ∃ r, r = w.heap.size := ⟨_, rfl⟩
  have HH : Hid (w0.heap[r]? = some (.cells #[.int .i64 2, .int .i64 6, .int .u32 fl] 34 (0, 0))) := Lib.hid (by rw [hw0, hr]; exact heap_alloc_eq _ _)
  have HW0 : Hid (Chg [] w w0) := Lib.hid (by rw [hw0]; exact (Chg.refl _ _).alloc _)
  rw [← hr, ← hw0]
  clear hw0 hr
  go_loopw [6, 7] (fun s6 s7 wr => ∃ k : Nat, k ≤ cs.length ∧ s7 = .int .i64 (k : Int) ∧ s6 = .int .i64 ((catL (cs.take k)).length : Nat) ∧ (∀ c ∈ cs.take k, mayB c.1 c.2 = true) ∧ Chg [] w0 wr) (fun _ s7 _ => cs.length - (intOf s7).toNat)
  case atStart => exact ⟨0, Nat.zero_le _, rfl, rfl, by simp, Chg.refl _ _⟩
  case round =>
    obtain ⟨k, hk, rfl, rfl, hall, hch⟩ := hrel
    have Hall := Lib.hid hall
    have Hch := Lib.hid hch
    clear hall hch
    by_cases hlt : k < cs.length
    · obtain ⟨a', n', cap', he, _, _, _, hx⟩ := HR.out
      cases he
      obtain ⟨b, off, rfl, hb, hcell⟩ := hx (by rintro rfl; simp at hlt)
      obtain ⟨h1, a2, cap2, h2, h3⟩ := hcell k hlt
      obtain ⟨c, hc⟩ : ∃ c, c = cs.getD k (0, []) := ⟨_, rfl⟩
      rw [← hc] at h1 h2 h3
      have hs := catL_snoc cs k hlt
      have hle := catL_get_le cs k hlt
      rw [← hc] at hs hle
      have hs' : (catL (cs.take (k + 1))).length = (catL (cs.take k)).length + c.2.length := by rw [hs, List.length_append]
      have HS := Lib.hid (hs')
      have HMEM : Hid (c ∈ cs) := Lib.hid (by rw [hc]; simp [List.getD_eq_getElem?_getD, hlt])
      have HCK : Hid (cs.take (k + 1) = cs.take k ++ [c]) := Lib.hid (by rw [List.take_succ_eq_append_getElem hlt, hc]; simp [List.getD_eq_getElem?_getD, hlt])
      have H1 := Lib.hid (h1)
      have H2 := Lib.hid (h2)
      have k1 := (HW0.out.then Hch.out).cell h1 (by simp)
      have k2 := (HW0.out.then Hch.out).cell h2 (by simp)
      have HR3 := Lib.hid (h3.frame (HW0.out.then Hch.out) (fun _ _ hm => by cases hm))
      clear h1 h2 h3 hcell hx hc hs hs'
      obtain ⟨m, l⟩ := c
      simp only at hle
      have hle2 : l.length ≤ 70368744177664 := by omega
      obtain ⟨T, hT⟩ : ∃ T, T = (catL (cs.take k)).length := ⟨_, rfl⟩
      rw [← hT] at HS hle
      rw [← hT]
      clear hT
      go_wp2_with fail
      clear k1 k2
      refine (RMay4_any m l a2 cap2 wr HR3.out hle2).mono ?_
      rintro e w4 ⟨rfl, hch4⟩
      have HC4 := Lib.hid (Hch.out.then hch4)
      clear hch4
      cases hmay : mayB m l with
      | false =>
        have HE : Hid (makeE 2 6 cs = 2) := by
          refine Lib.hid ?_
          unfold makeE
          rw [H.out, if_neg (by decide), if_pos]
          rw [List.all_eq_false]
          exact ⟨_, HMEM.out, by simpa using hmay⟩
        clear hmay
        go_wp2
        go_ret2
        rw [HE.out]
        exact ⟨_, rfl, fun h => absurd h (by decide), fun _ => rfl, HW0.out.then HC4.out⟩
      | true =>
        have HA5 : Hid (∀ c ∈ cs.take (k + 1), mayB c.1 c.2 = true) := by
          refine Lib.hid ?_
          rw [HCK.out]
          intro c hc
          rw [List.mem_append, List.mem_singleton] at hc
          rcases hc with hc | rfl
          · exact Hall.out c hc
          · exact hmay
        clear hmay
        have k2 := (HW0.out.then HC4.out).cell H2.out (by simp)
        go_wp2
        go_roundw
        case rel => exact ⟨k + 1, hlt, by go_num, by rw [HS.out]; push_cast; rfl, HA5.out, HC4.out⟩
        case measure => simp [intOf]; omega
    · obtain rfl : k = cs.length := by omega
      rw [List.take_length] at Hall
      rw [List.take_length]
      have HALL : Hid ((cs.all fun c => mayB c.1 c.2) = true) := Lib.hid (List.all_eq_true.2 Hall.out)
      obtain ⟨T, hT⟩ : ∃ T, T = (catL cs).length := ⟨_, rfl⟩
      rw [← hT] at hl
      rw [← hT]
      have HT := Lib.hid (hT)
      clear hT
      by_cases h1 : 256 < cs.length
      · have d1 : decide ((256 : Int) < cs.length) = true := by simp; omega
        have HE : Hid (makeE 2 6 cs = 11) := by
          refine Lib.hid ?_
          unfold makeE
          rw [H.out, if_neg (by decide), HALL.out, if_neg (by decide), if_pos (.inl h1)]
        go_wp2
        go_ret2
        rw [HE.out]
        exact ⟨_, rfl, fun h => absurd h (by decide), fun _ => rfl, HW0.out.then Hch.out⟩
      · have d1 : decide ((256 : Int) < cs.length) = false := by simp; omega
        by_cases h2 : 1048576 < 32 + T
        · have d2 : decide ((1048576 : Int) < 32 + T) = true := by simp; omega
          have HE : Hid (makeE 2 6 cs = 11) := by
            refine Lib.hid ?_
            unfold makeE
            rw [H.out, if_neg (by decide), HALL.out, if_neg (by decide), if_pos (.inr (by rw [← HT.out]; exact h2))]
          go_wp2
          go_ret2
          rw [HE.out]
          exact ⟨_, rfl, fun h => absurd h (by decide), fun _ => rfl, HW0.out.then Hch.out⟩
        · have d2 : decide ((1048576 : Int) < 32 + T) = false := by simp; omega
          have HE : Hid (makeE 2 6 cs = 0) := by
            refine Lib.hid ?_
            unfold makeE
            rw [H.out, if_neg (by decide), HALL.out, if_neg (by decide), if_neg (by rw [← HT.out]; omega)]
          have hh := Hch.out.heap HH.out (by simp)
          have c0 := cell_of_heap hh 0
          have c1 := cell_of_heap hh 1
          have c2 := cell_of_heap hh 2
          simp at c0 c1 c2
          clear hh
          go_wp2_with fail
          obtain ⟨ws, hws⟩ : ∃ ws : List Nat, ws = words 2 6 fl cs := ⟨_, rfl⟩
          obtain ⟨w5, hw5⟩ : ∃ w5, w5 = wr.alloc (.cells #[.int .i64 4277009103, .int .i64 16777228, .int .i64 2, .int .i64 6, .int .i64 cs.length, .int .i64 T, .int .i64 fl, .int .i64 0] 3) := ⟨_, rfl⟩
          obtain ⟨q, hq⟩ : ∃ q, q = wr.heap.size := ⟨_, rfl⟩
          have HQ : Hid (w5.heap[q]? = some (.cells (ws.map fun n : Nat => Value.int .i64 (n : Int)).toArray 3 (0, 0))) := by
            refine Lib.hid ?_
            rw [hw5, hq, hws]
            refine (heap_alloc_eq _ _).trans ?_
            unfold words
            rw [← HT.out]
            rfl
          have HWL : Hid (ws.length = 8) := Lib.hid (by rw [hws]; rfl)
          have HWB : Hid (∀ n ∈ ws, n < 4294967296) := by
            refine Lib.hid ?_
            rw [hws]
            unfold words
            rw [← HT.out]
            intro n hn
            simp only [List.mem_cons, List.not_mem_nil, or_false] at hn
            omega
          have HWS := Lib.hid (hws)
          have HW5 : Hid (Chg [] wr w5) := Lib.hid (by rw [hw5]; exact (Chg.refl _ _).alloc _)
          rw [← hq, ← hw5]
          clear hw5 hq hws c0 c1 c2
          have HB5 := Lib.hid (HW0.out.then (Hch.out.then HW5.out))
          obtain ⟨wo, rfl⟩ : ∃ wo, wo = wr := ⟨_, rfl⟩
          go_loopw [9, 10] (fun s9 s10 wl => ∃ j : Nat, j ≤ 8 ∧ s10 = .int .i64 (j : Int) ∧ Buf wl w5.heap.size s9 (headL (ws.take j)) ∧ Chg [] w5 wl) (fun _ s10 _ => 8 - (intOf s10).toNat)
          case atStart => exact ⟨0, by omega, rfl, Buf.nil _ _, Chg.refl _ _⟩
          case round =>
            obtain ⟨j, hj, rfl, hb9, hch9⟩ := hrel
            have H9 := Lib.hid (hb9)
            have HC9 := Lib.hid (hch9)
            clear hb9 hch9
            obtain ⟨wq, rfl⟩ : ∃ wq, wq = wr := ⟨_, rfl⟩
            by_cases hlt : j < 8
            · obtain ⟨n, hn⟩ : ∃ n, n = ws.getD j 0 := ⟨_, rfl⟩
              have hjw : j < ws.length := by rw [HWL.out]; exact hlt
              have hcell := cell_of_heap (HC9.out.heap HQ.out (by simp)) j
              have hcn : (ws.map fun n : Nat => Value.int .i64 (n : Int)).toArray[j]? = some (.int .i64 (n : Int)) := by rw [hn]; simp [List.getD_eq_getElem?_getD, hjw]
              rw [hcn] at hcell
              have HN : Hid (n < 4294967296) := Lib.hid (HWB.out n (by rw [hn]; simp [List.getD_eq_getElem?_getD, hjw]))
              have HS : Hid (headL (ws.take (j + 1)) = headL (ws.take j) ++ le4 n) := by
                refine Lib.hid ?_
                unfold headL
                rw [List.take_succ_eq_append_getElem hjw, List.flatMap_append, hn]
                simp [List.getD_eq_getElem?_getD, hjw]
              have HL9 : Hid ((headL (ws.take j)).length ≤ 70368744177664) := by
                refine Lib.hid ?_
                unfold headL
                have : ∀ l : List Nat, (l.flatMap le4).length = 4 * l.length := fun l => by
                  induction l with
                  | nil => rfl
                  | cons a l ih => simp only [List.flatMap_cons, List.length_append, ih, List.length_cons]; show 4 + _ = _; omega
                rw [this, List.length_take]
                omega
              clear hn hjw hcn
              go_wp2_with fail
              refine (CPut_any n HN.out wq).mono ?_
              rintro e wz ⟨vz, rfl, hrz, hcz⟩
              have HRZ := Lib.hid (hrz)
              have HCZ := Lib.hid (HC9.out.then hcz)
              have H9Z := Lib.hid (H9.out.pure hcz)
              clear hrz hcz
              go_wp2_with (at_builtin; refine app_buf rfl _ _ rfl w5.heap.size u9 (headL (ws.take j)) rfl H9Z.out _ rfl (le4 n) HRZ.out (by have := HL9.out; show _ + 4 ≤ _; omega) HCZ.out.size ?_; intro va wa hoa hga haa; refine Hid.out ?_)
              refine Lib.hid ?_
              have HBN : Hid (Buf wa w5.heap.size va (headL (ws.take (j + 1)))) := Lib.hid (by rw [HS.out]; exact hoa)
              have HCN : Hid (Chg [] w5 wa) := Lib.hid (HCZ.out.trans (Chg.of_grown hga) (fun i hm hi => by have := (World.ownsRow.lt H9Z.out i (by simpa using hm)).1; omega))
              clear hoa hga haa
              go_wp2
              go_roundw
              case rel => exact ⟨j + 1, by omega, by go_num, HBN.out, HCN.out⟩
              case measure => simp [intOf]; omega
            · obtain rfl : j = 8 := by omega
              rw [List.take_of_length_le (Nat.le_of_eq HWL.out)] at H9
              have hl9 : (headL ws).length = 32 := by rw [HWS.out]; rfl
              have HL9 := Lib.hid (hl9)
              have HMK : Hid (makeL 2 6 fl cs = headL ws ++ catL cs) := Lib.hid (by unfold makeL; rw [← HWS.out])
              clear hl9
              go_wp2_with fail
              rw [show ((8 : Nat) : Int) = 8 from rfl]
              go_loopw [9, 11] (fun s9 s11 wl => ∃ k : Nat, k ≤ cs.length ∧ s11 = .int .i64 (k : Int) ∧ Buf wl w5.heap.size s9 (headL ws ++ catL (cs.take k)) ∧ Chg [] w5 wl) (fun _ s11 _ => cs.length - (intOf s11).toNat)
              case atStart => exact ⟨0, Nat.zero_le _, rfl, by rw [show headL ws ++ catL (cs.take 0) = headL ws from List.append_nil _]; exact H9.out, HC9.out⟩
              case round =>
                obtain ⟨k, hk, rfl, hbk, hchk⟩ := hrel
                have HBK := Lib.hid (hbk)
                have HCK := Lib.hid (hchk)
                clear hbk hchk
                obtain ⟨wk, rfl⟩ : ∃ wq, wq = wr := ⟨_, rfl⟩
                by_cases hlt : k < cs.length
                · obtain ⟨a', n', cap', he, _, _, _, hx⟩ := HR.out
                  cases he
                  obtain ⟨b, off, rfl, hb, hcell⟩ := hx (by rintro rfl; simp at hlt)
                  obtain ⟨_, a2, cap2, h2, h3⟩ := hcell k hlt
                  obtain ⟨c, hc⟩ : ∃ c, c = cs.getD k (0, []) := ⟨_, rfl⟩
                  rw [← hc] at h2 h3
                  have hs := catL_snoc cs k hlt
                  have hle := catL_get_le cs k hlt
                  rw [← hc] at hs hle
                  rw [← HT.out] at hle
                  have HS := Lib.hid (hs)
                  have kk := HW0.out.then (Hch.out.then (HW5.out.then HCK.out))
                  have k2 := kk.cell h2 (by simp)
                  have HR3 := Lib.hid (h3.frame kk (fun _ _ hm => by cases hm))
                  clear h2 h3 hcell hx hc hs kk
                  obtain ⟨m, l⟩ := c
                  simp only at hle k2
                  go_wp2_with (at_builtin; refine app_buf rfl _ _ rfl w5.heap.size u9 (headL ws ++ catL (cs.take k)) rfl HBK.out _ rfl l HR3.out (by have := HL9.out; rw [List.length_append]; omega) HCK.out.size ?_; intro va wa hoa hga haa; refine Hid.out ?_)
                  refine Lib.hid ?_
                  have HBN : Hid (Buf wa w5.heap.size va (headL ws ++ catL (cs.take (k + 1)))) := Lib.hid (by rw [HS.out, ← List.append_assoc]; exact hoa)
                  have HCN : Hid (Chg [] w5 wa) := Lib.hid (HCK.out.trans (Chg.of_grown hga) (fun i hm hi => by have := (World.ownsRow.lt HBK.out i (by simpa using hm)).1; omega))
                  clear hoa hga haa
                  go_wp2
                  go_roundw
                  case rel => exact ⟨k + 1, hlt, by go_num, HBN.out, HCN.out⟩
                  case measure => simp [intOf]; omega
                · obtain rfl : k = cs.length := by omega
                  rw [List.take_length, ← HMK.out] at HBK
                  go_wp2
                  go_ret2
                  rw [HE.out]
                  exact ⟨_, rfl, fun _ => HBK.out.rd, fun h => absurd rfl h, HW0.out.then (Hch.out.then (HW5.out.then HCK.out))⟩
theorem CRMake_may (sub kind fl : Nat) (hfl : fl < 4294967296) (cs : List Cmd) (a : Option Addr) (cap : Nat) (w : World) (rd : CmdRd w (.slice a cs.length cap) cs) (hlen : cs.length ≤ 1048576) (hl : (catL cs).length ≤ 70368744177664) (h : kindB sub kind = true) :
    Calls Tryd.prog 28 #[.agg #[.int .i64 sub, .int .i64 kind, .int .u32 fl], .slice a cs.length cap] w fun e w' => ∃ v, e = .returned (.tuple #[v, .int .i64 (makeE sub kind cs)]) ∧
      (makeE sub kind cs = 0 → Rd w' v (bytesV (makeL sub kind fl cs))) ∧ (makeE sub kind cs ≠ 0 → v = .slice none 0 0) ∧ Chg [] w w' := by
  have hk' : (sub = 0 ∨ sub = 2) ∧ (kind = 2 ∨ kind = 6) := by
    have : ((sub : Int) = 0 ∨ (sub : Int) = 2) ∧ ((kind : Int) = 2 ∨ (kind : Int) = 6) := by simpa [kindB] using h
    omega
  obtain ⟨hs2, hk2⟩ := hk'
  rcases hs2 with rfl | rfl <;> rcases hk2 with rfl | rfl
  · exact CRMake_0_2 fl hfl cs a cap w rd hlen hl
  · exact CRMake_0_6 fl hfl cs a cap w rd hlen hl
  · exact CRMake_2_2 fl hfl cs a cap w rd hlen hl
  · exact CRMake_2_6 fl hfl cs a cap w rd hlen hl
end Go.Proofs.YtchkombikjcokaaDoor
