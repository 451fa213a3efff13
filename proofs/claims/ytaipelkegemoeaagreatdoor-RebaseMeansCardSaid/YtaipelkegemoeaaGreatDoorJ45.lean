/- Lemmas, laid together: part 45 of 46. Conditions: none but each lemma's own. -/
import Derived.Test.YtaipelkegemoeaaGreatDoorJ44
import Derived.Test.YtaipelkegemoeaaGreatDoorJ1
import Derived.JoinedAt
import Derived.ChangeMaps5
import Derived.Deep.Slices
/- clevislaw13.RebaseMeans, walked. -/
namespace Go.Proofs.YtaipelkegemoeaaGreatDoor
open Go.RowKit
set_option maxRecDepth 100000

theorem rebL_len (ls : List Seg) (sl : List UInt8) (l : List Fx) : (rebL ls sl l).length = l.length := List.length_map _
theorem rebL_get (ls : List Seg) (sl : List UInt8) (l : List Fx) (k : Nat) (h : k < l.length) : (rebL ls sl l).getD k fxl.d = rebF (l.getD k fxl.d).at_ (wordS ls sl (l.getD k fxl.d).at_).1 := by
  unfold rebL
  rw [List.getD_eq_getElem?_getD, List.getElem?_map, List.getD_eq_getElem?_getD, List.getElem?_eq_getElem h]
  rfl
set_option maxHeartbeats 8000000 in
theorem RebaseMeans_no (W : World) (hg : Env W) (l : List UInt8) (a : Option Addr) (cap : Nat) (rb : byteL.Rd W (.slice a l.length cap) l) (fl : List Fx) (af : Option Addr) (capf : Nat) (h : ¬ ofE l = 0 ∨ 30000 < l.length ∨ 200 < fl.length) :
    Calls Tryz.prog 3 #[.slice a l.length cap, .slice af fl.length capf] W fun e W' => e = .returned (.bool true) ∧ Chg [] W W' := by
  have HK := Lib.hid (fun W hg => known13 W hg)
  have h2 := fun w rd => ROf_any l a cap w rd
  unfold OfSays at h2
  obtain ⟨E, hE⟩ : ∃ E, E = ofE l := ⟨_, rfl⟩
  rw [← hE] at h2 h
  have H2 := Lib.hid h2
  have HE := Lib.hid hE
  have RB := Lib.hid rb
  have Hg := Lib.hid hg
  clear h2 hE rb hg
  by_cases h0 : E = 0
  · subst h0
    by_cases hl : 30000 < l.length
    · have d1 : decide ((30000 : Int) < (l.length : Int)) = true := decide_eq_true (by omega)
      clear h
      go_enter Tryz.func3, Tryz.ntmps3
      go_wp2_with fail
      refine (H2.out _ RB.out).mono ?_
      rintro e W1 ⟨m, rfl, hch, hd, hz⟩
      have C1 := Lib.hid (hch)
      have HD := Lib.hid (hd)
      clear hch hd hz
      go_wp2_with ((with_reducible refine Lay.alL Tryz.tImg ?_); intro W2 bm ebm cbm xbm; replace ebm := Lib.hid ebm; replace cbm := Lib.hid cbm; replace xbm := Lib.hid xbm; refine Hid.out ?_)
      refine Lib.hid ?_
      go_wp2_with ((with_reducible refine Lay.stL Tryz.tImg m (xbm.out) ?_ ?_ ?_); exact rfl; exact rfl; intro W3 cW3 xW3; replace cW3 := Lib.hid cW3; replace xW3 := Lib.hid xW3; refine Hid.out ?_)
      refine Lib.hid ?_
      have C13 : Hid (Chg [] W1 W3) := Lib.hid (cbm.out.new cW3.out (by rw [ebm.out]; exact Nat.le_refl _))
      have C3 : Hid (Chg [] W W3) := Lib.hid (C1.out.then C13.out)
      have XM3 := Lib.hid (xW3.out)
      go_wp2_with fail
      refine (HK.out _ (Hg.out.frame C3.out (by simp))).mono ?_
      rintro e WK ⟨rfl, hk⟩
      have Hk := Lib.hid hk
      clear hk
      go_wp2
      go_ret
      exact ⟨rfl, (C3.out).then Hk.out⟩
    · have hf : 200 < fl.length := by
        rcases h with h | h | h
        · exact absurd rfl h
        · exact absurd h hl
        · exact h
      have d1 : decide ((30000 : Int) < (l.length : Int)) = false := decide_eq_false (by omega)
      have d2 : decide ((200 : Int) < (fl.length : Int)) = true := decide_eq_true (by omega)
      clear h
      go_enter Tryz.func3, Tryz.ntmps3
      go_wp2_with fail
      refine (H2.out _ RB.out).mono ?_
      rintro e W1 ⟨m, rfl, hch, hd, hz⟩
      have C1 := Lib.hid (hch)
      have HD := Lib.hid (hd)
      clear hch hd hz
      go_wp2_with ((with_reducible refine Lay.alL Tryz.tImg ?_); intro W2 bm ebm cbm xbm; replace ebm := Lib.hid ebm; replace cbm := Lib.hid cbm; replace xbm := Lib.hid xbm; refine Hid.out ?_)
      refine Lib.hid ?_
      go_wp2_with ((with_reducible refine Lay.stL Tryz.tImg m (xbm.out) ?_ ?_ ?_); exact rfl; exact rfl; intro W3 cW3 xW3; replace cW3 := Lib.hid cW3; replace xW3 := Lib.hid xW3; refine Hid.out ?_)
      refine Lib.hid ?_
      have C13 : Hid (Chg [] W1 W3) := Lib.hid (cbm.out.new cW3.out (by rw [ebm.out]; exact Nat.le_refl _))
      have C3 : Hid (Chg [] W W3) := Lib.hid (C1.out.then C13.out)
      have XM3 := Lib.hid (xW3.out)
      go_wp2_with fail
      refine (HK.out _ (Hg.out.frame C3.out (by simp))).mono ?_
      rintro e WK ⟨rfl, hk⟩
      have Hk := Lib.hid hk
      clear hk
      go_wp2
      go_ret
      exact ⟨rfl, (C3.out).then Hk.out⟩
  · have e0 : (E == 0) = false := by rw [beq_eq_false_iff_ne]; exact h0
    clear h
    go_enter Tryz.func3, Tryz.ntmps3
    go_wp2_with fail
    refine (H2.out _ RB.out).mono ?_
    rintro e W1 ⟨m, rfl, hch, hd, hz⟩
    have C1 := Lib.hid (hch)
    have HD := Lib.hid (hd)
    clear hch hd hz
    go_wp2_with ((with_reducible refine Lay.alL Tryz.tImg ?_); intro W2 bm ebm cbm xbm; replace ebm := Lib.hid ebm; replace cbm := Lib.hid cbm; replace xbm := Lib.hid xbm; refine Hid.out ?_)
    refine Lib.hid ?_
    go_wp2_with ((with_reducible refine Lay.stL Tryz.tImg m (xbm.out) ?_ ?_ ?_); exact rfl; exact rfl; intro W3 cW3 xW3; replace cW3 := Lib.hid cW3; replace xW3 := Lib.hid xW3; refine Hid.out ?_)
    refine Lib.hid ?_
    have C13 : Hid (Chg [] W1 W3) := Lib.hid (cbm.out.new cW3.out (by rw [ebm.out]; exact Nat.le_refl _))
    have C3 : Hid (Chg [] W W3) := Lib.hid (C1.out.then C13.out)
    have XM3 := Lib.hid (xW3.out)
    go_wp2_with fail
    refine (HK.out _ (Hg.out.frame C3.out (by simp))).mono ?_
    rintro e WK ⟨rfl, hk⟩
    have Hk := Lib.hid hk
    clear hk
    go_wp2
    go_ret
    exact ⟨rfl, (C3.out).then Hk.out⟩
set_option maxHeartbeats 8000000 in
theorem RebaseMeans_yes (W : World) (hg : Env W) (l : List UInt8) (a : Option Addr) (cap : Nat) (rb : byteL.Rd W (.slice a l.length cap) l) (fl : List Fx) (af : Option Addr) (capf : Nat) (rf : FxRd W (.slice af fl.length capf) fl) (hat : ∀ f ∈ fl, 0 ≤ f.at_ ∧ f.at_ < 18446744073709551616) (h0 : ofE l = 0) (hl : ¬ 30000 < l.length) (hf : ¬ 200 < fl.length) :
    Calls Tryz.prog 3 #[.slice a l.length cap, .slice af fl.length capf] W fun e W' => e = .returned (.bool true) ∧ Chg [] W W' := by
  have HK := Lib.hid (fun W hg => known13 W hg)
  have h2 := fun w rd => ROf_any l a cap w rd
  unfold OfSays at h2
  rw [h0] at h2
  have d1 : decide ((30000 : Int) < (l.length : Int)) = false := decide_eq_false (by omega)
  have d2 : decide ((200 : Int) < (fl.length : Int)) = false := decide_eq_false (by omega)
  obtain ⟨S, hS⟩ : ∃ S, S = setF fl := ⟨_, rfl⟩
  have HSL : Hid (S.length ≤ 200) := Lib.hid (by have := setF_len fl; rw [← hS] at this; omega)
  have HRS := Lib.hid (fun v w rd => RSet_any fl v w rd (by omega))
  rw [← hS] at HRS
  have HSA : Hid (∀ k, k < S.length → 0 ≤ (S.getD k fxl.d).at_ ∧ (S.getD k fxl.d).at_ < 18446744073709551616) := by
    refine Lib.hid ?_
    intro k hk
    rw [List.getD_eq_getElem?_getD, List.getElem?_eq_getElem hk]
    exact hat _ (mem_setF.1 (hS ▸ List.getElem_mem hk))
  have H2 := Lib.hid h2
  have RB := Lib.hid rb
  have Hg := Lib.hid hg
  have RF := Lib.hid rf
  have H0 := Lib.hid h0
  have HS := Lib.hid hS
  have Hat := Lib.hid hat
  clear h2 rb hg rf h0 hS hat
  go_enter Tryz.func3, Tryz.ntmps3
  go_wp2_with fail
  refine (H2.out _ RB.out).mono ?_
  rintro e W1 ⟨m, rfl, hch, hd, hz⟩
  have C1 := Lib.hid (hch)
  have HD := Lib.hid (hd)
  clear hch hd hz
  go_wp2_with ((with_reducible refine Lay.alL Tryz.tImg ?_); intro W2 bm ebm cbm xbm; replace ebm := Lib.hid ebm; replace cbm := Lib.hid cbm; replace xbm := Lib.hid xbm; refine Hid.out ?_)
  refine Lib.hid ?_
  go_wp2_with ((with_reducible refine Lay.stL Tryz.tImg m (xbm.out) ?_ ?_ ?_); exact rfl; exact rfl; intro W3 cW3 xW3; replace cW3 := Lib.hid cW3; replace xW3 := Lib.hid xW3; refine Hid.out ?_)
  refine Lib.hid ?_
  have C13 : Hid (Chg [] W1 W3) := Lib.hid (cbm.out.new cW3.out (by rw [ebm.out]; exact Nat.le_refl _))
  have C3 : Hid (Chg [] W W3) := Lib.hid (C1.out.then C13.out)
  have XM3 := Lib.hid (xW3.out)
  obtain ⟨xs, hxs1, hxs2, hxs3⟩ := segR_of H0.out (HD.out (by first | rfl | trivial))
  have DS : Hid (segL.Rd W3 m.segs.v xs) := Lib.hid (hxs1.frame C13.out)
  have SR := Lib.hid (hxs2)
  have OB : Hid (∀ k, m.segs.v.ownBlock = some k → k < W3.heap.size) := Lib.hid (fun k hk => Nat.lt_of_lt_of_le (hxs3 k hk) C13.out.size)
  clear hxs1 hxs2 hxs3 HD
  have HM := Lib.hid (fun v w rd hl => Make_any m xs SR.out fl (by omega) Hat.out v w rd hl)
  rw [← HS.out] at HM
  have RF3 : Hid (FxRd W3 (.slice af fl.length capf) fl) := Lib.hid (RF.out.frame C3.out)
  go_wp2_with ((with_reducible refine Lay.ldL Tryz.tImg m (XM3.out.in) ?_ ?_); exact rfl; refine Hid.out ?_)
  refine Lib.hid ?_
  go_wp2_with fail
  refine (HM.out _ _ DS.out RF3.out).mono ?_
  unfold MakeP
  rintro e W4 ⟨so, E1, rfl, hch, hgood⟩
  have C34 := Lib.hid (hch)
  have C4 : Hid (Chg [] W W4) := Lib.hid (C3.out.then hch)
  clear hch HM
  by_cases he1 : E1 = 0
  · subst he1
    obtain ⟨hb, hk, hmt⟩ := hgood rfl
    have GB : Hid (byteL.Rd W4 so.v (mkAll xs S)) := Lib.hid (hb.rd)
    have GR : Hid (GoodR xs S) := Lib.hid (⟨fun x hx => (hk x hx).2.2, fun j hj => good_up (HS.out ▸ ss_setF fl) hmt j hj⟩)
    clear hb hk hmt hgood
    have HDE := Lib.hid (fun w hw slv m hd stv hst => Decode_made xs SR.out l S GR.out (by have := HSL.out; omega) (by have := mkAll_len xs S; have := HSL.out; omega) w hw slv m hd stv hst)
    go_wp2_with fail
    refine (HRS.out _ _ (RF3.out.frame C34.out)).mono ?_
    rintro e W5 ⟨v5, rfl, hb5, hc5⟩
    obtain ⟨a5, c5, rfl, _⟩ := (fb_of hb5).rd.shape
    have FB5 := Lib.hid (fb_of hb5)
    have C35 : Hid (Chg [] W3 W5) := Lib.hid (C34.out.then hc5)
    have GB5 := Lib.hid (GB.out.frame hc5)
    clear hb5 hc5
    go_wp2_with ((with_reducible refine Lay.ldL Tryz.tImg m (((XM3.out.frame C35.out).in)) ?_ ?_); exact rfl; refine Hid.out ?_)
    refine Lib.hid ?_
    have di : DIn W5 { Rdr.zero with sl := ⟨a, l.length, cap⟩, m := m } xs l := by
      refine ⟨SR.out.b, DS.out.frame C35.out, by omega, RB.out.frame (C3.out.then C35.out), fun k hk => Nat.lt_of_lt_of_le (OB.out k hk) C35.out.size, fun k hk => ?_⟩
      obtain ⟨b, hb1, hb2⟩ := (RB.out.frame (C3.out.then C35.out)).block (of_ne H0.out)
      have : some b = some k := hb1.symm.trans hk
      cases this
      exact hb2
    have DI := Lib.hid di
    clear di
    go_wp2_with fail
    refine (HDE.out W5 (Hg.out.frame (C3.out.then C35.out) (by simp)) ⟨a, l.length, cap⟩ m DI.out _ (Rd_of_byte GB5.out)).mono ?_
    rintro e W6 ⟨so2, rfl, hc6, hfb⟩
    obtain ⟨a6, c6, he6, _⟩ := hfb.rd.shape
    rw [rebL_len] at he6
    rw [he6] at hfb ⊢
    have FB6 := Lib.hid (hfb)
    have C6 : Hid (Chg [] W W6) := Lib.hid ((C3.out.then C35.out).then hc6)
    have C36 : Hid (Chg [] W3 W6) := Lib.hid (C35.out.then hc6)
    have FB56 := Lib.hid (FB5.out.pure hc6)
    clear hfb hc6 he6
    go_wp2_with fail
    go_loopw [12] (fun s12 wr => ∃ k : Nat, k ≤ S.length ∧ s12 = .int .i64 (k : Int) ∧ Chg [] W6 wr) (fun s12 _ => S.length - (intOf s12).toNat)
    case atStart => exact ⟨0, Nat.zero_le _, rfl, Chg.refl _ _⟩
    case round =>
      obtain ⟨k, hk, rfl, hc⟩ := hrel
      have CW := Lib.hid hc
      clear hc
      have hSl := HSL.out
      by_cases hlt : k < S.length
      · have dlt : decide ((k : Int) < (S.length : Int)) = true := decide_eq_true (by omega)
        have dlt' : decide (k < S.length) = true := decide_eq_true hlt
        have hlt2 : (k : Int) < (S.length : Int) := by omega
        obtain ⟨g5, cp5, he5, _, _, _, _, _, _, hIn5⟩ := FB56.out.at (by omega)
        cases he5
        obtain ⟨g6, cp6, he6, _, _, _, _, _, _, hIn6⟩ := FB6.out.at (by rw [rebL_len]; omega)
        rw [rebL_len] at he6 hIn6
        cases he6
        obtain ⟨x, hx⟩ : ∃ x, x = S.getD k fxl.d := ⟨_, rfl⟩
        obtain ⟨q, hq⟩ : ∃ q, q = (wordS xs l x.at_).1 := ⟨_, rfl⟩
        have hxa := HSA.out k hlt
        rw [← hx] at hxa
        have hw0 : (wordS xs l x.at_).2 = 0 := by
          refine word_of_wr (GR.out.wr x ?_)
          rw [hx, List.getD_eq_getElem?_getD, List.getElem?_eq_getElem hlt]
          exact List.getElem_mem hlt
        have hwo := fun w rl rd => rWord_any l (.slice a l.length cap) m xs SR.out.b SR.out.e x.at_ hxa.2 w rl rd
        rw [hw0, ← hq] at hwo
        have Hwo := Lib.hid hwo
        clear hwo
        have y0 : wr.cell? ⟨g5, k * 7, none⟩ = some (.int .u64 x.at_) := by
          have := ((hIn5 k hlt).frame CW.out) 0 (by decide)
          rw [Nat.add_zero] at this
          rw [hx]
          exact this
        have hI6 := (hIn6 k hlt).frame CW.out
        rw [rebL_get _ _ _ _ hlt, ← hx, ← hq] at hI6
        have hneq : ∀ W, (binOp .neq 46 (.agg (fxl.f (rebF x.at_ q)).toArray) (.agg #[.int .u64 x.at_, .int .i64 1, .int .u64 q, .int .i64 0, .string ⟨#[]⟩, .int .i64 0, .bool false])).run Tryz.prog W = .ok (.bool false) W := fun W => by
          have := fx_neq (rebF x.at_ q) (rebF x.at_ q) W
          rw [decide_eq_true rfl] at this
          exact this
        have hw1 : wrap64 ((k : Int) + 1) = (k : Int) + 1 := by unfold wrap64; omega
        have XMR := Lib.hid ((XM3.out.frame C36.out).frame CW.out)
        have RBR := Lib.hid (RB.out.frame (C6.out.then CW.out))
        have DSR := Lib.hid (DS.out.frame (C36.out.then CW.out))
        have HI6 := Lib.hid hI6
        have Hx := Lib.hid hx
        have Hq := Lib.hid hq
        have Hw0 := Lib.hid hw0
        have Hxa := Lib.hid hxa
        clear hI6 hx hq hw0 hxa
        clear hIn5 hIn6
        go_upto_region 14 with fail
        refine wp_region_noPanic ?_
        refine wp_region_held_drew (S := fun w' => Chg [] wr w') (by kernel_rfl) ((Chg.refl _ _).drew) (fun hHeld => ?_)
        refine take_read (i := 0) (v := ?_) (by simp only [List.getElem?_toArray, List.getElem?_cons_zero]; rfl) (by kernel_rfl) (by kernel_rfl) (by kernel_rfl) (fun _ _ _ h => h) hHeld ?_ ?_
        rotate_left
        · intro w hSw
          go_simp
          try with_reducible rfl
        try simp only [Act.put, List.setIfInBounds_toArray, List.set_cons_zero, List.set_cons_succ]
        refine take_read (i := 1) (v := ?_) (by simp only [List.getElem?_toArray, List.getElem?_cons_succ, List.getElem?_cons_zero]; rfl) (by kernel_rfl) (by kernel_rfl) (by kernel_rfl) (fun _ _ _ h => h) hHeld ?_ ?_
        rotate_left
        · intro w hSw
          refine Lay.read_ld Tryz.tImg ((XMR.out.frame hSw).in) ?_ ?_
          exact rfl
          exact rfl
        try simp only [Act.put, List.setIfInBounds_toArray, List.set_cons_zero, List.set_cons_succ]
        refine take_read (i := 2) (v := ?_) (by simp only [List.getElem?_toArray, List.getElem?_cons_succ, List.getElem?_cons_zero]; rfl) (by kernel_rfl) (by kernel_rfl) (by kernel_rfl) (fun _ _ _ h => h) hHeld ?_ ?_
        rotate_left
        · intro w hSw
          go_simp
          try with_reducible rfl
        try simp only [Act.put, List.setIfInBounds_toArray, List.set_cons_zero, List.set_cons_succ]
        refine take_read (i := 3) (v := ?_) (by simp only [List.getElem?_toArray, List.getElem?_cons_succ, List.getElem?_cons_zero]; rfl) (by kernel_rfl) (by kernel_rfl) (by kernel_rfl) (fun _ _ _ h => h) hHeld ?_ ?_
        rotate_left
        · intro w hSw
          go_simp
          try with_reducible rfl
        try simp only [Act.put, List.setIfInBounds_toArray, List.set_cons_zero, List.set_cons_succ]
        refine take_read (i := 4) (v := ?_) (by simp only [List.getElem?_toArray, List.getElem?_cons_succ, List.getElem?_cons_zero]; rfl) (by kernel_rfl) (by kernel_rfl) (by kernel_rfl) (fun _ _ _ h => h) hHeld ?_ ?_
        rotate_left
        · intro w hSw
          go_simp
          try with_reducible rfl
        try simp only [Act.put, List.setIfInBounds_toArray, List.set_cons_zero, List.set_cons_succ]
        refine take_read (i := 5) (v := ?_) (by simp only [List.getElem?_toArray, List.getElem?_cons_succ, List.getElem?_cons_zero]; rfl) (by kernel_rfl) (by kernel_rfl) (by kernel_rfl) (fun _ _ _ h => h) hHeld ?_ ?_
        rotate_left
        · intro w hSw
          go_simp
          try with_reducible rfl
        try simp only [Act.put, List.setIfInBounds_toArray, List.set_cons_zero, List.set_cons_succ]
        refine take_read (i := 6) (v := ?_) (by simp only [List.getElem?_toArray, List.getElem?_cons_succ, List.getElem?_cons_zero]; rfl) (by kernel_rfl) (by kernel_rfl) (by kernel_rfl) (fun _ _ _ h => h) hHeld ?_ ?_
        rotate_left
        · intro w hSw
          have y0 := hSw.cell y0 (by simp)
          go_simp
          try with_reducible rfl
        try simp only [Act.put, List.setIfInBounds_toArray, List.set_cons_zero, List.set_cons_succ]
        refine wpAnyH_ready (rs := [7]) (by kernel_rfl) (by simp) ?_
        refine AllReadyH.cons rfl (fun K hK => ?_) AllReadyH.nil
        go_simp
        refine (Hwo.out _ (RBR.out.frame hHeld) (DSR.out.frame hHeld)).mono ?_
        rintro e W7 ⟨rfl, hc⟩
        have A7 := Lib.hid (hHeld.then hc)
        clear hc
        refine hK.out _ _ A7.out (fun hHeld2 => ?_)
        clear hK hHeld K
        have hHeld := hHeld2
        clear hHeld2
        try (unfold Act.put; simp only [List.setIfInBounds_toArray, List.set_cons_zero, List.set_cons_succ])
        refine take_read (i := 8) (v := ?_) (by simp only [List.getElem?_toArray, List.getElem?_cons_succ, List.getElem?_cons_zero]; rfl) (by kernel_rfl) (by kernel_rfl) (by kernel_rfl) (fun _ _ _ h => h) hHeld ?_ ?_
        rotate_left
        · intro w hSw
          go_simp
          try with_reducible rfl
        try simp only [Act.put, List.setIfInBounds_toArray, List.set_cons_zero, List.set_cons_succ]
        refine take_read (i := 9) (v := ?_) (by simp only [List.getElem?_toArray, List.getElem?_cons_succ, List.getElem?_cons_zero]; rfl) (by kernel_rfl) (by kernel_rfl) (by kernel_rfl) (fun _ _ _ h => h) hHeld ?_ ?_
        rotate_left
        · intro w hSw
          go_simp
          try with_reducible rfl
        try simp only [Act.put, List.setIfInBounds_toArray, List.set_cons_zero, List.set_cons_succ]
        refine take_read (i := 10) (v := ?_) (by simp only [List.getElem?_toArray, List.getElem?_cons_succ, List.getElem?_cons_zero]; rfl) (by kernel_rfl) (by kernel_rfl) (by kernel_rfl) (fun _ _ _ h => h) hHeld ?_ ?_
        rotate_left
        · intro w hSw
          go_simp
          try with_reducible rfl
        try simp only [Act.put, List.setIfInBounds_toArray, List.set_cons_zero, List.set_cons_succ]
        refine take_read (i := 11) (v := ?_) (by simp only [List.getElem?_toArray, List.getElem?_cons_succ, List.getElem?_cons_zero]; rfl) (by kernel_rfl) (by kernel_rfl) (by kernel_rfl) (fun _ _ _ h => h) hHeld ?_ ?_
        rotate_left
        · intro w hSw
          go_simp
          try with_reducible rfl
        try simp only [Act.put, List.setIfInBounds_toArray, List.set_cons_zero, List.set_cons_succ]
        refine take_read (i := 12) (v := ?_) (by simp only [List.getElem?_toArray, List.getElem?_cons_succ, List.getElem?_cons_zero]; rfl) (by kernel_rfl) (by kernel_rfl) (by kernel_rfl) (fun _ _ _ h => h) hHeld ?_ ?_
        rotate_left
        · intro w hSw
          go_simp
          try with_reducible rfl
        try simp only [Act.put, List.setIfInBounds_toArray, List.set_cons_zero, List.set_cons_succ]
        refine wpAnyH_done (by kernel_rfl) ?_ _
        refine NoPanic.normal ?_
        clear hHeld
        replace y0 := A7.out.cell y0 (by simp)
        have I7 := Lib.hid (HI6.out.frame A7.out)
        go_upto_region 15 with fail
        refine wp_region_noPanic ?_
        refine wp_region_held_drew (S := fun w' => Chg [] W7 w') (by kernel_rfl) ((Chg.refl _ _).drew) (fun hHeld => ?_)
        refine take_read (i := 0) (v := ?_) (by simp only [List.getElem?_toArray, List.getElem?_cons_zero]; rfl) (by kernel_rfl) (by kernel_rfl) (by kernel_rfl) (fun _ _ _ h => h) hHeld ?_ ?_
        rotate_left
        · intro w hSw
          go_simp
          try with_reducible rfl
        try simp only [Act.put, List.setIfInBounds_toArray, List.set_cons_zero, List.set_cons_succ]
        refine take_read (i := 1) (v := ?_) (by simp only [List.getElem?_toArray, List.getElem?_cons_succ, List.getElem?_cons_zero]; rfl) (by kernel_rfl) (by kernel_rfl) (by kernel_rfl) (fun _ _ _ h => h) hHeld ?_ ?_
        rotate_left
        · intro w hSw
          go_simp
          try with_reducible rfl
        try simp only [Act.put, List.setIfInBounds_toArray, List.set_cons_zero, List.set_cons_succ]
        refine take_read (i := 2) (v := ?_) (by simp only [List.getElem?_toArray, List.getElem?_cons_succ, List.getElem?_cons_zero]; rfl) (by kernel_rfl) (by kernel_rfl) (by kernel_rfl) (fun _ _ _ h => h) hHeld ?_ ?_
        rotate_left
        · intro w hSw
          go_simp
          try with_reducible rfl
        try simp only [Act.put, List.setIfInBounds_toArray, List.set_cons_zero, List.set_cons_succ]
        refine take_read (i := 3) (v := ?_) (by simp only [List.getElem?_toArray, List.getElem?_cons_succ, List.getElem?_cons_zero]; rfl) (by kernel_rfl) (by kernel_rfl) (by kernel_rfl) (fun _ _ _ h => h) hHeld ?_ ?_
        rotate_left
        · intro w hSw
          go_simp
          try with_reducible rfl
        try simp only [Act.put, List.setIfInBounds_toArray, List.set_cons_zero, List.set_cons_succ]
        refine take_read (i := 4) (v := ?_) (by simp only [List.getElem?_toArray, List.getElem?_cons_succ, List.getElem?_cons_zero]; rfl) (by kernel_rfl) (by kernel_rfl) (by kernel_rfl) (fun _ _ _ h => h) hHeld ?_ ?_
        rotate_left
        · intro w hSw
          go_simp
          try with_reducible rfl
        try simp only [Act.put, List.setIfInBounds_toArray, List.set_cons_zero, List.set_cons_succ]
        refine take_read (i := 5) (v := ?_) (by simp only [List.getElem?_toArray, List.getElem?_cons_succ, List.getElem?_cons_zero]; rfl) (by kernel_rfl) (by kernel_rfl) (by kernel_rfl) (fun _ _ _ h => h) hHeld ?_ ?_
        rotate_left
        · intro w hSw
          go_simp
          try with_reducible rfl
        try simp only [Act.put, List.setIfInBounds_toArray, List.set_cons_zero, List.set_cons_succ]
        refine take_read (i := 6) (v := ?_) (by simp only [List.getElem?_toArray, List.getElem?_cons_succ, List.getElem?_cons_zero]; rfl) (by kernel_rfl) (by kernel_rfl) (by kernel_rfl) (fun _ _ _ h => h) hHeld ?_ ?_
        rotate_left
        · intro w hSw
          refine Lay.read_ld Tryz.tFx ((I7.out.frame hSw)) ?_ ?_
          exact rfl
          exact rfl
        try simp only [Act.put, List.setIfInBounds_toArray, List.set_cons_zero, List.set_cons_succ]
        refine take_read (i := 7) (v := ?_) (by simp only [List.getElem?_toArray, List.getElem?_cons_succ, List.getElem?_cons_zero]; rfl) (by kernel_rfl) (by kernel_rfl) (by kernel_rfl) (fun _ _ _ h => h) hHeld ?_ ?_
        rotate_left
        · intro w hSw
          go_simp
          try with_reducible rfl
        try simp only [Act.put, List.setIfInBounds_toArray, List.set_cons_zero, List.set_cons_succ]
        refine take_read (i := 8) (v := ?_) (by simp only [List.getElem?_toArray, List.getElem?_cons_succ, List.getElem?_cons_zero]; rfl) (by kernel_rfl) (by kernel_rfl) (by kernel_rfl) (fun _ _ _ h => h) hHeld ?_ ?_
        rotate_left
        · intro w hSw
          go_simp
          try with_reducible rfl
        try simp only [Act.put, List.setIfInBounds_toArray, List.set_cons_zero, List.set_cons_succ]
        refine take_read (i := 9) (v := ?_) (by simp only [List.getElem?_toArray, List.getElem?_cons_succ, List.getElem?_cons_zero]; rfl) (by kernel_rfl) (by kernel_rfl) (by kernel_rfl) (fun _ _ _ h => h) hHeld ?_ ?_
        rotate_left
        · intro w hSw
          go_simp
          try with_reducible rfl
        try simp only [Act.put, List.setIfInBounds_toArray, List.set_cons_zero, List.set_cons_succ]
        refine take_read (i := 10) (v := ?_) (by simp only [List.getElem?_toArray, List.getElem?_cons_succ, List.getElem?_cons_zero]; rfl) (by kernel_rfl) (by kernel_rfl) (by kernel_rfl) (fun _ _ _ h => h) hHeld ?_ ?_
        rotate_left
        · intro w hSw
          go_simp
          try with_reducible rfl
        try simp only [Act.put, List.setIfInBounds_toArray, List.set_cons_zero, List.set_cons_succ]
        refine take_read (i := 11) (v := ?_) (by simp only [List.getElem?_toArray, List.getElem?_cons_succ, List.getElem?_cons_zero]; rfl) (by kernel_rfl) (by kernel_rfl) (by kernel_rfl) (fun _ _ _ h => h) hHeld ?_ ?_
        rotate_left
        · intro w hSw
          have y0 := hSw.cell y0 (by simp)
          go_simp
          try with_reducible rfl
        try simp only [Act.put, List.setIfInBounds_toArray, List.set_cons_zero, List.set_cons_succ]
        refine take_read (i := 12) (v := ?_) (by simp only [List.getElem?_toArray, List.getElem?_cons_succ, List.getElem?_cons_zero]; rfl) (by kernel_rfl) (by kernel_rfl) (by kernel_rfl) (fun _ _ _ h => h) hHeld ?_ ?_
        rotate_left
        · intro w hSw
          go_simp
          try with_reducible rfl
        try simp only [Act.put, List.setIfInBounds_toArray, List.set_cons_zero, List.set_cons_succ]
        refine take_read (i := 13) (v := ?_) (by simp only [List.getElem?_toArray, List.getElem?_cons_succ, List.getElem?_cons_zero]; rfl) (by kernel_rfl) (by kernel_rfl) (by kernel_rfl) (fun _ _ _ h => h) hHeld ?_ ?_
        rotate_left
        · intro w hSw
          go_simp
          try with_reducible rfl
        try simp only [Act.put, List.setIfInBounds_toArray, List.set_cons_zero, List.set_cons_succ]
        refine take_read (i := 14) (v := ?_) (by simp only [List.getElem?_toArray, List.getElem?_cons_succ, List.getElem?_cons_zero]; rfl) (by kernel_rfl) (by kernel_rfl) (by kernel_rfl) (fun _ _ _ h => h) hHeld ?_ ?_
        rotate_left
        · intro w hSw
          go_simp
          try with_reducible rfl
        try simp only [Act.put, List.setIfInBounds_toArray, List.set_cons_zero, List.set_cons_succ]
        refine take_read (i := 15) (v := ?_) (by simp only [List.getElem?_toArray, List.getElem?_cons_succ, List.getElem?_cons_zero]; rfl) (by kernel_rfl) (by kernel_rfl) (by kernel_rfl) (fun _ _ _ h => h) hHeld ?_ ?_
        rotate_left
        · intro w hSw
          go_simp
          try with_reducible rfl
        try simp only [Act.put, List.setIfInBounds_toArray, List.set_cons_zero, List.set_cons_succ]
        refine wpAnyH_done (by kernel_rfl) ?_ _
        refine NoPanic.normal ?_
        have A8 : Hid (Chg [] W7 _) := Lib.hid (hHeld)
        clear hHeld y0
        go_wp2
        go_roundw
        case rel => exact ⟨k + 1, hlt, by first | rfl | exact congrArg (Value.int .i64) hw1 | go_num, (CW.out.then A7.out).then A8.out⟩
        case measure => first | exact meas_v hlt | exact meas_w hw1 hlt
      · obtain rfl : k = S.length := by omega
        have dlt : decide ((S.length : Int) < (S.length : Int)) = false := decide_eq_false (by omega)
        go_wp2_with fail
        refine (HK.out _ (Hg.out.frame (C6.out.then CW.out) (by simp))).mono ?_
        rintro e WK ⟨rfl, hk⟩
        have Hk := Lib.hid hk
        clear hk
        go_wp2
        go_ret
        exact ⟨rfl, ((C6.out.then CW.out)).then Hk.out⟩
  · have e1 : (E1 == 0) = false := by rw [beq_eq_false_iff_ne]; exact he1
    clear hgood
    go_wp2_with fail
    refine (HK.out _ (Hg.out.frame C4.out (by simp))).mono ?_
    rintro e WK ⟨rfl, hk⟩
    have Hk := Lib.hid hk
    clear hk
    go_wp2
    go_ret
    exact ⟨rfl, (C4.out).then Hk.out⟩
theorem RebaseMeans_walk (W : World) (hg : Env W) (l : List UInt8) (a : Option Addr) (cap : Nat) (rd : Rd W (.slice a l.length cap) (bytesV l)) (fl : List Fx) (af : Option Addr) (capf : Nat) (rf : FxRd W (.slice af fl.length capf) fl) (hat : ∀ f ∈ fl, 0 ≤ f.at_ ∧ f.at_ < 18446744073709551616) :
    Calls Tryz.prog 3 #[.slice a l.length cap, .slice af fl.length capf] W fun e W' => e = .returned (.bool true) ∧ Chg [] W W' := by
  by_cases h : ofE l = 0 ∧ ¬ 30000 < l.length ∧ ¬ 200 < fl.length
  · exact RebaseMeans_yes W hg l a cap (Rd_to_byte rd) fl af capf rf hat h.1 h.2.1 h.2.2
  · refine RebaseMeans_no W hg l a cap (Rd_to_byte rd) fl af capf ?_
    by_cases h0 : ofE l = 0
    · by_cases hl : 30000 < l.length
      · exact .inr (.inl hl)
      · exact .inr (.inr (Nat.lt_of_not_le fun hf => h ⟨h0, hl, by omega⟩))
    · exact .inl h0
end Go.Proofs.YtaipelkegemoeaaGreatDoor
/- Records that came in, behind a door: the general part of XEndB. -/
namespace Go.Proofs.YtaipelkegemoeaaGreatDoor
open Go.ChangeShapes Go.WideShapes Go.RowKit
def tyOf : TypeDesc → List (TypeId × Nat)
  | .struct fs => fs.toList.map fun f => (f.type, f.offset)
  | _ => []
section
variable {H : Type} {enc : TypeId × Value → H} {P : Program} {w : World} {base : Nat} {spare : Nat → Bool} {held : Bool}
theorem struct_at {t : TypeId} {l : List (TypeId × Nat)} (h : (P.underlying t).map tyOf = some l) (hne : l ≠ []) {fuel : Nat} {cs : List Value} {x : DataW H × List MemPlace}
    (ht : DataW.trod enc P w base spare held fuel t cs = some x) :
    cs.length = P.cellsOf t ∧ ∀ (j : Nat) (ty : TypeId) (o : Nat), l[j]? = some (ty, o) → ∃ n y, DataW.trod enc P w base spare held n ty ((cs.drop o).take (P.cellsOf ty)) = some y := by
  cases hu : P.underlying t with
  | none => rw [hu] at h; cases h
  | some d =>
    rw [hu] at h
    simp only [Option.map_some, Option.some.injEq] at h
    cases d with
    | struct fs =>
      obtain ⟨xs, n, _, rfl, hl, hlen, hf⟩ := DataW.trod_struct hu ht
      refine ⟨hl, fun j ty o hj => ?_⟩
      rw [← h] at hj
      simp only [tyOf, List.getElem?_map, Array.getElem?_toList] at hj
      cases hfj : fs[j]? with
      | none => rw [hfj] at hj; cases hj
      | some f =>
        rw [hfj] at hj
        simp only [Option.map_some, Option.some.injEq, Prod.mk.injEq] at hj
        obtain ⟨rfl, rfl⟩ := hj
        have hjl : j < fs.size := (Array.getElem?_eq_some_iff.1 hfj).1
        have hy : xs[j]? = some (xs[j]'(by omega)) := List.getElem?_eq_getElem (by omega)
        exact ⟨_, _, (hf j f hfj).trans hy⟩
    | _ => exact absurd h.symm hne
theorem int_at {t : TypeId} {K : IntKind} (hu : P.underlying t = some (.int K)) {n o k : Nat} {cs : List Value} {y : DataW H × List MemPlace} (h : DataW.trod enc P w base spare held n t ((cs.drop o).take k) = some y) :
    ∃ z : Int, cs[o]? = some (.int K z) ∧ (Lit.int K z).wf = true := by
  obtain ⟨z, hc, _, hw⟩ := DataW.trod_int hu h
  refine ⟨z, ?_, hw⟩
  have : ((cs.drop o).take k)[0]? = some (.int K z) := by rw [hc]; rfl
  rw [List.getElem?_take] at this
  split at this
  · simpa using this
  · cases this
end
section
variable {H : Type} {enc : TypeId × Value → H} {P : Program} {w : World} {base : Nat} {spare : Nat → Bool} {held : Bool}
theorem str_at {t : TypeId} (hu : P.underlying t = some .string) {n o k : Nat} {cs : List Value} {y : DataW H × List MemPlace} (h : DataW.trod enc P w base spare held n t ((cs.drop o).take k) = some y) :
    ∃ s : ByteArray, cs[o]? = some (.string s) := by
  obtain ⟨z, hc, _, _⟩ := DataW.trod_string hu h
  refine ⟨z, ?_⟩
  have : ((cs.drop o).take k)[0]? = some (.string z) := by rw [hc]; rfl
  rw [List.getElem?_take] at this
  split at this
  · simpa using this
  · cases this
theorem bool_at {t : TypeId} (hu : P.underlying t = some .bool) {n o k : Nat} {cs : List Value} {y : DataW H × List MemPlace} (h : DataW.trod enc P w base spare held n t ((cs.drop o).take k) = some y) :
    ∃ s : Bool, cs[o]? = some (.bool s) := by
  obtain ⟨z, hc, _⟩ := DataW.trod_bool hu h
  refine ⟨z, ?_⟩
  have : ((cs.drop o).take k)[0]? = some (.bool z) := by rw [hc]; rfl
  rw [List.getElem?_take] at this
  split at this
  · simpa using this
  · cases this
end
theorem list_of {α : Type} (d : α) (Q : Nat → α → Prop) : ∀ n, (∀ i, i < n → ∃ s, Q i s) → ∃ l : List α, l.length = n ∧ ∀ i, i < n → Q i (l.getD i d)
  | 0, _ => ⟨[], rfl, fun i hi => absurd hi (Nat.not_lt_zero i)⟩
  | n + 1, h => by
    obtain ⟨l, hl, hq⟩ := list_of d Q n (fun i hi => h i (by omega))
    obtain ⟨s, hs⟩ := h n (by omega)
    refine ⟨l ++ [s], by simp [hl], fun i hi => ?_⟩
    by_cases hin : i < n
    · have := hq i hin
      rw [List.getD_eq_getElem?_getD] at this ⊢
      rw [List.getElem?_append_left (by omega)]
      exact this
    · obtain rfl : i = n := by omega
      rw [List.getD_eq_getElem?_getD, List.getElem?_append_right (by omega), hl, Nat.sub_self]
      exact hs
/-- A slice of structs whose cells are C each: its elements' cells, and what is read of each. -/
theorem open_rows {H : Type} {enc : TypeId × Value → H} {T E : TypeId} {C : Nat} {W : World} {a : Option Addr} {len cap : Nat} {d : DataW H} {ps : List MemPlace} (hu : Tryz.prog.underlying T = some (.slice E)) (hC : Tryz.prog.cellsOf E = C) (hC0 : 0 < C)
    (h : DataW.Trod enc Tryz.prog W 0 (fun _ => true) true T (.slice a len cap) d ps) :
    len ≤ cap ∧ cap ≤ maxLen ∧ (0 < len → ∃ b off, a = some ⟨b, off, none⟩ ∧ b < W.heap.size ∧
      ∀ i, i < len → ∃ cs n x, DataW.trod enc Tryz.prog W 0 (fun _ => true) true n E cs = some x ∧ cs.length = C ∧ ∀ j, j < C → W.cell? ⟨b, off + i * C + j, none⟩ = cs[j]?) := by
  obtain ⟨fuel, hf⟩ := h
  rcases Go.Deep.open_slice hu hf with ⟨hcs, _⟩ | ⟨ad, l, c, m, n, D, Pl, hcs, _, hl, hm, hmm, _, hi⟩
  · simp [Value.cells] at hcs
    obtain ⟨rfl, rfl, rfl⟩ := hcs
    exact ⟨Nat.le_refl _, Nat.zero_le _, fun h => absurd h (by omega)⟩
  · simp [Value.cells] at hcs
    obtain ⟨rfl, rfl, rfl⟩ := hcs
    refine ⟨hl, hm, fun hp => ?_⟩
    have hm' : m = cap := by simpa using hmm
    rw [hC] at hi
    have key : ∀ i, i < len → ∃ cs n x, DataW.trod enc Tryz.prog W 0 (fun _ => true) true n E cs = some x ∧ cs.length = C ∧ ∀ j, j < C → W.cell? (ad.add (i * C + j)) = cs[j]? := fun i hil => by
      obtain ⟨cs, hc, ht⟩ := hi i (by omega)
      obtain ⟨_, hcl, hat⟩ := World.cells?_some hc
      exact ⟨cs, _, _, ht, hcl, fun j hj => by rw [← Go.Deep.add_add]; exact hat j hj⟩
    obtain ⟨b, off, spot⟩ := ad
    obtain ⟨cs, _, _, _, hcl, hc0⟩ := key 0 hp
    have h0 := hc0 0 hC0
    have hv : cs[0]? = some (cs[0]'(by omega)) := List.getElem?_eq_getElem (by omega)
    rw [hv] at h0
    have hspot : spot = none := by simpa [Addr.add] using World.cell?_spot h0
    subst hspot
    refine ⟨b, off, rfl, ?_, fun i hil => ?_⟩
    · rw [Go.WideShapes.add_plain] at h0
      exact World.block_lt_of_cell? _ _ h0
    · obtain ⟨cs, n, x, ht, hcl, hat⟩ := key i hil
      exact ⟨cs, n, x, ht, hcl, fun j hj => by rw [← hat j hj, Go.WideShapes.add_plain, Nat.add_assoc]⟩

end Go.Proofs.YtaipelkegemoeaaGreatDoor
