/- Lemmas, laid together: part 26 of 41. Conditions: none but each lemma's own. -/
import Derived.Test.YtkomocgodljecaaGreatDoorK25
/- bind: the symbol, from any state. -/
namespace Go.Proofs.YtkomocgodljecaaGreatDoor
open Go.RowKit
set_option maxRecDepth 100000

theorem textD_eq {B : List UInt8} (hB : B.length ≤ 1099511627776) {p : Nat} (hp : p ≤ B.length) (big : Bool) :
    (∀ t, textD B p = some t → textS ⟨B, p, big, false⟩ 1099511627776 = ⟨B, p + t.length + 1, big, false⟩ ∧ textL ⟨B, p, big, false⟩ 1099511627776 = t) ∧ (textD B p = none → textS ⟨B, p, big, false⟩ 1099511627776 = ⟨B, p, big, true⟩) := by
  have hz : zeroAt ⟨B, p, big, false⟩ = Lib.indexByte (B.drop p) 0 := rfl
  have hlt := indexByte_lt (B.drop p) 0
  rw [List.length_drop] at hlt
  by_cases h0 : 0 ≤ Lib.indexByte (B.drop p) 0
  · have hok : textOk ⟨B, p, big, false⟩ 1099511627776 = true := by
      unfold textOk
      rw [hz]
      simp
      omega
    refine ⟨fun t ht => ?_, fun h => ?_⟩
    · have hl := textD_len ht
      unfold textD at ht
      rw [if_pos h0] at ht
      cases ht
      have e : ((B.drop p).take (Lib.indexByte (B.drop p) 0).toNat).length = (Lib.indexByte (B.drop p) 0).toNat := by
        rw [List.length_take, List.length_drop]; omega
      rw [e]
      unfold textS textL
      rw [if_pos hok, if_pos hok, hz]
      exact ⟨rfl, rfl⟩
    · unfold textD at h
      rw [if_pos h0] at h
      cases h
  · have hok : ¬ textOk ⟨B, p, big, false⟩ 1099511627776 = true := by
      unfold textOk
      rw [hz]
      simp
      omega
    refine ⟨fun t ht => ?_, fun _ => ?_⟩
    · unfold textD at ht
      rw [if_neg h0] at ht
      cases ht
    · unfold textS
      rw [if_neg hok]
      rfl
set_option linter.unusedSimpArgs false in
set_option maxHeartbeats 8000000 in
theorem symbol_D {w : World} {B : List UInt8} {m : Img} {kd : Int} {s : BdS} {bc b : Nat} {W : World} {im : Nat} (h : StD w B m kd (im : Int) s bc b W) (hw : Env w) (hi : im < 16) (hB : B.length ≤ 1099511627776) (hp : s.p ≤ B.length) :
    Calls Tryz.prog 52 #[.pointer (some ⟨b, 0, none⟩)] W (OutD w B m kd (im : Int) bc b W (symD B kd im s)) := by
  obtain ⟨so, h1, h2⟩ := h.box
  have x0 : W.cell? ⟨b, 0, none⟩ = some (.pointer (some ⟨bc, 0, none⟩)) := Brd.c_c h1
  have hbc : bc < b := h.hi
  obtain ⟨q1, q2⟩ := textD_eq hB hp false
  cases ht : textD B s.p with
  | none =>
    have e1 : symD B kd im s = .bad 3 := by unfold symD; rw [ht]
    rw [e1]
    have hs := q2 ht
    have HTX := Lib.hid (fun w hcur => Text_cur bc ⟨B, s.p, false, false⟩ 1099511627776 w hcur)
    rw [hs] at HTX
    obtain ⟨tx, htx⟩ : ∃ tx : ByteArray, tx = ⟨(textL ⟨B, s.p, false, false⟩ 1099511627776).toArray⟩ := ⟨_, rfl⟩
    rw [← htx] at HTX
    have HER := Lib.hid (fun w hg hcur => Err_bad bc ⟨B, s.p, false, true⟩ w hg hcur rfl)
    have heb : Hid (1 ∉ [bc]) := Lib.hid (by have := Env.lo hw h.lo; simp; omega)
    have H := Lib.hid h
    have H1 := Lib.hid h1
    have H2 := Lib.hid h2
    have Ht := Lib.hid ht
    have Hs := Lib.hid hs
    have E1 := Lib.hid e1
    have Htx := Lib.hid htx
    clear h h1 h2 ht hs e1 htx
    clear q1 q2
    go_enter Tryz.func52, Tryz.ntmps52
    go_wp2_with fail
    refine (HTX.out _ H.out.cur).mono ?_
    rintro e W1 ⟨rfl, hc1, k1⟩
    have B1 := Lib.hid (H1.out.frameS k1 (by simp; omega))
    replace x0 : W1.cell? ⟨b, 0, none⟩ = some (.pointer (some ⟨bc, 0, none⟩)) := Brd.c_c B1.out
    have CU1 := Lib.hid hc1
    have C1 := Lib.hid k1
    clear hc1 k1
    go_wp2_with fail
    refine (HER.out _ (H.out.env.frame C1.out heb.out) CU1.out).mono ?_
    rintro e W2 ⟨rfl, k2⟩
    have C2 := Lib.hid (C1.out.then k2)
    clear k2 x0
    go_wp2_with fail
    refine (refuse_bad 3 _).mono ?_
    rintro e WP ⟨rfl, rfl⟩
    exact ⟨rfl, outD_bad (H.out.chgc C2.out (by simp))⟩
  | some t =>
    obtain ⟨hs, hv⟩ := q1 t ht
    have HTX := Lib.hid (fun w hcur => Text_cur bc ⟨B, s.p, false, false⟩ 1099511627776 w hcur)
    rw [hs, hv] at HTX
    have HER := Lib.hid (fun w hcur => Err_ok bc ⟨B, s.p + t.length + 1, false, false⟩ w hcur rfl)
    obtain ⟨sy, hsy⟩ : ∃ sy : ByteArray, sy = ⟨t.toArray⟩ := ⟨_, rfl⟩
    rw [← hsy] at HTX
    have hsz : sy.size = t.length := by rw [hsy]; rfl
    by_cases c1 : 1 < im ∧ (¬ im = 8 ∨ ¬ kd = 2)
    · have e1 : symD B kd im s = .bad 14 := by unfold symD; rw [ht]; dsimp only; rw [if_pos c1]
      rw [e1]
      have d1 : decide ((1 : Int) < (im : Int)) = true := decide_eq_true (by omega)
      have d1b : decide (1 < im) = true := decide_eq_true c1.1
      by_cases c8 : im = 8
      · subst c8
        have k2 : ¬ kd = 2 := by
          rcases c1.2 with h | h
          · exact absurd rfl h
          · exact h
        have e2 : (kd == 2) = false := by rw [beq_eq_false_iff_ne]; exact k2
        have e2b : (kd != 2) = true := by rw [bne, e2]; rfl
        clear c1 d1 d1b hi
        have H := Lib.hid h
        have H1 := Lib.hid h1
        have H2 := Lib.hid h2
        have Ht := Lib.hid ht
        have Hs := Lib.hid hs
        have Hv := Lib.hid hv
        have Hsy := Lib.hid hsy
        have Hsz := Lib.hid hsz
        have E1 := Lib.hid e1
        have KK2 := Lib.hid k2
        clear h h1 h2 ht hs hv hsy hsz e1 k2
        clear q1 q2
        go_enter Tryz.func52, Tryz.ntmps52
        go_wp2_with fail
        refine (HTX.out _ H.out.cur).mono ?_
        rintro e W1 ⟨rfl, hc1, k1⟩
        have B1 := Lib.hid (H1.out.frameS k1 (by simp; omega))
        replace x0 : W1.cell? ⟨b, 0, none⟩ = some (.pointer (some ⟨bc, 0, none⟩)) := Brd.c_c B1.out
        have CU1 := Lib.hid hc1
        have C1 := Lib.hid k1
        clear hc1 k1
        go_wp2_with fail
        refine (HER.out _ CU1.out).mono ?_
        rintro e W2 ⟨rfl, k2⟩
        have CU2 := Lib.hid (CU1.out.frame k2)
        have C2 := Lib.hid (C1.out.then k2)
        have B2 := Lib.hid (B1.out.frame k2)
        clear k2 x0
        go_wp2_with fail
        refine (refuse_ok 3 _).mono ?_
        rintro e WP ⟨rfl, rfl⟩
        have x4 : WP.cell? ⟨b, 26, none⟩ = some (.int .u8 8) := Brd.c_imm B2.out
        have x5 : WP.cell? ⟨b, 25, none⟩ = some (.int .i64 kd) := Brd.c_kind B2.out
        go_wp2_with fail
        refine (refuse_bad 14 _).mono ?_
        rintro e WP ⟨rfl, rfl⟩
        exact ⟨rfl, outD_bad (H.out.chgc C2.out (by simp))⟩
      · have e8 : ((im : Int) == 8) = false := by rw [beq_eq_false_iff_ne]; omega
        have e8b : ((im : Int) != 8) = true := by rw [bne, e8]; rfl
        clear c1
        have H := Lib.hid h
        have H1 := Lib.hid h1
        have H2 := Lib.hid h2
        have Ht := Lib.hid ht
        have Hs := Lib.hid hs
        have Hv := Lib.hid hv
        have Hsy := Lib.hid hsy
        have Hsz := Lib.hid hsz
        have E1 := Lib.hid e1
        have C8 := Lib.hid c8
        clear h h1 h2 ht hs hv hsy hsz e1 c8
        clear q1 q2
        go_enter Tryz.func52, Tryz.ntmps52
        go_wp2_with fail
        refine (HTX.out _ H.out.cur).mono ?_
        rintro e W1 ⟨rfl, hc1, k1⟩
        have B1 := Lib.hid (H1.out.frameS k1 (by simp; omega))
        replace x0 : W1.cell? ⟨b, 0, none⟩ = some (.pointer (some ⟨bc, 0, none⟩)) := Brd.c_c B1.out
        have CU1 := Lib.hid hc1
        have C1 := Lib.hid k1
        clear hc1 k1
        go_wp2_with fail
        refine (HER.out _ CU1.out).mono ?_
        rintro e W2 ⟨rfl, k2⟩
        have CU2 := Lib.hid (CU1.out.frame k2)
        have C2 := Lib.hid (C1.out.then k2)
        have B2 := Lib.hid (B1.out.frame k2)
        clear k2 x0
        go_wp2_with fail
        refine (refuse_ok 3 _).mono ?_
        rintro e WP ⟨rfl, rfl⟩
        have x4 : WP.cell? ⟨b, 26, none⟩ = some (.int .u8 im) := Brd.c_imm B2.out
        have x5 : WP.cell? ⟨b, 25, none⟩ = some (.int .i64 kd) := Brd.c_kind B2.out
        clear x5
        go_wp2_with fail
        refine (refuse_bad 14 _).mono ?_
        rintro e WP ⟨rfl, rfl⟩
        exact ⟨rfl, outD_bad (H.out.chgc C2.out (by simp))⟩
    have hcs : (im = 0 ∨ im = 1) ∨ (im = 8 ∧ kd = 2) := by
      by_cases c : 1 < im
      · right
        by_cases c8 : im = 8
        · by_cases k2 : kd = 2
          · exact ⟨c8, k2⟩
          · exact absurd ⟨c, .inr k2⟩ c1
        · exact absurd ⟨c, .inl c8⟩ c1
      · left; omega
    by_cases c2 : t.length = 0 ∨ 255 < t.length
    · have e1 : symD B kd im s = .bad 10 := by unfold symD; rw [ht]; dsimp only; rw [if_neg c1, if_pos c2]
      rw [e1]
      have hbad : (sy.toList = []) ∨ (¬ sy.toList = [] ∧ 255 < sy.size) := by
        have hl : sy.toList.length = sy.size := by rw [Lib.toList_data, Array.length_toList]; rfl
        by_cases h0 : sy.toList = []
        · exact .inl h0
        · refine .inr ⟨h0, ?_⟩
          rcases c2 with c | c
          · exact absurd (List.length_eq_zero_iff.1 (by omega)) h0
          · omega
      clear c1 c2 hi
      rcases hcs with hcs | ⟨rfl, rfl⟩
      · rcases hcs with rfl | rfl
        · rcases hbad with hb0 | ⟨hb0, hb1⟩
          · have f1 : (sy.toList == []) = true := by simpa using hb0
            have f2 : decide (sy.toList = []) = true := by simpa using hb0
            have H := Lib.hid h
            have H1 := Lib.hid h1
            have H2 := Lib.hid h2
            have Ht := Lib.hid ht
            have Hs := Lib.hid hs
            have Hv := Lib.hid hv
            have Hsy := Lib.hid hsy
            have Hsz := Lib.hid hsz
            have E1 := Lib.hid e1
            clear h h1 h2 ht hs hv hsy hsz e1
            clear q1 q2
            go_enter Tryz.func52, Tryz.ntmps52
            go_wp2_with fail
            refine (HTX.out _ H.out.cur).mono ?_
            rintro e W1 ⟨rfl, hc1, k1⟩
            have B1 := Lib.hid (H1.out.frameS k1 (by simp; omega))
            replace x0 : W1.cell? ⟨b, 0, none⟩ = some (.pointer (some ⟨bc, 0, none⟩)) := Brd.c_c B1.out
            have CU1 := Lib.hid hc1
            have C1 := Lib.hid k1
            clear hc1 k1
            go_wp2_with fail
            refine (HER.out _ CU1.out).mono ?_
            rintro e W2 ⟨rfl, k2⟩
            have CU2 := Lib.hid (CU1.out.frame k2)
            have C2 := Lib.hid (C1.out.then k2)
            have B2 := Lib.hid (B1.out.frame k2)
            clear k2 x0
            go_wp2_with fail
            refine (refuse_ok 3 _).mono ?_
            rintro e WP ⟨rfl, rfl⟩
            have x4 : WP.cell? ⟨b, 26, none⟩ = some (.int .u8 0) := Brd.c_imm B2.out
            have x5 : WP.cell? ⟨b, 25, none⟩ = some (.int .i64 kd) := Brd.c_kind B2.out
            clear x5
            go_wp2_with fail
            refine (refuse_ok 14 _).mono ?_
            rintro e WP ⟨rfl, rfl⟩
            go_wp2_with fail
            refine (refuse_bad 10 _).mono ?_
            rintro e WP ⟨rfl, rfl⟩
            exact ⟨rfl, outD_bad (H.out.chgc C2.out (by simp))⟩
          · have f1 : (sy.toList == []) = false := by simpa using hb0
            have f2 : decide (sy.toList = []) = false := by simpa using hb0
            have f3 : decide ((255 : Int) < (sy.size : Int)) = true := decide_eq_true (by omega)
            have f4 : decide (255 < sy.size) = true := decide_eq_true hb1
            have H := Lib.hid h
            have H1 := Lib.hid h1
            have H2 := Lib.hid h2
            have Ht := Lib.hid ht
            have Hs := Lib.hid hs
            have Hv := Lib.hid hv
            have Hsy := Lib.hid hsy
            have Hsz := Lib.hid hsz
            have E1 := Lib.hid e1
            clear h h1 h2 ht hs hv hsy hsz e1
            clear q1 q2
            go_enter Tryz.func52, Tryz.ntmps52
            go_wp2_with fail
            refine (HTX.out _ H.out.cur).mono ?_
            rintro e W1 ⟨rfl, hc1, k1⟩
            have B1 := Lib.hid (H1.out.frameS k1 (by simp; omega))
            replace x0 : W1.cell? ⟨b, 0, none⟩ = some (.pointer (some ⟨bc, 0, none⟩)) := Brd.c_c B1.out
            have CU1 := Lib.hid hc1
            have C1 := Lib.hid k1
            clear hc1 k1
            go_wp2_with fail
            refine (HER.out _ CU1.out).mono ?_
            rintro e W2 ⟨rfl, k2⟩
            have CU2 := Lib.hid (CU1.out.frame k2)
            have C2 := Lib.hid (C1.out.then k2)
            have B2 := Lib.hid (B1.out.frame k2)
            clear k2 x0
            go_wp2_with fail
            refine (refuse_ok 3 _).mono ?_
            rintro e WP ⟨rfl, rfl⟩
            have x4 : WP.cell? ⟨b, 26, none⟩ = some (.int .u8 0) := Brd.c_imm B2.out
            have x5 : WP.cell? ⟨b, 25, none⟩ = some (.int .i64 kd) := Brd.c_kind B2.out
            clear x5
            go_wp2_with fail
            refine (refuse_ok 14 _).mono ?_
            rintro e WP ⟨rfl, rfl⟩
            go_wp2_with fail
            refine (refuse_bad 10 _).mono ?_
            rintro e WP ⟨rfl, rfl⟩
            exact ⟨rfl, outD_bad (H.out.chgc C2.out (by simp))⟩
        · rcases hbad with hb0 | ⟨hb0, hb1⟩
          · have f1 : (sy.toList == []) = true := by simpa using hb0
            have f2 : decide (sy.toList = []) = true := by simpa using hb0
            have H := Lib.hid h
            have H1 := Lib.hid h1
            have H2 := Lib.hid h2
            have Ht := Lib.hid ht
            have Hs := Lib.hid hs
            have Hv := Lib.hid hv
            have Hsy := Lib.hid hsy
            have Hsz := Lib.hid hsz
            have E1 := Lib.hid e1
            clear h h1 h2 ht hs hv hsy hsz e1
            clear q1 q2
            go_enter Tryz.func52, Tryz.ntmps52
            go_wp2_with fail
            refine (HTX.out _ H.out.cur).mono ?_
            rintro e W1 ⟨rfl, hc1, k1⟩
            have B1 := Lib.hid (H1.out.frameS k1 (by simp; omega))
            replace x0 : W1.cell? ⟨b, 0, none⟩ = some (.pointer (some ⟨bc, 0, none⟩)) := Brd.c_c B1.out
            have CU1 := Lib.hid hc1
            have C1 := Lib.hid k1
            clear hc1 k1
            go_wp2_with fail
            refine (HER.out _ CU1.out).mono ?_
            rintro e W2 ⟨rfl, k2⟩
            have CU2 := Lib.hid (CU1.out.frame k2)
            have C2 := Lib.hid (C1.out.then k2)
            have B2 := Lib.hid (B1.out.frame k2)
            clear k2 x0
            go_wp2_with fail
            refine (refuse_ok 3 _).mono ?_
            rintro e WP ⟨rfl, rfl⟩
            have x4 : WP.cell? ⟨b, 26, none⟩ = some (.int .u8 1) := Brd.c_imm B2.out
            have x5 : WP.cell? ⟨b, 25, none⟩ = some (.int .i64 kd) := Brd.c_kind B2.out
            clear x5
            go_wp2_with fail
            refine (refuse_ok 14 _).mono ?_
            rintro e WP ⟨rfl, rfl⟩
            go_wp2_with fail
            refine (refuse_bad 10 _).mono ?_
            rintro e WP ⟨rfl, rfl⟩
            exact ⟨rfl, outD_bad (H.out.chgc C2.out (by simp))⟩
          · have f1 : (sy.toList == []) = false := by simpa using hb0
            have f2 : decide (sy.toList = []) = false := by simpa using hb0
            have f3 : decide ((255 : Int) < (sy.size : Int)) = true := decide_eq_true (by omega)
            have f4 : decide (255 < sy.size) = true := decide_eq_true hb1
            have H := Lib.hid h
            have H1 := Lib.hid h1
            have H2 := Lib.hid h2
            have Ht := Lib.hid ht
            have Hs := Lib.hid hs
            have Hv := Lib.hid hv
            have Hsy := Lib.hid hsy
            have Hsz := Lib.hid hsz
            have E1 := Lib.hid e1
            clear h h1 h2 ht hs hv hsy hsz e1
            clear q1 q2
            go_enter Tryz.func52, Tryz.ntmps52
            go_wp2_with fail
            refine (HTX.out _ H.out.cur).mono ?_
            rintro e W1 ⟨rfl, hc1, k1⟩
            have B1 := Lib.hid (H1.out.frameS k1 (by simp; omega))
            replace x0 : W1.cell? ⟨b, 0, none⟩ = some (.pointer (some ⟨bc, 0, none⟩)) := Brd.c_c B1.out
            have CU1 := Lib.hid hc1
            have C1 := Lib.hid k1
            clear hc1 k1
            go_wp2_with fail
            refine (HER.out _ CU1.out).mono ?_
            rintro e W2 ⟨rfl, k2⟩
            have CU2 := Lib.hid (CU1.out.frame k2)
            have C2 := Lib.hid (C1.out.then k2)
            have B2 := Lib.hid (B1.out.frame k2)
            clear k2 x0
            go_wp2_with fail
            refine (refuse_ok 3 _).mono ?_
            rintro e WP ⟨rfl, rfl⟩
            have x4 : WP.cell? ⟨b, 26, none⟩ = some (.int .u8 1) := Brd.c_imm B2.out
            have x5 : WP.cell? ⟨b, 25, none⟩ = some (.int .i64 kd) := Brd.c_kind B2.out
            clear x5
            go_wp2_with fail
            refine (refuse_ok 14 _).mono ?_
            rintro e WP ⟨rfl, rfl⟩
            go_wp2_with fail
            refine (refuse_bad 10 _).mono ?_
            rintro e WP ⟨rfl, rfl⟩
            exact ⟨rfl, outD_bad (H.out.chgc C2.out (by simp))⟩
      · obtain ⟨kd, hkd⟩ : ∃ k : Int, k = 2 := ⟨_, rfl⟩
        rw [← hkd] at h h1 e1 ⊢
        have e2 : (kd == 2) = true := by rw [hkd]; rfl
        have e2b : (kd != 2) = false := by rw [bne, e2]; rfl
        rcases hbad with hb0 | ⟨hb0, hb1⟩
        · have f1 : (sy.toList == []) = true := by simpa using hb0
          have f2 : decide (sy.toList = []) = true := by simpa using hb0
          have H := Lib.hid h
          have H1 := Lib.hid h1
          have H2 := Lib.hid h2
          have Ht := Lib.hid ht
          have Hs := Lib.hid hs
          have Hv := Lib.hid hv
          have Hsy := Lib.hid hsy
          have Hsz := Lib.hid hsz
          have E1 := Lib.hid e1
          have Hkd := Lib.hid hkd
          clear h h1 h2 ht hs hv hsy hsz e1 hkd
          clear q1 q2
          go_enter Tryz.func52, Tryz.ntmps52
          go_wp2_with fail
          refine (HTX.out _ H.out.cur).mono ?_
          rintro e W1 ⟨rfl, hc1, k1⟩
          have B1 := Lib.hid (H1.out.frameS k1 (by simp; omega))
          replace x0 : W1.cell? ⟨b, 0, none⟩ = some (.pointer (some ⟨bc, 0, none⟩)) := Brd.c_c B1.out
          have CU1 := Lib.hid hc1
          have C1 := Lib.hid k1
          clear hc1 k1
          go_wp2_with fail
          refine (HER.out _ CU1.out).mono ?_
          rintro e W2 ⟨rfl, k2⟩
          have CU2 := Lib.hid (CU1.out.frame k2)
          have C2 := Lib.hid (C1.out.then k2)
          have B2 := Lib.hid (B1.out.frame k2)
          clear k2 x0
          go_wp2_with fail
          refine (refuse_ok 3 _).mono ?_
          rintro e WP ⟨rfl, rfl⟩
          have x4 : WP.cell? ⟨b, 26, none⟩ = some (.int .u8 8) := Brd.c_imm B2.out
          have x5 : WP.cell? ⟨b, 25, none⟩ = some (.int .i64 kd) := Brd.c_kind B2.out
          go_wp2_with fail
          refine (refuse_ok 14 _).mono ?_
          rintro e WP ⟨rfl, rfl⟩
          go_wp2_with fail
          refine (refuse_bad 10 _).mono ?_
          rintro e WP ⟨rfl, rfl⟩
          exact ⟨rfl, outD_bad (H.out.chgc C2.out (by simp))⟩
        · have f1 : (sy.toList == []) = false := by simpa using hb0
          have f2 : decide (sy.toList = []) = false := by simpa using hb0
          have f3 : decide ((255 : Int) < (sy.size : Int)) = true := decide_eq_true (by omega)
          have f4 : decide (255 < sy.size) = true := decide_eq_true hb1
          have H := Lib.hid h
          have H1 := Lib.hid h1
          have H2 := Lib.hid h2
          have Ht := Lib.hid ht
          have Hs := Lib.hid hs
          have Hv := Lib.hid hv
          have Hsy := Lib.hid hsy
          have Hsz := Lib.hid hsz
          have E1 := Lib.hid e1
          have Hkd := Lib.hid hkd
          clear h h1 h2 ht hs hv hsy hsz e1 hkd
          clear q1 q2
          go_enter Tryz.func52, Tryz.ntmps52
          go_wp2_with fail
          refine (HTX.out _ H.out.cur).mono ?_
          rintro e W1 ⟨rfl, hc1, k1⟩
          have B1 := Lib.hid (H1.out.frameS k1 (by simp; omega))
          replace x0 : W1.cell? ⟨b, 0, none⟩ = some (.pointer (some ⟨bc, 0, none⟩)) := Brd.c_c B1.out
          have CU1 := Lib.hid hc1
          have C1 := Lib.hid k1
          clear hc1 k1
          go_wp2_with fail
          refine (HER.out _ CU1.out).mono ?_
          rintro e W2 ⟨rfl, k2⟩
          have CU2 := Lib.hid (CU1.out.frame k2)
          have C2 := Lib.hid (C1.out.then k2)
          have B2 := Lib.hid (B1.out.frame k2)
          clear k2 x0
          go_wp2_with fail
          refine (refuse_ok 3 _).mono ?_
          rintro e WP ⟨rfl, rfl⟩
          have x4 : WP.cell? ⟨b, 26, none⟩ = some (.int .u8 8) := Brd.c_imm B2.out
          have x5 : WP.cell? ⟨b, 25, none⟩ = some (.int .i64 kd) := Brd.c_kind B2.out
          go_wp2_with fail
          refine (refuse_ok 14 _).mono ?_
          rintro e WP ⟨rfl, rfl⟩
          go_wp2_with fail
          refine (refuse_bad 10 _).mono ?_
          rintro e WP ⟨rfl, rfl⟩
          exact ⟨rfl, outD_bad (H.out.chgc C2.out (by simp))⟩
    have hg0 : ¬ sy.toList = [] := by
      intro h0
      have hl : sy.toList.length = sy.size := by rw [Lib.toList_data, Array.length_toList]; rfl
      rw [h0] at hl
      have : (0 : Nat) = sy.size := hl
      exact c2 (.inl (by omega))
    have f1 : (sy.toList == []) = false := by simpa using hg0
    have f2 : decide (sy.toList = []) = false := by simpa using hg0
    have f3 : decide ((255 : Int) < (sy.size : Int)) = false := decide_eq_false (by omega)
    have f4 : decide (255 < sy.size) = false := decide_eq_false (by omega)
    have hsz2 : sy.size ≤ 255 := by omega
    have e1 : symD B kd im s = .ok { s with p := s.p + t.length + 1, f := { s.f with sym := if im = 8 then ⟨#[]⟩ else sy, weak := decide (im = 1) } } := by unfold symD; rw [ht]; dsimp only; rw [if_neg c1, if_neg c2, hsy]
    rw [e1]
    clear c1 c2 hi
    rcases hcs with hcs | ⟨rfl, rfl⟩
    · rcases hcs with rfl | rfl
      · have H := Lib.hid h
        have H1 := Lib.hid h1
        have H2 := Lib.hid h2
        have Ht := Lib.hid ht
        have Hs := Lib.hid hs
        have Hv := Lib.hid hv
        have Hsy := Lib.hid hsy
        have Hsz := Lib.hid hsz
        have E1 := Lib.hid e1
        have Hg0 := Lib.hid hg0
        have Hsz2 := Lib.hid hsz2
        clear h h1 h2 ht hs hv hsy hsz e1 hg0 hsz2
        clear q1 q2
        go_enter Tryz.func52, Tryz.ntmps52
        go_wp2_with fail
        refine (HTX.out _ H.out.cur).mono ?_
        rintro e W1 ⟨rfl, hc1, k1⟩
        have B1 := Lib.hid (H1.out.frameS k1 (by simp; omega))
        replace x0 : W1.cell? ⟨b, 0, none⟩ = some (.pointer (some ⟨bc, 0, none⟩)) := Brd.c_c B1.out
        have CU1 := Lib.hid hc1
        have C1 := Lib.hid k1
        clear hc1 k1
        go_wp2_with fail
        refine (HER.out _ CU1.out).mono ?_
        rintro e W2 ⟨rfl, k2⟩
        have CU2 := Lib.hid (CU1.out.frame k2)
        have C2 := Lib.hid (C1.out.then k2)
        have B2 := Lib.hid (B1.out.frame k2)
        clear k2 x0
        go_wp2_with fail
        refine (refuse_ok 3 _).mono ?_
        rintro e WP ⟨rfl, rfl⟩
        have x4 : WP.cell? ⟨b, 26, none⟩ = some (.int .u8 0) := Brd.c_imm B2.out
        have x5 : WP.cell? ⟨b, 25, none⟩ = some (.int .i64 kd) := Brd.c_kind B2.out
        have x6 : WP.cell? ⟨b, 31, none⟩ = some (.string s.f.sym) := Brd.c_sym B2.out
        have x7 : WP.cell? ⟨b, 33, none⟩ = some (.bool s.f.weak) := Brd.c_weak B2.out
        have z6 := B2.out.frozen 31
        have z7 := B2.out.frozen 33
        clear x5
        go_wp2_with fail
        refine (refuse_ok 14 _).mono ?_
        rintro e WP ⟨rfl, rfl⟩
        go_wp2_with fail
        refine (refuse_ok 10 _).mono ?_
        rintro e WP ⟨rfl, rfl⟩
        go_wp2
        go_end0
        have hhi := H.out.hi
        have kk : Chg [b] WP (((WP.setCell ⟨b, 31, none⟩ (.string sy)).setCell ⟨b, 33, none⟩ (.bool false))) := by
          repeat' (first | with_reducible exact Chg.refl _ _ | with_reducible refine Chg.setCell ?_ _ _ (.inl (by simp)))
        have k0 : Chg [b, bc] W ((WP.setCell ⟨b, 31, none⟩ (.string sy)).setCell ⟨b, 33, none⟩ (.bool false)) := (C2.out.mono (by simp)).trans kk (fun i hi _ => by simp at hi; simp [hi])
        exact outD_ok (H.out.next hw H1.out H2.out k0 (fun i hi => by simp at hi; rcases hi with e | e; exact .inl e; exact .inr (.inl e)) (CU2.out.far2 kk (by simp; omega)) (Brd.set_weak (Brd.set_sym B2.out _) _) (H.out.own H2.out k0 (fun i hi => by simpa using hi)) H.out.n H.out.at_)
      · have H := Lib.hid h
        have H1 := Lib.hid h1
        have H2 := Lib.hid h2
        have Ht := Lib.hid ht
        have Hs := Lib.hid hs
        have Hv := Lib.hid hv
        have Hsy := Lib.hid hsy
        have Hsz := Lib.hid hsz
        have E1 := Lib.hid e1
        have Hg0 := Lib.hid hg0
        have Hsz2 := Lib.hid hsz2
        clear h h1 h2 ht hs hv hsy hsz e1 hg0 hsz2
        clear q1 q2
        go_enter Tryz.func52, Tryz.ntmps52
        go_wp2_with fail
        refine (HTX.out _ H.out.cur).mono ?_
        rintro e W1 ⟨rfl, hc1, k1⟩
        have B1 := Lib.hid (H1.out.frameS k1 (by simp; omega))
        replace x0 : W1.cell? ⟨b, 0, none⟩ = some (.pointer (some ⟨bc, 0, none⟩)) := Brd.c_c B1.out
        have CU1 := Lib.hid hc1
        have C1 := Lib.hid k1
        clear hc1 k1
        go_wp2_with fail
        refine (HER.out _ CU1.out).mono ?_
        rintro e W2 ⟨rfl, k2⟩
        have CU2 := Lib.hid (CU1.out.frame k2)
        have C2 := Lib.hid (C1.out.then k2)
        have B2 := Lib.hid (B1.out.frame k2)
        clear k2 x0
        go_wp2_with fail
        refine (refuse_ok 3 _).mono ?_
        rintro e WP ⟨rfl, rfl⟩
        have x4 : WP.cell? ⟨b, 26, none⟩ = some (.int .u8 1) := Brd.c_imm B2.out
        have x5 : WP.cell? ⟨b, 25, none⟩ = some (.int .i64 kd) := Brd.c_kind B2.out
        have x6 : WP.cell? ⟨b, 31, none⟩ = some (.string s.f.sym) := Brd.c_sym B2.out
        have x7 : WP.cell? ⟨b, 33, none⟩ = some (.bool s.f.weak) := Brd.c_weak B2.out
        have z6 := B2.out.frozen 31
        have z7 := B2.out.frozen 33
        clear x5
        go_wp2_with fail
        refine (refuse_ok 14 _).mono ?_
        rintro e WP ⟨rfl, rfl⟩
        go_wp2_with fail
        refine (refuse_ok 10 _).mono ?_
        rintro e WP ⟨rfl, rfl⟩
        go_wp2
        go_end0
        have hhi := H.out.hi
        have kk : Chg [b] WP (((WP.setCell ⟨b, 31, none⟩ (.string sy)).setCell ⟨b, 33, none⟩ (.bool true))) := by
          repeat' (first | with_reducible exact Chg.refl _ _ | with_reducible refine Chg.setCell ?_ _ _ (.inl (by simp)))
        have k0 : Chg [b, bc] W ((WP.setCell ⟨b, 31, none⟩ (.string sy)).setCell ⟨b, 33, none⟩ (.bool true)) := (C2.out.mono (by simp)).trans kk (fun i hi _ => by simp at hi; simp [hi])
        exact outD_ok (H.out.next hw H1.out H2.out k0 (fun i hi => by simp at hi; rcases hi with e | e; exact .inl e; exact .inr (.inl e)) (CU2.out.far2 kk (by simp; omega)) (Brd.set_weak (Brd.set_sym B2.out _) _) (H.out.own H2.out k0 (fun i hi => by simpa using hi)) H.out.n H.out.at_)
    · obtain ⟨kd, hkd⟩ : ∃ k : Int, k = 2 := ⟨_, rfl⟩
      rw [← hkd] at h h1 e1 ⊢
      have e2 : (kd == 2) = true := by rw [hkd]; rfl
      have e2b : (kd != 2) = false := by rw [bne, e2]; rfl
      have H := Lib.hid h
      have H1 := Lib.hid h1
      have H2 := Lib.hid h2
      have Ht := Lib.hid ht
      have Hs := Lib.hid hs
      have Hv := Lib.hid hv
      have Hsy := Lib.hid hsy
      have Hsz := Lib.hid hsz
      have E1 := Lib.hid e1
      have Hg0 := Lib.hid hg0
      have Hsz2 := Lib.hid hsz2
      have Hkd := Lib.hid hkd
      clear h h1 h2 ht hs hv hsy hsz e1 hg0 hsz2 hkd
      clear q1 q2
      go_enter Tryz.func52, Tryz.ntmps52
      go_wp2_with fail
      refine (HTX.out _ H.out.cur).mono ?_
      rintro e W1 ⟨rfl, hc1, k1⟩
      have B1 := Lib.hid (H1.out.frameS k1 (by simp; omega))
      replace x0 : W1.cell? ⟨b, 0, none⟩ = some (.pointer (some ⟨bc, 0, none⟩)) := Brd.c_c B1.out
      have CU1 := Lib.hid hc1
      have C1 := Lib.hid k1
      clear hc1 k1
      go_wp2_with fail
      refine (HER.out _ CU1.out).mono ?_
      rintro e W2 ⟨rfl, k2⟩
      have CU2 := Lib.hid (CU1.out.frame k2)
      have C2 := Lib.hid (C1.out.then k2)
      have B2 := Lib.hid (B1.out.frame k2)
      clear k2 x0
      go_wp2_with fail
      refine (refuse_ok 3 _).mono ?_
      rintro e WP ⟨rfl, rfl⟩
      have x4 : WP.cell? ⟨b, 26, none⟩ = some (.int .u8 8) := Brd.c_imm B2.out
      have x5 : WP.cell? ⟨b, 25, none⟩ = some (.int .i64 kd) := Brd.c_kind B2.out
      have x6 : WP.cell? ⟨b, 31, none⟩ = some (.string s.f.sym) := Brd.c_sym B2.out
      have x7 : WP.cell? ⟨b, 33, none⟩ = some (.bool s.f.weak) := Brd.c_weak B2.out
      have z6 := B2.out.frozen 31
      have z7 := B2.out.frozen 33
      go_wp2_with fail
      refine (refuse_ok 14 _).mono ?_
      rintro e WP ⟨rfl, rfl⟩
      clear x5
      go_wp2_with fail
      refine (refuse_ok 10 _).mono ?_
      rintro e WP ⟨rfl, rfl⟩
      go_wp2
      go_end0
      have hhi := H.out.hi
      have kk : Chg [b] WP (((WP.setCell ⟨b, 31, none⟩ (.string sy)).setCell ⟨b, 33, none⟩ (.bool false)).setCell ⟨b, 31, none⟩ (.string ⟨#[]⟩)) := (((Chg.refl _ _).setCell _ _ (.inl (by simp))).setCell _ _ (.inl (by simp))).setCell _ _ (.inl (by simp))
      have k0 : Chg [b, bc] W (((WP.setCell ⟨b, 31, none⟩ (.string sy)).setCell ⟨b, 33, none⟩ (.bool false)).setCell ⟨b, 31, none⟩ (.string ⟨#[]⟩)) := (C2.out.mono (by simp)).trans kk (fun i hi _ => by simp at hi; simp [hi])
      exact outD_ok (H.out.next hw H1.out H2.out k0 (fun i hi => by simp at hi; rcases hi with e | e; exact .inl e; exact .inr (.inl e)) (CU2.out.far2 kk (by simp; omega)) (Brd.set_sym (Brd.set_weak (Brd.set_sym B2.out _) _) _) (H.out.own H2.out k0 (fun i hi => by simpa using hi)) H.out.n H.out.at_)
end Go.Proofs.YtkomocgodljecaaGreatDoor
