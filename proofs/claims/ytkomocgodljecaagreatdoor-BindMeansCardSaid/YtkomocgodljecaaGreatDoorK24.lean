/- Lemmas, laid together: part 24 of 41. Conditions: none but each lemma's own. -/
import Derived.Test.YtkomocgodljecaaGreatDoorK23
/- bind: binds, from any state. -/
namespace Go.Proofs.YtkomocgodljecaaGreatDoor
open Go.RowKit
set_option maxRecDepth 100000

theorem meas_e {L k : Nat} (hw : wrap64 ((k : Int) + 1) = (k : Int) + 1) (h : k < L) : L - (intOf (.int .i64 (wrap64 ((k : Int) + 1)))).toNat < L - (intOf (.int .i64 (k : Int))).toNat := by
  rw [hw]
  show L - ((k : Int) + 1).toNat < L - (k : Int).toNat
  omega
theorem meas_d {L k : Nat} (h : k < L) : L - (intOf (.int .i64 ((k : Int) + 1))).toNat < L - (intOf (.int .i64 (k : Int))).toNat := by
  show L - ((k : Int) + 1).toNat < L - (k : Int).toNat
  omega
theorem onD_fs {s s' : BdS} {n : Nat} (h : onD s n = .ok s') : s'.fs = s.fs := by
  unfold onD at h
  split at h
  · cases h; rfl
  · cases h
set_option linter.unusedSimpArgs false in
set_option maxHeartbeats 8000000 in
theorem binds_D {w : World} {B : List UInt8} {m : Img} {kd imm : Int} {s : BdS} {bc b : Nat} {W : World} (h : StD w B m kd imm s bc b W) (hw : Env w) (ls : List Seg) (hls : SegsB ls) (hrd : segL.Rd w m.segs.v ls) (hs1 : ∀ k, m.segs.v.ownBlock = some k → k < w.heap.size) (n skip : Nat) (hsk : skip < 18446744073709551616) (hn64 : n < 18446744073709551616) :
    Calls Tryz.prog 75 #[.pointer (some ⟨b, 0, none⟩), .int .u64 n, .int .u64 skip] W (OutD w B m kd imm bc b W (bindsD ls s n skip)) := by
  obtain ⟨R, hR⟩ : ∃ R, R = bindsD ls s n skip := ⟨_, rfl⟩
  rw [← hR]
  obtain ⟨so, h1, h2⟩ := h.box
  have x1 : W.cell? ⟨b, 34, none⟩ = some (.bool s.is_) := Brd.c_is h1
  have x2 : W.cell? ⟨b, 31, none⟩ = some (.string s.f.sym) := Brd.c_sym h1
  have x3 : W.cell? ⟨b, 35, none⟩ = some (.int .u8 s.typ) := Brd.c_typ h1
  have x6 : W.cell? ⟨b, 36, none⟩ = some (.slice so.a so.n so.cap) := Brd.c_out h1
  have hno : so.n = s.fs.length := by
    obtain ⟨a, c, he, _, _⟩ := h2.rd.shape
    unfold SlV.v at he
    injection he
  rw [hno] at x6
  have hn2 := h.n
  obtain ⟨sy, hsy⟩ : ∃ sy, sy = s.f.sym := ⟨_, rfl⟩
  obtain ⟨L, hL⟩ : ∃ L, L = s.fs.length := ⟨_, rfl⟩
  rw [← hsy] at x2
  rw [← hL] at x6 hn2
  by_cases c1 : s.is_ = true
  case neg =>
    have c1f : s.is_ = false := by simpa using c1
    have e1 : R = .bad 14 := by rw [hR]; unfold bindsD; rw [if_neg (fun hh => c1 hh.1)]
    rw [c1f] at x1
    rw [e1]
    have H := Lib.hid h
    have H1 := Lib.hid h1
    have H2 := Lib.hid h2
    have HR := Lib.hid hR
    have Hno := Lib.hid hno
    have C1 := Lib.hid c1
    have C1f := Lib.hid c1f
    have Hsy := Lib.hid hsy
    have HL := Lib.hid hL
    have E1 := Lib.hid e1
    have Hn2 := Lib.hid hn2
    have Hrd := Lib.hid hrd
    have Hls := Lib.hid hls
    have Hs1 := Lib.hid hs1
    clear h h1 h2 hR hno c1 c1f hsy hL e1 hn2 hrd hls hs1
    clear x2 x3
    go_enter Tryz.func75, Tryz.ntmps75
    go_wp2_with fail
    refine (refuse_bad 14 _).mono ?_
    rintro e WP ⟨rfl, rfl⟩
    exact ⟨rfl, outD_bad H.out.chg⟩
  case pos =>
  rw [c1] at x1
  by_cases c2 : sy.toList = []
  · have c2b : (sy.toList == []) = true := by simpa using c2
    have c2d : decide (sy.toList = []) = true := by simpa using c2
    have e1 : R = .bad 14 := by rw [hR]; unfold bindsD; rw [if_neg (fun hh => hh.2.1 (by rw [← hsy]; exact c2))]
    rw [e1]
    have H := Lib.hid h
    have H1 := Lib.hid h1
    have H2 := Lib.hid h2
    have HR := Lib.hid hR
    have Hno := Lib.hid hno
    have C1 := Lib.hid c1
    have Hsy := Lib.hid hsy
    have HL := Lib.hid hL
    have E1 := Lib.hid e1
    have Hn2 := Lib.hid hn2
    have Hrd := Lib.hid hrd
    have Hls := Lib.hid hls
    have Hs1 := Lib.hid hs1
    clear h h1 h2 hR hno c1 hsy hL e1 hn2 hrd hls hs1
    clear x3
    go_enter Tryz.func75, Tryz.ntmps75
    go_wp2_with fail
    refine (refuse_bad 14 _).mono ?_
    rintro e WP ⟨rfl, rfl⟩
    exact ⟨rfl, outD_bad H.out.chg⟩
  have c2b : (sy.toList == []) = false := by simpa using c2
  have c2d : decide (sy.toList = []) = false := by simpa using c2
  obtain ⟨ty, hty⟩ : ∃ t, t = s.typ := ⟨_, rfl⟩
  rw [← hty] at x3
  by_cases c3 : ty = 1
  case neg =>
    have c3b : (ty == 1) = false := by rw [beq_eq_false_iff_ne]; exact c3
    have c3c : (ty != 1) = true := by rw [bne, c3b]; rfl
    have e1 : R = .bad 14 := by rw [hR]; unfold bindsD; rw [if_neg (fun hh => c3 (by rw [hty]; exact hh.2.2))]
    rw [e1]
    have H := Lib.hid h
    have H1 := Lib.hid h1
    have H2 := Lib.hid h2
    have HR := Lib.hid hR
    have Hno := Lib.hid hno
    have C1 := Lib.hid c1
    have Hsy := Lib.hid hsy
    have HL := Lib.hid hL
    have E1 := Lib.hid e1
    have Hn2 := Lib.hid hn2
    have Hrd := Lib.hid hrd
    have Hls := Lib.hid hls
    have Hs1 := Lib.hid hs1
    have C3 := Lib.hid c3
    have Hty := Lib.hid hty
    clear h h1 h2 hR hno c1 hsy hL e1 hn2 hrd hls hs1 c3 hty
    go_enter Tryz.func75, Tryz.ntmps75
    go_wp2_with fail
    refine (refuse_bad 14 _).mono ?_
    rintro e WP ⟨rfl, rfl⟩
    exact ⟨rfl, outD_bad H.out.chg⟩
  case pos =>
  subst c3
  have hw1 : IntKind.i64.wrap (20000 - (L : Int)) = 20000 - (L : Int) := by rw [IntKind.wrap_i64]; omega
  have hw2 : IntKind.u64.wrap (20000 - (L : Int)) = 20000 - (L : Int) := by rw [IntKind.wrap_u64]; omega
  by_cases c4 : 20000 - L < n
  · have d1 : decide (20000 - (L : Int) < (n : Int)) = true := decide_eq_true (by omega)
    have e1 : R = .bad 11 := by rw [hR]; unfold bindsD; rw [if_pos ⟨c1, by rw [← hsy]; exact c2, hty.symm⟩, ← hL, if_pos c4]
    rw [e1]
    have H := Lib.hid h
    have H1 := Lib.hid h1
    have H2 := Lib.hid h2
    have HR := Lib.hid hR
    have Hno := Lib.hid hno
    have C1 := Lib.hid c1
    have Hsy := Lib.hid hsy
    have HL := Lib.hid hL
    have E1 := Lib.hid e1
    have Hrd := Lib.hid hrd
    have Hls := Lib.hid hls
    have Hs1 := Lib.hid hs1
    have Hty := Lib.hid hty
    have C4 := Lib.hid c4
    clear h h1 h2 hR hno c1 hsy hL e1 hrd hls hs1 hty c4
    go_enter Tryz.func75, Tryz.ntmps75
    go_wp2_with fail
    refine (refuse_ok 14 _).mono ?_
    rintro e WP ⟨rfl, rfl⟩
    go_wp2_with fail
    refine (refuse_bad 11 _).mono ?_
    rintro e WP ⟨rfl, rfl⟩
    exact ⟨rfl, outD_bad H.out.chg⟩
  have d1 : decide (20000 - (L : Int) < (n : Int)) = false := decide_eq_false (by omega)
  have hn20 : n ≤ 20000 := by omega
  have hw3 : IntKind.i64.wrap (n : Int) = (n : Int) := by rw [IntKind.wrap_i64]; omega
  have HR0 : Hid (bndD ls skip (n - 0) s = R) := Lib.hid (by rw [hR]; unfold bindsD; rw [if_pos ⟨c1, by rw [← hsy]; exact c2, hty.symm⟩, ← hL, if_neg c4]; rfl)
  have HF0 : Hid (s.fs.length + (n - 0) ≤ 20000) := Lib.hid (by omega)
  have H := Lib.hid h
  have H1 := Lib.hid h1
  have H2 := Lib.hid h2
  have HR := Lib.hid hR
  have Hno := Lib.hid hno
  have C1 := Lib.hid c1
  have Hsy := Lib.hid hsy
  have HL := Lib.hid hL
  have HRD := Lib.hid hrd
  have Hls := Lib.hid hls
  have Hs1 := Lib.hid hs1
  have Hty := Lib.hid hty
  have C4 := Lib.hid c4
  have HSK := Lib.hid hsk
  clear h h1 h2 hR hno c1 hsy hL hrd hls hs1 hty c4 hsk
  go_enter Tryz.func75, Tryz.ntmps75
  go_wp2_with fail
  refine (refuse_ok 14 _).mono ?_
  rintro e WP ⟨rfl, rfl⟩
  go_wp2_with fail
  refine (refuse_ok 11 _).mono ?_
  rintro e WP ⟨rfl, rfl⟩
  clear x1 x2 x3 x6 c2b c2d c2
  go_wp2_with fail
  go_loopw [39] (fun s39 wr => ∃ (k : Nat) (s1 : BdS), k ≤ n ∧ s39 = .int .i64 (k : Int) ∧ bndD ls skip (n - k) s1 = R ∧ StD w B m kd imm s1 bc b wr ∧ KeepF WP wr ∧ s1.fs.length + (n - k) ≤ 20000) (fun s39 _ => n - (intOf s39).toNat)
  case atStart => exact ⟨0, s, Nat.zero_le _, rfl, HR0.out, H.out, fun _ h => h, HF0.out⟩
  case round =>
    obtain ⟨k, s1, hk, rfl, hr, hst, hkf, hfl⟩ := hrel
    have HR := Lib.hid hr
    have ST := Lib.hid hst
    have KN := Lib.hid hkf
    clear hr hst hkf
    by_cases hlt : k < n
    · have dlt : decide ((k : Int) < (n : Int)) = true := decide_eq_true (by omega)
      have hw1' : wrap64 ((k : Int) + 1) = (k : Int) + 1 := by unfold wrap64; omega
      have hw1 := hw1'
      clear hw1'
      obtain ⟨so, hb1, hf1⟩ := ST.out.box
      have HLN := Lib.hid (hfl)
      have HLF : Hid (s1.fs.length + 1 ≤ 20000) := Lib.hid (by omega)
      obtain ⟨s3, hs3⟩ : ∃ s3, s3 = { s1 with fs := s1.fs ++ [s1.f] } := ⟨_, rfl⟩
      have HNK : Hid (bndD ls skip (n - k) s1 = if writS ls s1.f.at_ 8 = true then (onD s3 8).then (fun s => (onD s skip).then (bndD ls skip (n - (k + 1)))) else .bad 19) := by
        refine Lib.hid ?_
        rw [hs3, show n - k = (n - (k + 1)) + 1 by omega]
        rfl
      have HSA : Hid (segL.Rd wr m.segs.v ls) := Lib.hid (HRD.out.frame ST.out.chg)
      obtain ⟨q, hq⟩ : ∃ q, q = writS ls s1.f.at_ 8 := ⟨_, rfl⟩
      have HWR := Lib.hid (fun w rd => Writable_any m ls Hls.out s1.f.at_ 8 ST.out.at_.2 w rd)
      rw [← hq] at HWR HNK
      have x27 : wr.cell? ⟨b, 27, none⟩ = some (.int .u64 s1.f.at_) := Brd.c_at hb1
      have HOB1 : Hid (∀ i, so.v.ownBlock = some i → b + 1 ≤ i) := Lib.hid (fun i hi => (hf1.lt i hi).1)
      have hbn : b < wr.heap.size := hb1.lt
      have hbc : bc < b := ST.out.hi
      have BX := Lib.hid hb1
      have FX := Lib.hid hf1
      have Hq := Lib.hid hq
      have HS3 := Lib.hid hs3
      clear hb1 hf1 hq hs3
      clear hfl
      cases q with
      | false =>
        have HB : Hid (R = .bad 19) := Lib.hid (by rw [← HR.out, HNK.out]; rfl)
        go_upto_region 4 with fail
        go_big_unhide
        refine wp_region_panTo (R := OutD w B m kd imm bc b WP R) (fun _ _ _ h1 h2 => And.intro h1 h2) ?_
        refine wp_region_held_drew (S := fun w' => Chg [] wr w') (by kernel_rfl) ((Chg.refl _ _).drew) (fun hHeld => ?_)
        refine take_read (i := 0) (v := ?_) (by simp only [List.getElem?_toArray, List.getElem?_cons_zero]; rfl) (by kernel_rfl) (by kernel_rfl) (by kernel_rfl) (fun _ _ _ h => PanTo.put h) hHeld ?_ ?_
        rotate_left
        · intro w hSw
          go_simp
          try with_reducible rfl
        try simp only [Act.put, List.setIfInBounds_toArray, List.set_cons_zero, List.set_cons_succ]
        refine take_read (i := 1) (v := ?_) (by simp only [List.getElem?_toArray, List.getElem?_cons_succ, List.getElem?_cons_zero]; rfl) (by kernel_rfl) (by kernel_rfl) (by kernel_rfl) (fun _ _ _ h => PanTo.put h) hHeld ?_ ?_
        rotate_left
        · intro w hSw
          go_simp
          try with_reducible rfl
        try simp only [Act.put, List.setIfInBounds_toArray, List.set_cons_zero, List.set_cons_succ]
        refine take_read (i := 2) (v := ?_) (by simp only [List.getElem?_toArray, List.getElem?_cons_succ, List.getElem?_cons_zero]; rfl) (by kernel_rfl) (by kernel_rfl) (by kernel_rfl) (fun _ _ _ h => PanTo.put h) hHeld ?_ ?_
        rotate_left
        · intro w hSw
          go_simp
          try with_reducible rfl
        try simp only [Act.put, List.setIfInBounds_toArray, List.set_cons_zero, List.set_cons_succ]
        refine take_read (i := 3) (v := ?_) (by simp only [List.getElem?_toArray, List.getElem?_cons_succ, List.getElem?_cons_zero]; rfl) (by kernel_rfl) (by kernel_rfl) (by kernel_rfl) (fun _ _ _ h => PanTo.put h) hHeld ?_ ?_
        rotate_left
        · intro w hSw
          refine Lay.read_ld Tryz.tImg ((Brd.i_m (BX.out.frame hSw))) ?_ ?_
          exact rfl
          exact rfl
        try simp only [Act.put, List.setIfInBounds_toArray, List.set_cons_zero, List.set_cons_succ]
        refine take_read (i := 4) (v := ?_) (by simp only [List.getElem?_toArray, List.getElem?_cons_succ, List.getElem?_cons_zero]; rfl) (by kernel_rfl) (by kernel_rfl) (by kernel_rfl) (fun _ _ _ h => PanTo.put h) hHeld ?_ ?_
        rotate_left
        · intro w hSw
          go_simp
          try with_reducible rfl
        try simp only [Act.put, List.setIfInBounds_toArray, List.set_cons_zero, List.set_cons_succ]
        refine take_read (i := 5) (v := ?_) (by simp only [List.getElem?_toArray, List.getElem?_cons_succ, List.getElem?_cons_zero]; rfl) (by kernel_rfl) (by kernel_rfl) (by kernel_rfl) (fun _ _ _ h => PanTo.put h) hHeld ?_ ?_
        rotate_left
        · intro w hSw
          go_simp
          try with_reducible rfl
        try simp only [Act.put, List.setIfInBounds_toArray, List.set_cons_zero, List.set_cons_succ]
        refine take_read (i := 6) (v := ?_) (by simp only [List.getElem?_toArray, List.getElem?_cons_succ, List.getElem?_cons_zero]; rfl) (by kernel_rfl) (by kernel_rfl) (by kernel_rfl) (fun _ _ _ h => PanTo.put h) hHeld ?_ ?_
        rotate_left
        · intro w hSw
          go_simp
          try with_reducible rfl
        try simp only [Act.put, List.setIfInBounds_toArray, List.set_cons_zero, List.set_cons_succ]
        refine take_read (i := 7) (v := ?_) (by simp only [List.getElem?_toArray, List.getElem?_cons_succ, List.getElem?_cons_zero]; rfl) (by kernel_rfl) (by kernel_rfl) (by kernel_rfl) (fun _ _ _ h => PanTo.put h) hHeld ?_ ?_
        rotate_left
        · intro w hSw
          go_simp
          try with_reducible rfl
        try simp only [Act.put, List.setIfInBounds_toArray, List.set_cons_zero, List.set_cons_succ]
        refine take_read (i := 8) (v := ?_) (by simp only [List.getElem?_toArray, List.getElem?_cons_succ, List.getElem?_cons_zero]; rfl) (by kernel_rfl) (by kernel_rfl) (by kernel_rfl) (fun _ _ _ h => PanTo.put h) hHeld ?_ ?_
        rotate_left
        · intro w hSw
          have x27 := hSw.cell x27 (by simp)
          go_simp
          try with_reducible rfl
        try simp only [Act.put, List.setIfInBounds_toArray, List.set_cons_zero, List.set_cons_succ]
        refine wpAnyH_ready (rs := [9]) (by kernel_rfl) (by simp) ?_
        refine AllReadyH.cons rfl (fun K hK => ?_) AllReadyH.nil
        go_simp
        refine (HWR.out _ (HSA.out.frame hHeld)).mono ?_
        rintro e W1 ⟨rfl, hc⟩
        have C1 : Hid (Chg [] wr W1) := Lib.hid (hHeld.then hc)
        clear hc
        refine hK.out _ _ C1.out (fun hHeld2 => ?_)
        clear hK hHeld K
        have hHeld := hHeld2
        clear hHeld2
        try (unfold Act.put; simp only [List.setIfInBounds_toArray, List.set_cons_zero, List.set_cons_succ])
        refine take_read (i := 10) (v := ?_) (by simp only [List.getElem?_toArray, List.getElem?_cons_succ, List.getElem?_cons_zero]; rfl) (by kernel_rfl) (by kernel_rfl) (by kernel_rfl) (fun _ _ _ h => PanTo.put h) hHeld ?_ ?_
        rotate_left
        · intro w hSw
          go_simp
          try with_reducible rfl
        try simp only [Act.put, List.setIfInBounds_toArray, List.set_cons_zero, List.set_cons_succ]
        refine wpAnyH_ready (rs := [11]) (by kernel_rfl) (by simp) ?_
        refine AllReadyH.cons rfl (fun K hK => ?_) AllReadyH.nil
        go_simp
        refine (refuse_bad 19 _).mono ?_
        rintro e W2 ⟨rfl, hw⟩
        subst hw
        have hp : OutD w B m kd imm bc b WP R (stopB 19) W2 := by rw [HB.out]; exact outD_bad (ST.out.chg.then hHeld)
        exact And.intro rfl hp
      | true =>
        rw [if_pos rfl] at HNK
        go_upto_region 4 with fail
        refine wp_region_noPanic ?_
        refine wp_region_held_drew (S := fun w' => Chg [] wr w') (by kernel_rfl) ((Chg.refl _ _).drew) (fun hHeld => ?_)
        refine take_read (i := 0) (v := ?_) (by simp only [List.getElem?_toArray, List.getElem?_cons_zero]; rfl) (by kernel_rfl) (by kernel_rfl) (by kernel_rfl) (fun _ _ _ h => h) hHeld ?_ ?_
        rotate_left
        · intro w hSw
          go_simp
          try with_reducible rfl
        try simp only [Act.put, List.setIfInBounds_toArray, List.set_cons_zero, List.set_cons_succ]
        refine take_read (i := 1) (v := ?_) (by simp only [List.getElem?_toArray, List.getElem?_cons_succ, List.getElem?_cons_zero]; rfl) (by kernel_rfl) (by kernel_rfl) (by kernel_rfl) (fun _ _ _ h => h) hHeld ?_ ?_
        rotate_left
        · intro w hSw
          go_simp
          try with_reducible rfl
        try simp only [Act.put, List.setIfInBounds_toArray, List.set_cons_zero, List.set_cons_succ]
        refine take_read (i := 2) (v := ?_) (by simp only [List.getElem?_toArray, List.getElem?_cons_succ, List.getElem?_cons_zero]; rfl) (by kernel_rfl) (by kernel_rfl) (by kernel_rfl) (fun _ _ _ h => h) hHeld ?_ ?_
        rotate_left
        · intro w hSw
          go_simp
          try with_reducible rfl
        try simp only [Act.put, List.setIfInBounds_toArray, List.set_cons_zero, List.set_cons_succ]
        refine take_read (i := 3) (v := ?_) (by simp only [List.getElem?_toArray, List.getElem?_cons_succ, List.getElem?_cons_zero]; rfl) (by kernel_rfl) (by kernel_rfl) (by kernel_rfl) (fun _ _ _ h => h) hHeld ?_ ?_
        rotate_left
        · intro w hSw
          refine Lay.read_ld Tryz.tImg ((Brd.i_m (BX.out.frame hSw))) ?_ ?_
          exact rfl
          exact rfl
        try simp only [Act.put, List.setIfInBounds_toArray, List.set_cons_zero, List.set_cons_succ]
        refine take_read (i := 4) (v := ?_) (by simp only [List.getElem?_toArray, List.getElem?_cons_succ, List.getElem?_cons_zero]; rfl) (by kernel_rfl) (by kernel_rfl) (by kernel_rfl) (fun _ _ _ h => h) hHeld ?_ ?_
        rotate_left
        · intro w hSw
          go_simp
          try with_reducible rfl
        try simp only [Act.put, List.setIfInBounds_toArray, List.set_cons_zero, List.set_cons_succ]
        refine take_read (i := 5) (v := ?_) (by simp only [List.getElem?_toArray, List.getElem?_cons_succ, List.getElem?_cons_zero]; rfl) (by kernel_rfl) (by kernel_rfl) (by kernel_rfl) (fun _ _ _ h => h) hHeld ?_ ?_
        rotate_left
        · intro w hSw
          go_simp
          try with_reducible rfl
        try simp only [Act.put, List.setIfInBounds_toArray, List.set_cons_zero, List.set_cons_succ]
        refine take_read (i := 6) (v := ?_) (by simp only [List.getElem?_toArray, List.getElem?_cons_succ, List.getElem?_cons_zero]; rfl) (by kernel_rfl) (by kernel_rfl) (by kernel_rfl) (fun _ _ _ h => h) hHeld ?_ ?_
        rotate_left
        · intro w hSw
          go_simp
          try with_reducible rfl
        try simp only [Act.put, List.setIfInBounds_toArray, List.set_cons_zero, List.set_cons_succ]
        refine take_read (i := 7) (v := ?_) (by simp only [List.getElem?_toArray, List.getElem?_cons_succ, List.getElem?_cons_zero]; rfl) (by kernel_rfl) (by kernel_rfl) (by kernel_rfl) (fun _ _ _ h => h) hHeld ?_ ?_
        rotate_left
        · intro w hSw
          go_simp
          try with_reducible rfl
        try simp only [Act.put, List.setIfInBounds_toArray, List.set_cons_zero, List.set_cons_succ]
        refine take_read (i := 8) (v := ?_) (by simp only [List.getElem?_toArray, List.getElem?_cons_succ, List.getElem?_cons_zero]; rfl) (by kernel_rfl) (by kernel_rfl) (by kernel_rfl) (fun _ _ _ h => h) hHeld ?_ ?_
        rotate_left
        · intro w hSw
          have x27 := hSw.cell x27 (by simp)
          go_simp
          try with_reducible rfl
        try simp only [Act.put, List.setIfInBounds_toArray, List.set_cons_zero, List.set_cons_succ]
        refine wpAnyH_ready (rs := [9]) (by kernel_rfl) (by simp) ?_
        refine AllReadyH.cons rfl (fun K hK => ?_) AllReadyH.nil
        go_simp
        refine (HWR.out _ (HSA.out.frame hHeld)).mono ?_
        rintro e W1 ⟨rfl, hc⟩
        have C1 : Hid (Chg [] wr W1) := Lib.hid (hHeld.then hc)
        clear hc
        refine hK.out _ _ C1.out (fun hHeld2 => ?_)
        clear hK hHeld K
        have hHeld := hHeld2
        clear hHeld2
        try (unfold Act.put; simp only [List.setIfInBounds_toArray, List.set_cons_zero, List.set_cons_succ])
        refine take_read (i := 10) (v := ?_) (by simp only [List.getElem?_toArray, List.getElem?_cons_succ, List.getElem?_cons_zero]; rfl) (by kernel_rfl) (by kernel_rfl) (by kernel_rfl) (fun _ _ _ h => h) hHeld ?_ ?_
        rotate_left
        · intro w hSw
          go_simp
          try with_reducible rfl
        try simp only [Act.put, List.setIfInBounds_toArray, List.set_cons_zero, List.set_cons_succ]
        refine wpAnyH_ready (rs := [11]) (by kernel_rfl) (by simp) ?_
        refine AllReadyH.cons rfl (fun K hK => ?_) AllReadyH.nil
        go_simp
        refine (refuse_ok 19 _).mono ?_
        rintro e W2 ⟨rfl, hw⟩
        subst hw
        have C2 : Hid (Chg [] wr W2) := Lib.hid (C1.out)
        refine hK.out _ _ C2.out (fun hHeld2 => ?_)
        clear hK hHeld K
        have hHeld := hHeld2
        clear hHeld2
        try (unfold Act.put; simp only [List.setIfInBounds_toArray, List.set_cons_zero, List.set_cons_succ])
        refine wpAnyH_done (by kernel_rfl) ?_ _
        refine NoPanic.normal ?_
        clear hHeld C1 x27
        have B2 := Lib.hid (BX.out.frame C2.out)
        have F2 := Lib.hid (FX.out.pure C2.out)
        have S2 := Lib.hid (ST.out.pure C2.out)
        have K2 := Lib.hid (KeepF.pure C2.out)
        have CW2 := Lib.hid (C2.out.size)
        clear BX FX HWR HSA ST
        go_upto_region 5 with fail
        have y29 := Brd.c_out (Lay.Box.drew B2.out)
        refine wp_region_noPanic ?_
        refine wp_region_held_drew (S := fun w' => Chg (b :: so.v.ownBlock.toList) W2 w' ∧ fxl.In w' b 27 s1.f) (by kernel_rfl) ⟨(Chg.refl _ _).drew, Brd.i_f (Lay.Box.drew B2.out)⟩ (fun hHeld => ?_)
        refine take_read (i := 0) (v := ?_) (by simp only [List.getElem?_toArray, List.getElem?_cons_zero]; rfl) (by kernel_rfl) (by kernel_rfl) (by kernel_rfl) (fun _ _ _ h => h) hHeld ?_ ?_
        rotate_left
        · intro w hSw
          go_simp
          try with_reducible rfl
        try simp only [Act.put, List.setIfInBounds_toArray, List.set_cons_zero, List.set_cons_succ]
        refine take_read (i := 1) (v := ?_) (by simp only [List.getElem?_toArray, List.getElem?_cons_succ, List.getElem?_cons_zero]; rfl) (by kernel_rfl) (by kernel_rfl) (by kernel_rfl) (fun _ _ _ h => h) hHeld ?_ ?_
        rotate_left
        · intro w hSw
          go_simp
          try with_reducible rfl
        try simp only [Act.put, List.setIfInBounds_toArray, List.set_cons_zero, List.set_cons_succ]
        refine take_read (i := 2) (v := ?_) (by simp only [List.getElem?_toArray, List.getElem?_cons_succ, List.getElem?_cons_zero]; rfl) (by kernel_rfl) (by kernel_rfl) (by kernel_rfl) (fun _ _ _ h => h) hHeld ?_ ?_
        rotate_left
        · intro w hSw
          go_simp
          try with_reducible rfl
        try simp only [Act.put, List.setIfInBounds_toArray, List.set_cons_zero, List.set_cons_succ]
        refine take_read (i := 3) (v := ?_) (by simp only [List.getElem?_toArray, List.getElem?_cons_succ, List.getElem?_cons_zero]; rfl) (by kernel_rfl) (by kernel_rfl) (by kernel_rfl) (fun _ _ _ h => h) hHeld ?_ ?_
        rotate_left
        · intro w hSw
          go_simp
          try with_reducible rfl
        try simp only [Act.put, List.setIfInBounds_toArray, List.set_cons_zero, List.set_cons_succ]
        refine take_read (i := 5) (v := ?_) (by simp only [List.getElem?_toArray, List.getElem?_cons_succ, List.getElem?_cons_zero]; rfl) (by kernel_rfl) (by kernel_rfl) (by kernel_rfl) (fun _ _ _ h => h) hHeld ?_ ?_
        rotate_left
        · intro w hSw
          go_simp
          try with_reducible rfl
        try simp only [Act.put, List.setIfInBounds_toArray, List.set_cons_zero, List.set_cons_succ]
        refine take_read (i := 6) (v := ?_) (by simp only [List.getElem?_toArray, List.getElem?_cons_succ, List.getElem?_cons_zero]; rfl) (by kernel_rfl) (by kernel_rfl) (by kernel_rfl) (fun _ _ _ h => h) hHeld ?_ ?_
        rotate_left
        · intro w hSw
          go_simp
          try with_reducible rfl
        try simp only [Act.put, List.setIfInBounds_toArray, List.set_cons_zero, List.set_cons_succ]
        refine take_read (i := 7) (v := ?_) (by simp only [List.getElem?_toArray, List.getElem?_cons_succ, List.getElem?_cons_zero]; rfl) (by kernel_rfl) (by kernel_rfl) (by kernel_rfl) (fun _ _ _ h => h) hHeld ?_ ?_
        rotate_left
        · intro w hSw
          go_simp
          try with_reducible rfl
        try simp only [Act.put, List.setIfInBounds_toArray, List.set_cons_zero, List.set_cons_succ]
        refine take_read (i := 8) (v := ?_) (by simp only [List.getElem?_toArray, List.getElem?_cons_succ, List.getElem?_cons_zero]; rfl) (by kernel_rfl) (by kernel_rfl) (by kernel_rfl) (fun _ _ _ h => h) hHeld ?_ ?_
        rotate_left
        · intro w hSw
          refine Lay.read_ld Tryz.tFx hSw.2 ?_ ?_
          exact rfl
          exact rfl
        try simp only [Act.put, List.setIfInBounds_toArray, List.set_cons_zero, List.set_cons_succ]
        refine wpAnyH_ready (rs := [4, 9]) (by kernel_rfl) (by simp) ?_
        refine AllReadyH.cons rfl (fun K hK => ?_) (AllReadyH.cons rfl (fun K hK => ?_) AllReadyH.nil)
        · go_simp
          refine hK.out _ _ hHeld (fun hHeld2 => ?_)
          clear hK hHeld K
          have hHeld := hHeld2
          clear hHeld2
          try (unfold Act.put; simp only [List.setIfInBounds_toArray, List.set_cons_zero, List.set_cons_succ])
          refine wpAnyH_ready (rs := [9]) (by kernel_rfl) (by simp) ?_
          refine AllReadyH.cons (by simp only [List.getElem?_toArray, List.getElem?_cons_succ, List.getElem?_cons_zero]; rfl) (fun K hK => ?_) AllReadyH.nil
          refine Lay.armBs1 rfl _ rfl s1.f (fx_builtB _) rfl (fun wj g hcj hrj => ?_)
          have J1 := Lib.hid hcj
          have JR := Lib.hid hrj
          clear hcj hrj
          replace y29 := J1.out.cell y29 (by simp)
          refine hK.out _ _ ⟨hHeld.1.then J1.out, hHeld.2.frame J1.out⟩ (fun hHeld2 => ?_)
          clear hK hHeld K
          have hHeld := hHeld2
          clear hHeld2
          try (unfold Act.put; simp only [List.setIfInBounds_toArray, List.set_cons_zero, List.set_cons_succ])
          refine wpAnyH_ready (rs := [10]) (by kernel_rfl) (by simp) ?_
          refine AllReadyH.cons (by simp only [List.getElem?_toArray, List.getElem?_cons_succ, List.getElem?_cons_zero]; rfl) (fun K hK => ?_) AllReadyH.nil
          have DJ : Hid (Chg [] W2 wj) := Lib.hid (((Chg.refl [] W2).drew).then J1.out)
          refine Lay.armApp (L := fxl) Tryz.infoFxL rfl _ _ rfl (b + 1) so.v s1.fs rfl (F2.out.pure DJ.out) ⟨g, 0, none⟩ 1 1 rfl [s1.f] JR.out (by have := HLF.out; simp; omega) (by have := HLF.out; simp; omega) (by have := CW2.out; have := DJ.out.size; omega) (fun vk wk hok hgr hlc => ?_)
          obtain ⟨a9, c9, rfl, _, _⟩ := hok.rd.shape
          rw [show (s1.fs ++ [s1.f]).length = s1.fs.length + 1 by simp] at hok hlc
          have hnb : b ∉ so.v.ownBlock.toList := fun hm => by have := HOB1.out b (by simpa using hm); omega
          have GR := Lib.hid (Lay.chg_grown hgr)
          have C12 : Hid (Chg (b :: so.v.ownBlock.toList) W2 wk) := Lib.hid (hHeld.1.same (GR.out.mono (fun i hi _ => List.mem_cons_of_mem _ hi)))
          have BK : Hid (brdL.Box wk b (dR bc m kd imm s1 so)) := Lib.hid ((B2.out.frame DJ.out).frameS GR.out hnb)
          have IF9 : Hid (fxl.In wk b 27 s1.f) := Lib.hid (Brd.i_f BK.out)
          have OK := Lib.hid hok
          clear hok
          clear hgr y29 hlc
          have y29 : wk.cell? ⟨b, 36, none⟩ = some (.slice so.a so.n so.cap) := Brd.c_out BK.out
          have z29 := BK.out.frozen 36
          have BZ := Lib.hid (Brd.set_out BK.out ⟨a9, s1.fs.length + 1, c9⟩)
          have IZ : Hid (fxl.In (wk.setCell ⟨b, 36, none⟩ (.slice a9 (s1.fs.length + 1) c9)) b 27 s1.f) := Lib.hid (Brd.i_f BZ.out)
          refine hK.out _ _ ⟨C12.out, IF9.out⟩ (fun hHeld2 => ?_)
          clear hK hHeld K
          have hHeld := hHeld2
          clear hHeld2
          try (unfold Act.put; simp only [List.setIfInBounds_toArray, List.set_cons_zero, List.set_cons_succ])
          refine take_read (i := 11) (v := ?_) (by simp only [List.getElem?_toArray, List.getElem?_cons_succ, List.getElem?_cons_zero]; rfl) (by kernel_rfl) (by kernel_rfl) (by kernel_rfl) (fun _ _ _ h => h) hHeld ?_ ?_
          rotate_left
          · intro w hSw
            go_simp
            try with_reducible rfl
          try simp only [Act.put, List.setIfInBounds_toArray, List.set_cons_zero, List.set_cons_succ]
          refine take_read (i := 12) (v := ?_) (by simp only [List.getElem?_toArray, List.getElem?_cons_succ, List.getElem?_cons_zero]; rfl) (by kernel_rfl) (by kernel_rfl) (by kernel_rfl) (fun _ _ _ h => h) hHeld ?_ ?_
          rotate_left
          · intro w hSw
            go_simp
            try with_reducible rfl
          try simp only [Act.put, List.setIfInBounds_toArray, List.set_cons_zero, List.set_cons_succ]
          refine wpAnyH_ready (rs := [13]) (by kernel_rfl) (by simp) ?_
          refine AllReadyH.cons rfl (fun K hK => ?_) AllReadyH.nil
          go_simp
          refine hK.out _ _ ⟨C12.out.setCell _ _ (.inl (by simp)), IZ.out⟩ (fun hHeld2 => ?_)
          clear hK hHeld K
          have hHeld := hHeld2
          clear hHeld2
          try (unfold Act.put; simp only [List.setIfInBounds_toArray, List.set_cons_zero, List.set_cons_succ])
          refine wpAnyH_done (by kernel_rfl) ?_ _
          refine NoPanic.normal ?_
          refine with_exitB (Q := Exit.then _ _ _ _) (fun W => StD w B m kd imm s3 bc b W ∧ KeepF W2 W) ?_ (fun W3 hW => ?_)
          · rw [HS3.out]
            have hob : ∀ i ∈ b :: so.v.ownBlock.toList, bc < i := fun i hi => by
              rcases List.mem_cons.1 hi with e | e
              · omega
              · have := HOB1.out i (by simpa using e); omega
            exact S2.out.next hw (so := so) B2.out F2.out hHeld.1 (fun i hi => by rcases List.mem_cons.1 hi with e | e; exact .inl e; exact .inr (.inr (by simpa using e))) (S2.out.cur.far2 hHeld.1 hob) (BZ.out) (OK.out.frame (S := [b]) ((Chg.refl _ _).setCell _ _ (.inl (by simp))) (fun k hk hm => by have := (OK.out.lt k hk).1; simp at hm; omega)) (by show (s1.fs ++ [s1.f]).length ≤ 20000; rw [List.length_append]; exact HLF.out) S2.out.at_
          obtain ⟨h1, h2⟩ := hW
          have S3 := Lib.hid (h1)
          have K3 := Lib.hid (KN.out.trans (K2.out.trans h2))
          clear h1 h2 hHeld BZ y29 z29
          cases h8 : onD s3 8 with
          | bad q =>
            have HON := Lib.hid (on_D S3.out hw 8 (by decide))
            rw [h8] at HON
            have HB : Hid (R = .bad q) := Lib.hid (by rw [← HR.out, HNK.out, h8]; rfl)
            go_wp2_with fail
            refine HON.out.mono ?_
            rintro e W4 ⟨rfl, hc4⟩
            have hp : OutD w B m kd imm bc b WP R (stopB q) W4 := by rw [HB.out]; exact outD_bad hc4
            exact ⟨rfl, hp⟩
          | ok s4 =>
            have HON := Lib.hid (on_D S3.out hw 8 (by decide))
            rw [h8] at HON
            go_wp2_with fail
            refine HON.out.mono ?_
            rintro e W4 ⟨rfl, h4, k4⟩
            have S4 := Lib.hid (h4)
            have K4 := Lib.hid (K3.out.trans k4)
            clear h4 k4
            cases h9 : onD s4 skip with
            | bad q =>
              have HON2 := Lib.hid (on_D S4.out hw skip HSK.out)
              rw [h9] at HON2
              have HB : Hid (R = .bad q) := Lib.hid (by rw [← HR.out, HNK.out, h8]; show BdR.then (onD s4 skip) _ = _; rw [h9]; rfl)
              go_wp2_with fail
              refine HON2.out.mono ?_
              rintro e W5 ⟨rfl, hc5⟩
              have hp : OutD w B m kd imm bc b WP R (stopB q) W5 := by rw [HB.out]; exact outD_bad hc5
              exact ⟨rfl, hp⟩
            | ok s5 =>
              have HON2 := Lib.hid (on_D S4.out hw skip HSK.out)
              rw [h9] at HON2
              go_wp2_with fail
              refine HON2.out.mono ?_
              rintro e W5 ⟨rfl, h5, k5⟩
              have S5 := Lib.hid (h5)
              have K5 := Lib.hid (K4.out.trans k5)
              clear h5 k5
              have HR5 : Hid (bndD ls skip (n - (k + 1)) s5 = R) := Lib.hid (by rw [← HR.out, HNK.out, h8]; show _ = BdR.then (onD s4 skip) _; rw [h9]; rfl)
              have HF5 : Hid (s5.fs.length + (n - (k + 1)) ≤ 20000) := by
                refine Lib.hid ?_
                have e1 := onD_fs h8
                have e2 := onD_fs h9
                have e3 : s3.fs.length = s1.fs.length + 1 := by rw [HS3.out]; simp
                have := HLN.out
                rw [e2, e1, e3]
                omega
              have H8 := Lib.hid h8
              have H9 := Lib.hid h9
              clear h8 h9
              go_wp2
              go_roundw
              case rel => exact ⟨k + 1, s5, hlt, by first | rfl | exact congrArg (Value.int .i64) hw1 | go_num, HR5.out, S5.out, K5.out, HF5.out⟩
              case measure => first | exact meas_d hlt | exact meas_e hw1 hlt
        · refine Lay.armBs1 rfl _ rfl s1.f (fx_builtB _) rfl (fun wj g hcj hrj => ?_)
          have J1 := Lib.hid hcj
          have JR := Lib.hid hrj
          clear hcj hrj
          replace y29 := J1.out.cell y29 (by simp)
          refine hK.out _ _ ⟨hHeld.1.then J1.out, hHeld.2.frame J1.out⟩ (fun hHeld2 => ?_)
          clear hK hHeld K
          have hHeld := hHeld2
          clear hHeld2
          try (unfold Act.put; simp only [List.setIfInBounds_toArray, List.set_cons_zero, List.set_cons_succ])
          refine wpAnyH_ready (rs := [4]) (by kernel_rfl) (by simp) ?_
          refine AllReadyH.cons rfl (fun K hK => ?_) AllReadyH.nil
          go_simp
          refine hK.out _ _ hHeld (fun hHeld2 => ?_)
          clear hK hHeld K
          have hHeld := hHeld2
          clear hHeld2
          try (unfold Act.put; simp only [List.setIfInBounds_toArray, List.set_cons_zero, List.set_cons_succ])
          refine wpAnyH_ready (rs := [10]) (by kernel_rfl) (by simp) ?_
          refine AllReadyH.cons (by simp only [List.getElem?_toArray, List.getElem?_cons_succ, List.getElem?_cons_zero]; rfl) (fun K hK => ?_) AllReadyH.nil
          have DJ : Hid (Chg [] W2 wj) := Lib.hid (((Chg.refl [] W2).drew).then J1.out)
          refine Lay.armApp (L := fxl) Tryz.infoFxL rfl _ _ rfl (b + 1) so.v s1.fs rfl (F2.out.pure DJ.out) ⟨g, 0, none⟩ 1 1 rfl [s1.f] JR.out (by have := HLF.out; simp; omega) (by have := HLF.out; simp; omega) (by have := CW2.out; have := DJ.out.size; omega) (fun vk wk hok hgr hlc => ?_)
          obtain ⟨a9, c9, rfl, _, _⟩ := hok.rd.shape
          rw [show (s1.fs ++ [s1.f]).length = s1.fs.length + 1 by simp] at hok hlc
          have hnb : b ∉ so.v.ownBlock.toList := fun hm => by have := HOB1.out b (by simpa using hm); omega
          have GR := Lib.hid (Lay.chg_grown hgr)
          have C12 : Hid (Chg (b :: so.v.ownBlock.toList) W2 wk) := Lib.hid (hHeld.1.same (GR.out.mono (fun i hi _ => List.mem_cons_of_mem _ hi)))
          have BK : Hid (brdL.Box wk b (dR bc m kd imm s1 so)) := Lib.hid ((B2.out.frame DJ.out).frameS GR.out hnb)
          have IF9 : Hid (fxl.In wk b 27 s1.f) := Lib.hid (Brd.i_f BK.out)
          have OK := Lib.hid hok
          clear hok
          clear hgr y29 hlc
          have y29 : wk.cell? ⟨b, 36, none⟩ = some (.slice so.a so.n so.cap) := Brd.c_out BK.out
          have z29 := BK.out.frozen 36
          have BZ := Lib.hid (Brd.set_out BK.out ⟨a9, s1.fs.length + 1, c9⟩)
          have IZ : Hid (fxl.In (wk.setCell ⟨b, 36, none⟩ (.slice a9 (s1.fs.length + 1) c9)) b 27 s1.f) := Lib.hid (Brd.i_f BZ.out)
          refine hK.out _ _ ⟨C12.out, IF9.out⟩ (fun hHeld2 => ?_)
          clear hK hHeld K
          have hHeld := hHeld2
          clear hHeld2
          try (unfold Act.put; simp only [List.setIfInBounds_toArray, List.set_cons_zero, List.set_cons_succ])
          refine take_read (i := 11) (v := ?_) (by simp only [List.getElem?_toArray, List.getElem?_cons_succ, List.getElem?_cons_zero]; rfl) (by kernel_rfl) (by kernel_rfl) (by kernel_rfl) (fun _ _ _ h => h) hHeld ?_ ?_
          rotate_left
          · intro w hSw
            go_simp
            try with_reducible rfl
          try simp only [Act.put, List.setIfInBounds_toArray, List.set_cons_zero, List.set_cons_succ]
          refine take_read (i := 12) (v := ?_) (by simp only [List.getElem?_toArray, List.getElem?_cons_succ, List.getElem?_cons_zero]; rfl) (by kernel_rfl) (by kernel_rfl) (by kernel_rfl) (fun _ _ _ h => h) hHeld ?_ ?_
          rotate_left
          · intro w hSw
            go_simp
            try with_reducible rfl
          try simp only [Act.put, List.setIfInBounds_toArray, List.set_cons_zero, List.set_cons_succ]
          refine wpAnyH_ready (rs := [13]) (by kernel_rfl) (by simp) ?_
          refine AllReadyH.cons rfl (fun K hK => ?_) AllReadyH.nil
          go_simp
          refine hK.out _ _ ⟨C12.out.setCell _ _ (.inl (by simp)), IZ.out⟩ (fun hHeld2 => ?_)
          clear hK hHeld K
          have hHeld := hHeld2
          clear hHeld2
          try (unfold Act.put; simp only [List.setIfInBounds_toArray, List.set_cons_zero, List.set_cons_succ])
          refine wpAnyH_done (by kernel_rfl) ?_ _
          refine NoPanic.normal ?_
          refine with_exitB (Q := Exit.then _ _ _ _) (fun W => StD w B m kd imm s3 bc b W ∧ KeepF W2 W) ?_ (fun W3 hW => ?_)
          · rw [HS3.out]
            have hob : ∀ i ∈ b :: so.v.ownBlock.toList, bc < i := fun i hi => by
              rcases List.mem_cons.1 hi with e | e
              · omega
              · have := HOB1.out i (by simpa using e); omega
            exact S2.out.next hw (so := so) B2.out F2.out hHeld.1 (fun i hi => by rcases List.mem_cons.1 hi with e | e; exact .inl e; exact .inr (.inr (by simpa using e))) (S2.out.cur.far2 hHeld.1 hob) (BZ.out) (OK.out.frame (S := [b]) ((Chg.refl _ _).setCell _ _ (.inl (by simp))) (fun k hk hm => by have := (OK.out.lt k hk).1; simp at hm; omega)) (by show (s1.fs ++ [s1.f]).length ≤ 20000; rw [List.length_append]; exact HLF.out) S2.out.at_
          obtain ⟨h1, h2⟩ := hW
          have S3 := Lib.hid (h1)
          have K3 := Lib.hid (KN.out.trans (K2.out.trans h2))
          clear h1 h2 hHeld BZ y29 z29
          cases h8 : onD s3 8 with
          | bad q =>
            have HON := Lib.hid (on_D S3.out hw 8 (by decide))
            rw [h8] at HON
            have HB : Hid (R = .bad q) := Lib.hid (by rw [← HR.out, HNK.out, h8]; rfl)
            go_wp2_with fail
            refine HON.out.mono ?_
            rintro e W4 ⟨rfl, hc4⟩
            have hp : OutD w B m kd imm bc b WP R (stopB q) W4 := by rw [HB.out]; exact outD_bad hc4
            exact ⟨rfl, hp⟩
          | ok s4 =>
            have HON := Lib.hid (on_D S3.out hw 8 (by decide))
            rw [h8] at HON
            go_wp2_with fail
            refine HON.out.mono ?_
            rintro e W4 ⟨rfl, h4, k4⟩
            have S4 := Lib.hid (h4)
            have K4 := Lib.hid (K3.out.trans k4)
            clear h4 k4
            cases h9 : onD s4 skip with
            | bad q =>
              have HON2 := Lib.hid (on_D S4.out hw skip HSK.out)
              rw [h9] at HON2
              have HB : Hid (R = .bad q) := Lib.hid (by rw [← HR.out, HNK.out, h8]; show BdR.then (onD s4 skip) _ = _; rw [h9]; rfl)
              go_wp2_with fail
              refine HON2.out.mono ?_
              rintro e W5 ⟨rfl, hc5⟩
              have hp : OutD w B m kd imm bc b WP R (stopB q) W5 := by rw [HB.out]; exact outD_bad hc5
              exact ⟨rfl, hp⟩
            | ok s5 =>
              have HON2 := Lib.hid (on_D S4.out hw skip HSK.out)
              rw [h9] at HON2
              go_wp2_with fail
              refine HON2.out.mono ?_
              rintro e W5 ⟨rfl, h5, k5⟩
              have S5 := Lib.hid (h5)
              have K5 := Lib.hid (K4.out.trans k5)
              clear h5 k5
              have HR5 : Hid (bndD ls skip (n - (k + 1)) s5 = R) := Lib.hid (by rw [← HR.out, HNK.out, h8]; show _ = BdR.then (onD s4 skip) _; rw [h9]; rfl)
              have HF5 : Hid (s5.fs.length + (n - (k + 1)) ≤ 20000) := by
                refine Lib.hid ?_
                have e1 := onD_fs h8
                have e2 := onD_fs h9
                have e3 : s3.fs.length = s1.fs.length + 1 := by rw [HS3.out]; simp
                have := HLN.out
                rw [e2, e1, e3]
                omega
              have H8 := Lib.hid h8
              have H9 := Lib.hid h9
              clear h8 h9
              go_wp2
              go_roundw
              case rel => exact ⟨k + 1, s5, hlt, by first | rfl | exact congrArg (Value.int .i64) hw1 | go_num, HR5.out, S5.out, K5.out, HF5.out⟩
              case measure => first | exact meas_d hlt | exact meas_e hw1 hlt
    · obtain rfl : n = k := by omega
      have dlt : decide ((n : Int) < (n : Int)) = false := decide_eq_false (by omega)
      have HB : Hid (R = .ok s1) := Lib.hid (by rw [← HR.out, Nat.sub_self]; rfl)
      go_wp2
      go_end0
      rw [HB.out]
      exact outD_ok ⟨ST.out, KN.out⟩
end Go.Proofs.YtkomocgodljecaaGreatDoor
