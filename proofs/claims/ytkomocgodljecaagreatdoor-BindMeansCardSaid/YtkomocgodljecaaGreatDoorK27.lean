/- Lemmas, laid together: part 27 of 41. Conditions: none but each lemma's own. -/
import Derived.Test.YtkomocgodljecaaGreatDoorK26
/- bind: the addend, the place, further; one bind and many, from any state. -/
namespace Go.Proofs.YtkomocgodljecaaGreatDoor
open Go.RowKit
set_option maxRecDepth 100000

theorem StD.im {w : World} {B : List UInt8} {m : Img} {kd imm : Int} {s : BdS} {bc b : Nat} {W : World} (h : StD w B m kd imm s bc b W) : imgL.In W b 1 m := by
  obtain ⟨so, h1, _⟩ := h.box
  exact Brd.i_m h1
theorem StD.cimm {w : World} {B : List UInt8} {m : Img} {kd imm : Int} {s : BdS} {bc b : Nat} {W : World} (h : StD w B m kd imm s bc b W) : W.cell? ⟨b, 26, none⟩ = some (.int .u8 imm) := by
  obtain ⟨so, h1, _⟩ := h.box
  exact Brd.c_imm h1
set_option maxHeartbeats 4000000 in
theorem addend_D {w : World} {B : List UInt8} {m : Img} {kd imm : Int} {s : BdS} {bc b : Nat} {W : World} (h : StD w B m kd imm s bc b W) (hw : Env w) (ls : List Seg) (nd im : Nat) :
    Calls Tryz.prog 54 #[.pointer (some ⟨b, 0, none⟩)] W (OutD w B m kd imm bc b W (opD B ls nd kd 6 im s)) := by
  obtain ⟨so, h1, h2⟩ := h.box
  have x0 : W.cell? ⟨b, 0, none⟩ = some (.pointer (some ⟨bc, 0, none⟩)) := Brd.c_c h1
  have hbc : bc < b := h.hi
  have heb : Hid (1 ∉ [b, bc]) := Lib.hid (by have := Env.lo hw h.lo; simp; omega)
  rw [opD_6]
  cases hu : svalV (B.drop s.p) with
  | none =>
    obtain ⟨_, hv2⟩ := S_none false hu
    obtain ⟨V, hV⟩ : ∃ V, V = lebV slebR ⟨B, s.p, false, false⟩ := ⟨_, rfl⟩
    have HSL := Lib.hid (fun w hg hcur => Sleb_cur bc ⟨B, s.p, false, false⟩ w hg hcur)
    rw [hv2, ← hV] at HSL
    have HER := Lib.hid (fun w hg hcur => Err_bad bc ⟨B, s.p, false, true⟩ w hg hcur rfl)
    have H := Lib.hid h
    have H1 := Lib.hid h1
    have H2 := Lib.hid h2
    have Hu := Lib.hid hu
    have Hv2 := Lib.hid hv2
    have HV := Lib.hid hV
    clear h h1 h2 hu hv2 hV
    go_enter Tryz.func54, Tryz.ntmps54
    go_wp2_with fail
    refine (HSL.out _ H.out.env H.out.cur).mono ?_
    rintro e W1 ⟨rfl, hc1, k1⟩
    have B1 := Lib.hid (H1.out.frameS k1 (by simp; omega))
    have y5 : W1.cell? ⟨b, 32, none⟩ = some (.int .i64 s.f.add) := by have := B1.out.in 32 (by decide); rw [Nat.zero_add] at this; exact this
    have z5 := B1.out.frozen 32
    have CU1 := Lib.hid hc1
    have C1 := Lib.hid k1
    clear hc1 k1
    clear x0
    go_upto_region 1 with fail
    refine Lay.with_world (fun W' => brdL.Box W' b (dR bc m kd imm { s with f := { s.f with add := V } } so) ∧ CurB W' bc ⟨B, s.p, false, true⟩ ∧ Chg [b, bc] W W') ⟨Brd.set_add B1.out V, CU1.out.far2 (S := [b]) ((Chg.refl _ _).setCell _ _ (.inl (by simp))) (by simp; omega), (C1.out.mono (by simp)).setCell _ _ (.inl (by simp))⟩ (fun W2 hW => ?_)
    obtain ⟨h1, h2, h3⟩ := hW
    have B2 := Lib.hid h1
    have CU2 := Lib.hid h2
    have C2 := Lib.hid h3
    clear h1 h2 h3
    clear y5 z5
    have x0 : W2.cell? ⟨b, 0, none⟩ = some (.pointer (some ⟨bc, 0, none⟩)) := Brd.c_c B2.out
    go_wp2_with fail
    refine (HER.out _ (H.out.env.frame C2.out heb.out) CU2.out).mono ?_
    rintro e W3 ⟨rfl, k3⟩
    have C3 := Lib.hid (C2.out.then k3)
    clear k3
    go_wp2_with fail
    refine (refuse_bad 3 _).mono ?_
    rintro e WP ⟨rfl, rfl⟩
    exact ⟨rfl, outD_bad (H.out.chgc C3.out (by simp; omega))⟩
  | some p =>
    obtain ⟨n, q⟩ := p
    obtain ⟨hv1, hv2⟩ := S_some false hu
    have HSL := Lib.hid (fun w hg hcur => Sleb_cur bc ⟨B, s.p, false, false⟩ w hg hcur)
    rw [hv2, hv1] at HSL
    have HER := Lib.hid (fun w hcur => Err_ok bc ⟨B, s.p + q, false, false⟩ w hcur rfl)
    have H := Lib.hid h
    have H1 := Lib.hid h1
    have H2 := Lib.hid h2
    have Hu := Lib.hid hu
    have Hv1 := Lib.hid hv1
    have Hv2 := Lib.hid hv2
    clear h h1 h2 hu hv1 hv2
    go_enter Tryz.func54, Tryz.ntmps54
    go_wp2_with fail
    refine (HSL.out _ H.out.env H.out.cur).mono ?_
    rintro e W1 ⟨rfl, hc1, k1⟩
    have B1 := Lib.hid (H1.out.frameS k1 (by simp; omega))
    have y5 : W1.cell? ⟨b, 32, none⟩ = some (.int .i64 s.f.add) := by have := B1.out.in 32 (by decide); rw [Nat.zero_add] at this; exact this
    have z5 := B1.out.frozen 32
    have CU1 := Lib.hid hc1
    have C1 := Lib.hid k1
    clear hc1 k1
    clear x0
    go_upto_region 1 with fail
    refine Lay.with_world (fun W' => brdL.Box W' b (dR bc m kd imm { s with p := s.p + q, f := { s.f with add := n } } so) ∧ CurB W' bc ⟨B, s.p + q, false, false⟩ ∧ Chg [b, bc] W W') ⟨Brd.set_add B1.out n, CU1.out.far2 (S := [b]) ((Chg.refl _ _).setCell _ _ (.inl (by simp))) (by simp; omega), (C1.out.mono (by simp)).setCell _ _ (.inl (by simp))⟩ (fun W2 hW => ?_)
    obtain ⟨h1, h2, h3⟩ := hW
    have B2 := Lib.hid h1
    have CU2 := Lib.hid h2
    have C2 := Lib.hid h3
    clear h1 h2 h3
    clear y5 z5
    have x0 : W2.cell? ⟨b, 0, none⟩ = some (.pointer (some ⟨bc, 0, none⟩)) := Brd.c_c B2.out
    go_wp2_with fail
    refine (HER.out _ CU2.out).mono ?_
    rintro e W3 ⟨rfl, k3⟩
    have C3 := Lib.hid (C2.out.then k3)
    have B3 := Lib.hid (B2.out.frame k3)
    have CU3 := Lib.hid (CU2.out.frame k3)
    clear k3
    go_wp2_with fail
    refine (refuse_ok 3 _).mono ?_
    rintro e WP ⟨rfl, rfl⟩
    go_wp2
    go_end0
    exact outD_ok (H.out.next hw H1.out H2.out C3.out (fun i hi => by simp at hi; rcases hi with e | e; exact .inl e; exact .inr (.inl e)) CU3.out B3.out (H.out.own H2.out C3.out (fun i hi => by simpa using hi)) H.out.n H.out.at_)
theorem placeS_lt (ls : List Seg) (k o : Int) : 0 ≤ (placeS ls k o).1 ∧ (placeS ls k o).1 < 18446744073709551616 := by
  unfold placeS
  split
  · split
    · exact ⟨Int.le_refl _, by decide⟩
    · split
      · exact ⟨Int.le_refl _, by decide⟩
      · dsimp only
        rw [IntKind.wrap_u64]
        omega
  · exact ⟨Int.le_refl _, by decide⟩
set_option maxHeartbeats 4000000 in
theorem place_D {w : World} {B : List UInt8} {m : Img} {kd : Int} {im : Nat} {s : BdS} {bc b : Nat} {W : World} (h : StD w B m kd (im : Int) s bc b W) (hw : Env w) (hi : im < 16) (ls : List Seg) (hrd : segL.Rd w m.segs.v ls) (nd : Nat) :
    Calls Tryz.prog 55 #[.pointer (some ⟨b, 0, none⟩)] W (OutD w B m kd (im : Int) bc b W (opD B ls nd kd 7 im s)) := by
  have hnu := fun W h => @number_D w B m kd (im : Int) s bc b W h hw
  obtain ⟨so, h1, h2⟩ := h.box
  have hlt := h.hi
  have x4 : W.cell? ⟨b, 26, none⟩ = some (.int .u8 (im : Int)) := Brd.c_imm h1
  have hwi : IntKind.u64.wrap (im : Int) = (im : Int) := by rw [IntKind.wrap_u64]; omega
  unfold NumD at hnu
  rw [opD_7]
  unfold numD
  cases hu : uvalV (B.drop s.p) with
  | none =>
    rw [hu] at hnu
    dsimp only at hnu ⊢
    have H := Lib.hid h
    have H1 := Lib.hid h1
    have H2 := Lib.hid h2
    have Hu := Lib.hid hu
    have Hnu := Lib.hid hnu
    have Hrd := Lib.hid hrd
    clear h h1 h2 hu hnu hrd
    go_enter Tryz.func55, Tryz.ntmps55
    go_upto_region 0 with fail
    refine wp_region_panTo (R := OutD w B m kd (im : Int) bc b W (.bad 3)) (fun _ _ _ h1 h2 => And.intro h1 h2) ?_
    refine wp_region_held_drew (S := fun w' => Chg [] W w') (by kernel_rfl) ((Chg.refl [] W).drew) (fun hHeld => ?_)
    refine take_read (i := 0) (v := ?_) (by simp only [List.getElem?_toArray, List.getElem?_cons_zero]; rfl) (by kernel_rfl) (by kernel_rfl) (by kernel_rfl) (fun _ _ _ h => PanTo.put h) hHeld ?_ ?_
    rotate_left
    · intro w hSw
      go_simp
      try with_reducible rfl
    try simp only [Act.put, List.setIfInBounds_toArray, List.set_cons_zero, List.set_cons_succ]
    refine take_read (i := 1) (v := ?_) (by simp only [List.getElem?_toArray, List.getElem?_cons_succ, List.getElem?_cons_zero]; rfl) (by kernel_rfl) (by kernel_rfl) (by kernel_rfl) (fun _ _ _ h => PanTo.put h) hHeld ?_ ?_
    rotate_left
    · intro w hSw
      go_simp
      try with_reducible rfl
    try simp only [Act.put, List.setIfInBounds_toArray, List.set_cons_zero, List.set_cons_succ]
    refine take_read (i := 2) (v := ?_) (by simp only [List.getElem?_toArray, List.getElem?_cons_succ, List.getElem?_cons_zero]; rfl) (by kernel_rfl) (by kernel_rfl) (by kernel_rfl) (fun _ _ _ h => PanTo.put h) hHeld ?_ ?_
    rotate_left
    · intro w hSw
      go_simp
      try with_reducible rfl
    try simp only [Act.put, List.setIfInBounds_toArray, List.set_cons_zero, List.set_cons_succ]
    refine take_read (i := 3) (v := ?_) (by simp only [List.getElem?_toArray, List.getElem?_cons_succ, List.getElem?_cons_zero]; rfl) (by kernel_rfl) (by kernel_rfl) (by kernel_rfl) (fun _ _ _ h => PanTo.put h) hHeld ?_ ?_
    rotate_left
    · intro w hSw
      refine Lay.read_ld Tryz.tImg ((Brd.i_m (H1.out.frame hSw))) ?_ ?_
      exact rfl
      exact rfl
    try simp only [Act.put, List.setIfInBounds_toArray, List.set_cons_zero, List.set_cons_succ]
    refine take_read (i := 4) (v := ?_) (by simp only [List.getElem?_toArray, List.getElem?_cons_succ, List.getElem?_cons_zero]; rfl) (by kernel_rfl) (by kernel_rfl) (by kernel_rfl) (fun _ _ _ h => PanTo.put h) hHeld ?_ ?_
    rotate_left
    · intro w hSw
      go_simp
      try with_reducible rfl
    try simp only [Act.put, List.setIfInBounds_toArray, List.set_cons_zero, List.set_cons_succ]
    refine take_read (i := 5) (v := ?_) (by simp only [List.getElem?_toArray, List.getElem?_cons_succ, List.getElem?_cons_zero]; rfl) (by kernel_rfl) (by kernel_rfl) (by kernel_rfl) (fun _ _ _ h => PanTo.put h) hHeld ?_ ?_
    rotate_left
    · intro w hSw
      go_simp
      try with_reducible rfl
    try simp only [Act.put, List.setIfInBounds_toArray, List.set_cons_zero, List.set_cons_succ]
    refine take_read (i := 6) (v := ?_) (by simp only [List.getElem?_toArray, List.getElem?_cons_succ, List.getElem?_cons_zero]; rfl) (by kernel_rfl) (by kernel_rfl) (by kernel_rfl) (fun _ _ _ h => PanTo.put h) hHeld ?_ ?_
    rotate_left
    · intro w hSw
      go_simp
      try with_reducible rfl
    try simp only [Act.put, List.setIfInBounds_toArray, List.set_cons_zero, List.set_cons_succ]
    refine take_read (i := 7) (v := ?_) (by simp only [List.getElem?_toArray, List.getElem?_cons_succ, List.getElem?_cons_zero]; rfl) (by kernel_rfl) (by kernel_rfl) (by kernel_rfl) (fun _ _ _ h => PanTo.put h) hHeld ?_ ?_
    rotate_left
    · intro w hSw
      have x4 := hSw.cell x4 (by simp)
      go_simp
      try with_reducible rfl
    try simp only [Act.put, List.setIfInBounds_toArray, List.set_cons_zero, List.set_cons_succ]
    refine take_read (i := 8) (v := ?_) (by simp only [List.getElem?_toArray, List.getElem?_cons_succ, List.getElem?_cons_zero]; rfl) (by kernel_rfl) (by kernel_rfl) (by kernel_rfl) (fun _ _ _ h => PanTo.put h) hHeld ?_ ?_
    rotate_left
    · intro w hSw
      go_simp
      try with_reducible rfl
    try simp only [Act.put, List.setIfInBounds_toArray, List.set_cons_zero, List.set_cons_succ]
    refine take_read (i := 9) (v := ?_) (by simp only [List.getElem?_toArray, List.getElem?_cons_succ, List.getElem?_cons_zero]; rfl) (by kernel_rfl) (by kernel_rfl) (by kernel_rfl) (fun _ _ _ h => PanTo.put h) hHeld ?_ ?_
    rotate_left
    · intro w hSw
      go_simp
      try with_reducible rfl
    try simp only [Act.put, List.setIfInBounds_toArray, List.set_cons_zero, List.set_cons_succ]
    refine wpAnyH_ready (rs := [10]) (by kernel_rfl) (by simp) ?_
    refine AllReadyH.cons rfl (fun K hK => ?_) AllReadyH.nil
    go_simp
    refine (Hnu.out _ (H.out.pure hHeld)).mono ?_
    rintro e W1 ⟨rfl, hc⟩
    exact And.intro rfl (outD_bad hc)
  | some p =>
    obtain ⟨n, q⟩ := p
    have hn := (uvalV_lt hu).1
    rw [hu] at hnu
    dsimp only at hnu ⊢
    have hpl := fun W rd => Place_any m ls (im : Int) (by omega) (n : Int) W rd
    have hlt2 := placeS_lt ls (im : Int) (n : Int)
    obtain ⟨A, hA⟩ : ∃ A, A = (placeS ls im n).1 := ⟨_, rfl⟩
    obtain ⟨E, hE⟩ : ∃ E, E = (placeS ls im n).2 := ⟨_, rfl⟩
    rw [← hA, ← hE] at hpl ⊢
    rw [← hA] at hlt2
    obtain ⟨s1, hs1⟩ : ∃ s1, s1 = { s with p := s.p + q } := ⟨_, rfl⟩
    rw [← hs1] at hnu
    have H := Lib.hid h
    have H1 := Lib.hid h1
    have H2 := Lib.hid h2
    have Hu := Lib.hid hu
    have Hnu := Lib.hid hnu
    have Hpl := Lib.hid hpl
    have HA := Lib.hid hA
    have HE := Lib.hid hE
    have Hrd := Lib.hid hrd
    have Hn := Lib.hid hn
    have Hlt2 := Lib.hid hlt2
    have Hs1 := Lib.hid hs1
    clear h h1 h2 hu hnu hpl hA hE hrd hn hlt2 hs1
    by_cases hE0 : E = 0
    · subst hE0
      rw [if_pos rfl]
      go_enter Tryz.func55, Tryz.ntmps55
      go_upto_region 0 with fail
      refine wp_region_noPanic ?_
      refine wp_region_held_drew (S := fun w' => ∃ s0, StD w B m kd (im : Int) s0 bc b w') (by kernel_rfl) ⟨_, H.out.pure ((Chg.refl [] W).drew)⟩ (fun hHeld => ?_)
      refine take_read (i := 0) (v := ?_) (by simp only [List.getElem?_toArray, List.getElem?_cons_zero]; rfl) (by kernel_rfl) (by kernel_rfl) (by kernel_rfl) (fun _ _ _ h => h) hHeld ?_ ?_
      rotate_left
      · intro w hSw
        go_simp
        try with_reducible rfl
      try simp only [Act.put, List.setIfInBounds_toArray, List.set_cons_zero, List.set_cons_succ]
      refine take_read (i := 1) (v := ?_) (by simp only [List.getElem?_toArray, List.getElem?_cons_succ, List.getElem?_cons_zero]; rfl) (by kernel_rfl) (by kernel_rfl) (by kernel_rfl) (fun _ _ _ h => h) hHeld ?_ ?_
      rotate_left
      · intro w hSw
        go_simp
        try with_reducible rfl
      try simp only [Act.put, List.setIfInBounds_toArray, List.set_cons_zero, List.set_cons_succ]
      refine take_read (i := 2) (v := ?_) (by simp only [List.getElem?_toArray, List.getElem?_cons_succ, List.getElem?_cons_zero]; rfl) (by kernel_rfl) (by kernel_rfl) (by kernel_rfl) (fun _ _ _ h => h) hHeld ?_ ?_
      rotate_left
      · intro w hSw
        go_simp
        try with_reducible rfl
      try simp only [Act.put, List.setIfInBounds_toArray, List.set_cons_zero, List.set_cons_succ]
      refine take_read (i := 3) (v := ?_) (by simp only [List.getElem?_toArray, List.getElem?_cons_succ, List.getElem?_cons_zero]; rfl) (by kernel_rfl) (by kernel_rfl) (by kernel_rfl) (fun _ _ _ h => h) hHeld ?_ ?_
      rotate_left
      · intro w hSw
        refine Lay.read_ld Tryz.tImg (StD.im hSw.choose_spec) ?_ ?_
        exact rfl
        exact rfl
      try simp only [Act.put, List.setIfInBounds_toArray, List.set_cons_zero, List.set_cons_succ]
      refine take_read (i := 4) (v := ?_) (by simp only [List.getElem?_toArray, List.getElem?_cons_succ, List.getElem?_cons_zero]; rfl) (by kernel_rfl) (by kernel_rfl) (by kernel_rfl) (fun _ _ _ h => h) hHeld ?_ ?_
      rotate_left
      · intro w hSw
        go_simp
        try with_reducible rfl
      try simp only [Act.put, List.setIfInBounds_toArray, List.set_cons_zero, List.set_cons_succ]
      refine take_read (i := 5) (v := ?_) (by simp only [List.getElem?_toArray, List.getElem?_cons_succ, List.getElem?_cons_zero]; rfl) (by kernel_rfl) (by kernel_rfl) (by kernel_rfl) (fun _ _ _ h => h) hHeld ?_ ?_
      rotate_left
      · intro w hSw
        go_simp
        try with_reducible rfl
      try simp only [Act.put, List.setIfInBounds_toArray, List.set_cons_zero, List.set_cons_succ]
      refine take_read (i := 6) (v := ?_) (by simp only [List.getElem?_toArray, List.getElem?_cons_succ, List.getElem?_cons_zero]; rfl) (by kernel_rfl) (by kernel_rfl) (by kernel_rfl) (fun _ _ _ h => h) hHeld ?_ ?_
      rotate_left
      · intro w hSw
        go_simp
        try with_reducible rfl
      try simp only [Act.put, List.setIfInBounds_toArray, List.set_cons_zero, List.set_cons_succ]
      refine take_read (i := 7) (v := ?_) (by simp only [List.getElem?_toArray, List.getElem?_cons_succ, List.getElem?_cons_zero]; rfl) (by kernel_rfl) (by kernel_rfl) (by kernel_rfl) (fun _ _ _ h => h) hHeld ?_ ?_
      rotate_left
      · intro w hSw
        have x4 := StD.cimm hSw.choose_spec
        go_simp
        try with_reducible rfl
      try simp only [Act.put, List.setIfInBounds_toArray, List.set_cons_zero, List.set_cons_succ]
      refine take_read (i := 8) (v := ?_) (by simp only [List.getElem?_toArray, List.getElem?_cons_succ, List.getElem?_cons_zero]; rfl) (by kernel_rfl) (by kernel_rfl) (by kernel_rfl) (fun _ _ _ h => h) hHeld ?_ ?_
      rotate_left
      · intro w hSw
        go_simp
        try with_reducible rfl
      try simp only [Act.put, List.setIfInBounds_toArray, List.set_cons_zero, List.set_cons_succ]
      refine take_read (i := 9) (v := ?_) (by simp only [List.getElem?_toArray, List.getElem?_cons_succ, List.getElem?_cons_zero]; rfl) (by kernel_rfl) (by kernel_rfl) (by kernel_rfl) (fun _ _ _ h => h) hHeld ?_ ?_
      rotate_left
      · intro w hSw
        go_simp
        try with_reducible rfl
      try simp only [Act.put, List.setIfInBounds_toArray, List.set_cons_zero, List.set_cons_succ]
      refine wpAnyH_ready (rs := [10]) (by kernel_rfl) (by simp) ?_
      refine AllReadyH.cons rfl (fun K hK => ?_) AllReadyH.nil
      go_simp
      refine (Hnu.out _ (H.out.pure ((Chg.refl [] W).drew))).mono ?_
      rintro e W1 ⟨rfl, hst, hkf⟩
      have S1 := Lib.hid (hst)
      have K1 : Hid (KeepF W W1) := Lib.hid ((KeepF.pure ((Chg.refl [] W).drew)).trans hkf)
      clear hst hkf
      refine hK.out _ _ ⟨_, S1.out⟩ (fun hHeld2 => ?_)
      clear hK hHeld K
      have hHeld := hHeld2
      clear hHeld2
      try (unfold Act.put; simp only [List.setIfInBounds_toArray, List.set_cons_zero, List.set_cons_succ])
      refine wpAnyH_ready (rs := [11]) (by kernel_rfl) (by simp) ?_
      refine AllReadyH.cons rfl (fun K hK => ?_) AllReadyH.nil
      go_simp
      refine (Hpl.out _ (Hrd.out.frame S1.out.chg)).mono ?_
      rintro e W2 ⟨rfl, hc2⟩
      have S2 := Lib.hid (S1.out.pure hc2)
      have K2 := Lib.hid (K1.out.trans (KeepF.pure hc2))
      clear hc2
      refine hK.out _ _ ⟨_, S2.out⟩ (fun hHeld2 => ?_)
      clear hK hHeld K
      have hHeld := hHeld2
      clear hHeld2
      try (unfold Act.put; simp only [List.setIfInBounds_toArray, List.set_cons_zero, List.set_cons_succ])
      refine take_read (i := 12) (v := ?_) (by simp only [List.getElem?_toArray, List.getElem?_cons_succ, List.getElem?_cons_zero]; rfl) (by kernel_rfl) (by kernel_rfl) (by kernel_rfl) (fun _ _ _ h => h) hHeld ?_ ?_
      rotate_left
      · intro w hSw
        go_simp
        try with_reducible rfl
      try simp only [Act.put, List.setIfInBounds_toArray, List.set_cons_zero, List.set_cons_succ]
      refine take_read (i := 13) (v := ?_) (by simp only [List.getElem?_toArray, List.getElem?_cons_succ, List.getElem?_cons_zero]; rfl) (by kernel_rfl) (by kernel_rfl) (by kernel_rfl) (fun _ _ _ h => h) hHeld ?_ ?_
      rotate_left
      · intro w hSw
        go_simp
        try with_reducible rfl
      try simp only [Act.put, List.setIfInBounds_toArray, List.set_cons_zero, List.set_cons_succ]
      refine take_read (i := 14) (v := ?_) (by simp only [List.getElem?_toArray, List.getElem?_cons_succ, List.getElem?_cons_zero]; rfl) (by kernel_rfl) (by kernel_rfl) (by kernel_rfl) (fun _ _ _ h => h) hHeld ?_ ?_
      rotate_left
      · intro w hSw
        go_simp
        try with_reducible rfl
      try simp only [Act.put, List.setIfInBounds_toArray, List.set_cons_zero, List.set_cons_succ]
      refine take_read (i := 15) (v := ?_) (by simp only [List.getElem?_toArray, List.getElem?_cons_succ, List.getElem?_cons_zero]; rfl) (by kernel_rfl) (by kernel_rfl) (by kernel_rfl) (fun _ _ _ h => h) hHeld ?_ ?_
      rotate_left
      · intro w hSw
        go_simp
        try with_reducible rfl
      try simp only [Act.put, List.setIfInBounds_toArray, List.set_cons_zero, List.set_cons_succ]
      refine take_read (i := 16) (v := ?_) (by simp only [List.getElem?_toArray, List.getElem?_cons_succ, List.getElem?_cons_zero]; rfl) (by kernel_rfl) (by kernel_rfl) (by kernel_rfl) (fun _ _ _ h => h) hHeld ?_ ?_
      rotate_left
      · intro w hSw
        go_simp
        try with_reducible rfl
      try simp only [Act.put, List.setIfInBounds_toArray, List.set_cons_zero, List.set_cons_succ]
      refine wpAnyH_done (by kernel_rfl) ?_ _
      refine NoPanic.normal ?_
      clear hHeld x4
      obtain ⟨so2, hb2, hf2⟩ := S2.out.box
      have x6 : W2.cell? ⟨b, 27, none⟩ = some (.int .u64 s1.f.at_) := Brd.c_at hb2
      have x7 : W2.cell? ⟨b, 34, none⟩ = some (.bool s1.is_) := Brd.c_is hb2
      have z6 := hb2.frozen 27
      have z7 := hb2.frozen 34
      have Hb2 := Lib.hid hb2
      have Hf2 := Lib.hid hf2
      clear hb2 hf2
      go_wp2_with fail
      refine (refuse_ok 0 _).mono ?_
      rintro e WP ⟨rfl, rfl⟩
      go_wp2
      go_end0
      have r := S2.out.set hw Hb2.out Hf2.out (((Chg.refl [b] _).setCell _ _ (.inl (by simp))).setCell _ _ (.inl (by simp))) (s' := { s1 with f := { s1.f with at_ := A }, is_ := true }) rfl rfl (Brd.set_is (Brd.set_at Hb2.out A) true) Hlt2.out
      have e1 : ({ s1 with f := { s1.f with at_ := A }, is_ := true } : BdS) = { s with p := s.p + q, f := { s.f with at_ := A }, is_ := true } := by rw [Hs1.out]
      rw [e1] at r
      exact outD_ok ⟨r.1, K2.out.trans r.2⟩
    · rw [if_neg hE0]
      have e0 : (E == 0) = false := by rw [beq_eq_false_iff_ne]; exact hE0
      have e0b : (E != 0) = true := by rw [bne, e0]; rfl
      have HE0 := Lib.hid hE0
      clear hE0
      go_enter Tryz.func55, Tryz.ntmps55
      go_upto_region 0 with fail
      refine wp_region_noPanic ?_
      refine wp_region_held_drew (S := fun w' => ∃ s0, StD w B m kd (im : Int) s0 bc b w') (by kernel_rfl) ⟨_, H.out.pure ((Chg.refl [] W).drew)⟩ (fun hHeld => ?_)
      refine take_read (i := 0) (v := ?_) (by simp only [List.getElem?_toArray, List.getElem?_cons_zero]; rfl) (by kernel_rfl) (by kernel_rfl) (by kernel_rfl) (fun _ _ _ h => h) hHeld ?_ ?_
      rotate_left
      · intro w hSw
        go_simp
        try with_reducible rfl
      try simp only [Act.put, List.setIfInBounds_toArray, List.set_cons_zero, List.set_cons_succ]
      refine take_read (i := 1) (v := ?_) (by simp only [List.getElem?_toArray, List.getElem?_cons_succ, List.getElem?_cons_zero]; rfl) (by kernel_rfl) (by kernel_rfl) (by kernel_rfl) (fun _ _ _ h => h) hHeld ?_ ?_
      rotate_left
      · intro w hSw
        go_simp
        try with_reducible rfl
      try simp only [Act.put, List.setIfInBounds_toArray, List.set_cons_zero, List.set_cons_succ]
      refine take_read (i := 2) (v := ?_) (by simp only [List.getElem?_toArray, List.getElem?_cons_succ, List.getElem?_cons_zero]; rfl) (by kernel_rfl) (by kernel_rfl) (by kernel_rfl) (fun _ _ _ h => h) hHeld ?_ ?_
      rotate_left
      · intro w hSw
        go_simp
        try with_reducible rfl
      try simp only [Act.put, List.setIfInBounds_toArray, List.set_cons_zero, List.set_cons_succ]
      refine take_read (i := 3) (v := ?_) (by simp only [List.getElem?_toArray, List.getElem?_cons_succ, List.getElem?_cons_zero]; rfl) (by kernel_rfl) (by kernel_rfl) (by kernel_rfl) (fun _ _ _ h => h) hHeld ?_ ?_
      rotate_left
      · intro w hSw
        refine Lay.read_ld Tryz.tImg (StD.im hSw.choose_spec) ?_ ?_
        exact rfl
        exact rfl
      try simp only [Act.put, List.setIfInBounds_toArray, List.set_cons_zero, List.set_cons_succ]
      refine take_read (i := 4) (v := ?_) (by simp only [List.getElem?_toArray, List.getElem?_cons_succ, List.getElem?_cons_zero]; rfl) (by kernel_rfl) (by kernel_rfl) (by kernel_rfl) (fun _ _ _ h => h) hHeld ?_ ?_
      rotate_left
      · intro w hSw
        go_simp
        try with_reducible rfl
      try simp only [Act.put, List.setIfInBounds_toArray, List.set_cons_zero, List.set_cons_succ]
      refine take_read (i := 5) (v := ?_) (by simp only [List.getElem?_toArray, List.getElem?_cons_succ, List.getElem?_cons_zero]; rfl) (by kernel_rfl) (by kernel_rfl) (by kernel_rfl) (fun _ _ _ h => h) hHeld ?_ ?_
      rotate_left
      · intro w hSw
        go_simp
        try with_reducible rfl
      try simp only [Act.put, List.setIfInBounds_toArray, List.set_cons_zero, List.set_cons_succ]
      refine take_read (i := 6) (v := ?_) (by simp only [List.getElem?_toArray, List.getElem?_cons_succ, List.getElem?_cons_zero]; rfl) (by kernel_rfl) (by kernel_rfl) (by kernel_rfl) (fun _ _ _ h => h) hHeld ?_ ?_
      rotate_left
      · intro w hSw
        go_simp
        try with_reducible rfl
      try simp only [Act.put, List.setIfInBounds_toArray, List.set_cons_zero, List.set_cons_succ]
      refine take_read (i := 7) (v := ?_) (by simp only [List.getElem?_toArray, List.getElem?_cons_succ, List.getElem?_cons_zero]; rfl) (by kernel_rfl) (by kernel_rfl) (by kernel_rfl) (fun _ _ _ h => h) hHeld ?_ ?_
      rotate_left
      · intro w hSw
        have x4 := StD.cimm hSw.choose_spec
        go_simp
        try with_reducible rfl
      try simp only [Act.put, List.setIfInBounds_toArray, List.set_cons_zero, List.set_cons_succ]
      refine take_read (i := 8) (v := ?_) (by simp only [List.getElem?_toArray, List.getElem?_cons_succ, List.getElem?_cons_zero]; rfl) (by kernel_rfl) (by kernel_rfl) (by kernel_rfl) (fun _ _ _ h => h) hHeld ?_ ?_
      rotate_left
      · intro w hSw
        go_simp
        try with_reducible rfl
      try simp only [Act.put, List.setIfInBounds_toArray, List.set_cons_zero, List.set_cons_succ]
      refine take_read (i := 9) (v := ?_) (by simp only [List.getElem?_toArray, List.getElem?_cons_succ, List.getElem?_cons_zero]; rfl) (by kernel_rfl) (by kernel_rfl) (by kernel_rfl) (fun _ _ _ h => h) hHeld ?_ ?_
      rotate_left
      · intro w hSw
        go_simp
        try with_reducible rfl
      try simp only [Act.put, List.setIfInBounds_toArray, List.set_cons_zero, List.set_cons_succ]
      refine wpAnyH_ready (rs := [10]) (by kernel_rfl) (by simp) ?_
      refine AllReadyH.cons rfl (fun K hK => ?_) AllReadyH.nil
      go_simp
      refine (Hnu.out _ (H.out.pure ((Chg.refl [] W).drew))).mono ?_
      rintro e W1 ⟨rfl, hst, hkf⟩
      have S1 := Lib.hid (hst)
      have K1 : Hid (KeepF W W1) := Lib.hid ((KeepF.pure ((Chg.refl [] W).drew)).trans hkf)
      clear hst hkf
      refine hK.out _ _ ⟨_, S1.out⟩ (fun hHeld2 => ?_)
      clear hK hHeld K
      have hHeld := hHeld2
      clear hHeld2
      try (unfold Act.put; simp only [List.setIfInBounds_toArray, List.set_cons_zero, List.set_cons_succ])
      refine wpAnyH_ready (rs := [11]) (by kernel_rfl) (by simp) ?_
      refine AllReadyH.cons rfl (fun K hK => ?_) AllReadyH.nil
      go_simp
      refine (Hpl.out _ (Hrd.out.frame S1.out.chg)).mono ?_
      rintro e W2 ⟨rfl, hc2⟩
      have S2 := Lib.hid (S1.out.pure hc2)
      have K2 := Lib.hid (K1.out.trans (KeepF.pure hc2))
      clear hc2
      refine hK.out _ _ ⟨_, S2.out⟩ (fun hHeld2 => ?_)
      clear hK hHeld K
      have hHeld := hHeld2
      clear hHeld2
      try (unfold Act.put; simp only [List.setIfInBounds_toArray, List.set_cons_zero, List.set_cons_succ])
      refine take_read (i := 12) (v := ?_) (by simp only [List.getElem?_toArray, List.getElem?_cons_succ, List.getElem?_cons_zero]; rfl) (by kernel_rfl) (by kernel_rfl) (by kernel_rfl) (fun _ _ _ h => h) hHeld ?_ ?_
      rotate_left
      · intro w hSw
        go_simp
        try with_reducible rfl
      try simp only [Act.put, List.setIfInBounds_toArray, List.set_cons_zero, List.set_cons_succ]
      refine take_read (i := 13) (v := ?_) (by simp only [List.getElem?_toArray, List.getElem?_cons_succ, List.getElem?_cons_zero]; rfl) (by kernel_rfl) (by kernel_rfl) (by kernel_rfl) (fun _ _ _ h => h) hHeld ?_ ?_
      rotate_left
      · intro w hSw
        go_simp
        try with_reducible rfl
      try simp only [Act.put, List.setIfInBounds_toArray, List.set_cons_zero, List.set_cons_succ]
      refine take_read (i := 14) (v := ?_) (by simp only [List.getElem?_toArray, List.getElem?_cons_succ, List.getElem?_cons_zero]; rfl) (by kernel_rfl) (by kernel_rfl) (by kernel_rfl) (fun _ _ _ h => h) hHeld ?_ ?_
      rotate_left
      · intro w hSw
        go_simp
        try with_reducible rfl
      try simp only [Act.put, List.setIfInBounds_toArray, List.set_cons_zero, List.set_cons_succ]
      refine take_read (i := 15) (v := ?_) (by simp only [List.getElem?_toArray, List.getElem?_cons_succ, List.getElem?_cons_zero]; rfl) (by kernel_rfl) (by kernel_rfl) (by kernel_rfl) (fun _ _ _ h => h) hHeld ?_ ?_
      rotate_left
      · intro w hSw
        go_simp
        try with_reducible rfl
      try simp only [Act.put, List.setIfInBounds_toArray, List.set_cons_zero, List.set_cons_succ]
      refine take_read (i := 16) (v := ?_) (by simp only [List.getElem?_toArray, List.getElem?_cons_succ, List.getElem?_cons_zero]; rfl) (by kernel_rfl) (by kernel_rfl) (by kernel_rfl) (fun _ _ _ h => h) hHeld ?_ ?_
      rotate_left
      · intro w hSw
        go_simp
        try with_reducible rfl
      try simp only [Act.put, List.setIfInBounds_toArray, List.set_cons_zero, List.set_cons_succ]
      refine wpAnyH_done (by kernel_rfl) ?_ _
      refine NoPanic.normal ?_
      clear hHeld x4
      go_wp2_with fail
      refine (refuse_bad E _).mono ?_
      rintro e WP ⟨rfl, rfl⟩
      exact ⟨rfl, outD_bad S2.out.chg⟩
set_option maxHeartbeats 4000000 in
theorem further_D {w : World} {B : List UInt8} {m : Img} {kd imm : Int} {s : BdS} {bc b : Nat} {W : World} (h : StD w B m kd imm s bc b W) (hw : Env w) (ls : List Seg) (nd im : Nat) :
    Calls Tryz.prog 56 #[.pointer (some ⟨b, 0, none⟩)] W (OutD w B m kd imm bc b W (opD B ls nd kd 8 im s)) := by
  have hnu := number_D h hw
  unfold NumD at hnu
  rw [opD_8]
  unfold numD
  cases hu : uvalV (B.drop s.p) with
  | none =>
    rw [hu] at hnu
    have H := Lib.hid h
    have Hu := Lib.hid hu
    have Hnu := Lib.hid hnu
    clear h hu hnu
    go_enter Tryz.func56, Tryz.ntmps56
    go_wp2_with fail
    refine Hnu.out.mono ?_
    rintro e W1 ⟨rfl, hc⟩
    exact ⟨rfl, outD_bad hc⟩
  | some p =>
    obtain ⟨n, q⟩ := p
    rw [hu] at hnu
    have hn := (uvalV_lt hu).1
    dsimp only
    obtain ⟨R, hR⟩ : ∃ R, R = onD { s with p := s.p + q } n := ⟨_, rfl⟩
    rw [← hR]
    obtain ⟨i, hii⟩ : ∃ i, i = s.is_ := ⟨_, rfl⟩
    rw [← hii]
    have H := Lib.hid h
    have Hu := Lib.hid hu
    have Hnu := Lib.hid hnu
    clear h hu hnu
    cases i with
    | false =>
      rw [if_neg (by decide)]
      have Hii := Lib.hid hii
      have HR := Lib.hid hR
      have Hn := Lib.hid hn
      clear hii hR hn
      go_enter Tryz.func56, Tryz.ntmps56
      go_wp2_with fail
      refine Hnu.out.mono ?_
      rintro e W1 ⟨rfl, hs, hk⟩
      obtain ⟨so, h1, h2⟩ := hs.box
      have x7 : W1.cell? ⟨b, 34, none⟩ = some (.bool false) := by rw [Hii.out]; exact Brd.c_is h1
      have Hk := Lib.hid hk
      have Hs := Lib.hid hs
      have H1 := Lib.hid h1
      have H2 := Lib.hid h2
      clear hk hs h1 h2
      go_wp2_with fail
      refine (refuse_bad 14 _).mono ?_
      rintro e WP ⟨rfl, rfl⟩
      exact ⟨rfl, outD_bad Hs.out.chg⟩
    | true =>
      rw [if_pos rfl]
      have Hii := Lib.hid hii
      have HR := Lib.hid hR
      have Hn := Lib.hid hn
      clear hii hR hn
      go_enter Tryz.func56, Tryz.ntmps56
      go_wp2_with fail
      refine Hnu.out.mono ?_
      rintro e W1 ⟨rfl, hs, hk⟩
      have HSO := Lib.hid (on_D hs hw n Hn.out)
      rw [← HR.out] at HSO
      obtain ⟨so, h1, h2⟩ := hs.box
      have x7 : W1.cell? ⟨b, 34, none⟩ = some (.bool true) := by rw [Hii.out]; exact Brd.c_is h1
      have Hk := Lib.hid hk
      have Hs := Lib.hid hs
      have H1 := Lib.hid h1
      have H2 := Lib.hid h2
      clear hk hs h1 h2
      go_wp2_with fail
      refine (refuse_ok 14 _).mono ?_
      rintro e WP ⟨rfl, rfl⟩
      clear x7
      go_wp2_with fail
      refine (HSO.out).mono ?_
      intro e W8 ho
      cases R with
      | ok s8 =>
        obtain ⟨rfl, hs8, hk8⟩ := ho
        have Hs8 := Lib.hid hs8
        have Hk8 := Lib.hid hk8
        clear hs8 hk8
        go_wp2
        go_end0
        exact outD_ok ⟨Hs8.out, Hk.out.trans Hk8.out⟩
      | bad q8 =>
        obtain ⟨rfl, hc8⟩ := ho
        exact ⟨rfl, outD_bad hc8⟩
/-- What binds lean on. -/
structure SgD (w : World) (m : Img) (ls : List Seg) : Prop where
  b : SegsB ls
  rd : segL.Rd w m.segs.v ls
  own : ∀ k, m.segs.v.ownBlock = some k → k < w.heap.size
theorem one_D {w : World} {B : List UInt8} {m : Img} {kd imm : Int} {s : BdS} {bc b : Nat} {W : World} (h : StD w B m kd imm s bc b W) (hw : Env w) {ls : List Seg} (hs : SgD w m ls) (nd im : Nat) :
    Calls Tryz.prog 57 #[.pointer (some ⟨b, 0, none⟩)] W (OutD w B m kd imm bc b W (opD B ls nd kd 9 im s)) := by
  have hb := binds_D h hw ls hs.b hs.rd hs.own 1 0 (by decide) (by decide)
  rw [opD_9]
  obtain ⟨R, hR⟩ : ∃ R, R = bindsD ls s 1 0 := ⟨_, rfl⟩
  rw [← hR] at hb ⊢
  replace hb : Hid (Calls Tryz.prog 75 #[.pointer (some ⟨b, 0, none⟩), .int .u64 1, .int .u64 0] W (OutD w B m kd imm bc b W R)) := Lib.hid hb
  clear h
  have HR := Lib.hid hR
  clear hR
  go_enter Tryz.func57, Tryz.ntmps57
  go_wp2_with fail
  refine (hb.out).mono ?_
  intro e W8 ho
  cases R with
  | ok s8 =>
    obtain ⟨rfl, hs8⟩ := ho
    have Hs8 := Lib.hid hs8
    clear hs8
    go_wp2
    go_end0
    exact outD_ok Hs8.out
  | bad q8 =>
    obtain ⟨rfl, hc8⟩ := ho
    exact ⟨rfl, outD_bad hc8⟩
theorem oneScaled_D {w : World} {B : List UInt8} {m : Img} {kd : Int} {im : Nat} {s : BdS} {bc b : Nat} {W : World} (h : StD w B m kd (im : Int) s bc b W) (hw : Env w) (hi : im < 16) {ls : List Seg} (hs : SgD w m ls) (nd : Nat) :
    Calls Tryz.prog 59 #[.pointer (some ⟨b, 0, none⟩)] W (OutD w B m kd (im : Int) bc b W (opD B ls nd kd 11 im s)) := by
  have hb := binds_D h hw ls hs.b hs.rd hs.own 1 (8 * im) (by omega) (by decide)
  rw [opD_11]
  obtain ⟨R, hR⟩ : ∃ R, R = bindsD ls s 1 (8 * im) := ⟨_, rfl⟩
  rw [← hR] at hb ⊢
  obtain ⟨so, h1, h2⟩ := h.box
  have x4 : W.cell? ⟨b, 26, none⟩ = some (.int .u8 (im : Int)) := Brd.c_imm h1
  have hwi : IntKind.u64.wrap (im : Int) = (im : Int) := by rw [IntKind.wrap_u64]; omega
  have hwm : IntKind.u64.wrap (8 * (im : Int)) = ((8 * im : Nat) : Int) := by rw [IntKind.wrap_u64]; omega
  replace hb : Hid (Calls Tryz.prog 75 #[.pointer (some ⟨b, 0, none⟩), .int .u64 1, .int .u64 ((8 * im : Nat) : Int)] W (OutD w B m kd (im : Int) bc b W R)) := Lib.hid hb
  clear h h1 h2
  obtain ⟨k8, hk8⟩ : ∃ k8, k8 = 8 * im := ⟨_, rfl⟩
  rw [← hk8] at hb hwm
  have Hk8 := Lib.hid hk8
  have HR := Lib.hid hR
  clear hk8 hR
  go_enter Tryz.func59, Tryz.ntmps59
  go_wp2_with fail
  refine (hb.out).mono ?_
  intro e W8 ho
  cases R with
  | ok s8 =>
    obtain ⟨rfl, hs8⟩ := ho
    have Hs8 := Lib.hid hs8
    clear hs8
    go_wp2
    go_end0
    exact outD_ok Hs8.out
  | bad q8 =>
    obtain ⟨rfl, hc8⟩ := ho
    exact ⟨rfl, outD_bad hc8⟩
theorem oneFar_D {w : World} {B : List UInt8} {m : Img} {kd imm : Int} {s : BdS} {bc b : Nat} {W : World} (h : StD w B m kd imm s bc b W) (hw : Env w) {ls : List Seg} (hs : SgD w m ls) (nd im : Nat) :
    Calls Tryz.prog 58 #[.pointer (some ⟨b, 0, none⟩)] W (OutD w B m kd imm bc b W (opD B ls nd kd 10 im s)) := by
  have hnu := number_D h hw
  unfold NumD at hnu
  rw [opD_10]
  unfold numD
  cases hu : uvalV (B.drop s.p) with
  | none =>
    rw [hu] at hnu
    have H := Lib.hid h
    have Hu := Lib.hid hu
    have Hnu := Lib.hid hnu
    clear h hu hnu
    go_enter Tryz.func58, Tryz.ntmps58
    go_wp2_with fail
    refine Hnu.out.mono ?_
    rintro e W1 ⟨rfl, hc⟩
    exact ⟨rfl, outD_bad hc⟩
  | some p =>
    obtain ⟨n, q⟩ := p
    rw [hu] at hnu
    have hn := (uvalV_lt hu).1
    dsimp only
    obtain ⟨R, hR⟩ : ∃ R, R = bindsD ls { s with p := s.p + q } 1 n := ⟨_, rfl⟩
    rw [← hR]
    have H := Lib.hid h
    have Hu := Lib.hid hu
    have Hnu := Lib.hid hnu
    clear h hu hnu
    go_enter Tryz.func58, Tryz.ntmps58
    go_wp2_with fail
    refine Hnu.out.mono ?_
    rintro e W1 ⟨rfl, hst, hk⟩
    have hb := binds_D hst hw ls hs.b hs.rd hs.own 1 n hn (by decide)
    rw [← hR] at hb
    replace hb : Hid (Calls Tryz.prog 75 #[.pointer (some ⟨b, 0, none⟩), .int .u64 1, .int .u64 (n : Int)] W1 (OutD w B m kd imm bc b W1 R)) := Lib.hid hb
    have Hk := Lib.hid hk
    have Hst := Lib.hid hst
    have Hn := Lib.hid hn
    have HR := Lib.hid hR
    clear hk hst hn hR
    go_wp2_with fail
    refine (hb.out).mono ?_
    intro e W8 ho
    cases R with
    | ok s8 =>
      obtain ⟨rfl, hs8, hk8⟩ := ho
      have Hs8 := Lib.hid hs8
      have Hk8 := Lib.hid hk8
      clear hs8 hk8
      go_wp2
      go_end0
      exact outD_ok ⟨Hs8.out, Hk.out.trans Hk8.out⟩
    | bad q8 =>
      obtain ⟨rfl, hc8⟩ := ho
      exact ⟨rfl, outD_bad hc8⟩
theorem many_D {w : World} {B : List UInt8} {m : Img} {kd imm : Int} {s : BdS} {bc b : Nat} {W : World} (h : StD w B m kd imm s bc b W) (hw : Env w) {ls : List Seg} (hs : SgD w m ls) (nd im : Nat) :
    Calls Tryz.prog 60 #[.pointer (some ⟨b, 0, none⟩)] W (OutD w B m kd imm bc b W (opD B ls nd kd 12 im s)) := by
  have hnu := number_D h hw
  unfold NumD at hnu
  rw [opD_12]
  unfold numD
  cases hu : uvalV (B.drop s.p) with
  | none =>
    rw [hu] at hnu
    have H := Lib.hid h
    have Hu := Lib.hid hu
    have Hnu := Lib.hid hnu
    clear h hu hnu
    go_enter Tryz.func60, Tryz.ntmps60
    go_wp2_with fail
    refine Hnu.out.mono ?_
    rintro e W1 ⟨rfl, hc⟩
    exact ⟨rfl, outD_bad hc⟩
  | some p =>
    obtain ⟨n, q⟩ := p
    rw [hu] at hnu
    have hn := (uvalV_lt hu).1
    dsimp only
    obtain ⟨s1, hs1⟩ : ∃ s1, s1 = { s with p := s.p + q } := ⟨_, rfl⟩
    dsimp only at hnu
    rw [← hs1] at hnu
    have e1 : ({ s with p := s.p + q } : BdS) = s1 := hs1.symm
    cases hu2 : uvalV (B.drop (s.p + q)) with
    | none =>
      dsimp only
      have H := Lib.hid h
      have Hu := Lib.hid hu
      have Hnu := Lib.hid hnu
      clear h hu hnu
      go_enter Tryz.func60, Tryz.ntmps60
      go_wp2_with fail
      refine Hnu.out.mono ?_
      rintro e W1 ⟨rfl, hst, hk⟩
      have hnv := number_D hst hw
      unfold NumD at hnv
      rw [show s1.p = s.p + q by rw [hs1], hu2] at hnv
      have Hst := Lib.hid hst
      have Hk := Lib.hid hk
      have Hn := Lib.hid hn
      have Hs1 := Lib.hid hs1
      have E1 := Lib.hid e1
      have Hu2 := Lib.hid hu2
      have Hnv := Lib.hid hnv
      clear hst hk hn hs1 e1 hu2 hnv
      go_wp2_with fail
      refine Hnv.out.mono ?_
      rintro e W2 ⟨rfl, hc⟩
      exact ⟨rfl, outD_bad hc⟩
    | some p2 =>
      obtain ⟨n2, q2⟩ := p2
      have hn2 := (uvalV_lt hu2).1
      dsimp only
      obtain ⟨R, hR⟩ : ∃ R, R = bindsD ls { s with p := s.p + q + q2 } n n2 := ⟨_, rfl⟩
      rw [← hR]
      have H := Lib.hid h
      have Hu := Lib.hid hu
      have Hnu := Lib.hid hnu
      clear h hu hnu
      go_enter Tryz.func60, Tryz.ntmps60
      go_wp2_with fail
      refine Hnu.out.mono ?_
      rintro e W1 ⟨rfl, hst, hk⟩
      have hnv := number_D hst hw
      unfold NumD at hnv
      rw [show s1.p = s.p + q by rw [hs1], hu2] at hnv
      dsimp only at hnv
      have e2 : ({ s1 with p := s.p + q + q2 } : BdS) = { s with p := s.p + q + q2 } := by rw [hs1]
      rw [e2] at hnv
      have Hst := Lib.hid hst
      have Hk := Lib.hid hk
      have Hs1 := Lib.hid hs1
      have E1 := Lib.hid e1
      have Hu2 := Lib.hid hu2
      have Hnv := Lib.hid hnv
      have E2 := Lib.hid e2
      clear hst hk hs1 e1 hu2 hnv e2
      go_wp2_with fail
      refine Hnv.out.mono ?_
      rintro e W2 ⟨rfl, hst2, hk2⟩
      have hb := binds_D hst2 hw ls hs.b hs.rd hs.own n n2 hn2 hn
      rw [← hR] at hb
      replace hb : Hid (Calls Tryz.prog 75 #[.pointer (some ⟨b, 0, none⟩), .int .u64 (n : Int), .int .u64 (n2 : Int)] W2 (OutD w B m kd imm bc b W2 R)) := Lib.hid hb
      have hkk := Hk.out.trans hk2
      clear Hk hk2
      have Hk := Lib.hid hkk
      have Hst2 := Lib.hid hst2
      have Hn := Lib.hid hn
      have Hn2 := Lib.hid hn2
      have HR := Lib.hid hR
      clear hkk hst2 hn hn2 hR
      go_wp2_with fail
      refine (hb.out).mono ?_
      intro e W8 ho
      cases R with
      | ok s8 =>
        obtain ⟨rfl, hs8, hk8⟩ := ho
        have Hs8 := Lib.hid hs8
        have Hk8 := Lib.hid hk8
        clear hs8 hk8
        go_wp2
        go_end0
        exact outD_ok ⟨Hs8.out, Hk.out.trans Hk8.out⟩
      | bad q8 =>
        obtain ⟨rfl, hc8⟩ := ho
        exact ⟨rfl, outD_bad hc8⟩
end Go.Proofs.YtkomocgodljecaaGreatDoor
