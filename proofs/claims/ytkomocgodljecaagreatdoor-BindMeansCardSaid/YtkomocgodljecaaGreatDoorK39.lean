/- Lemmas, laid together: part 39 of 41. Conditions: none but each lemma's own. -/
import Derived.Test.YtkomocgodljecaaGreatDoorK30
import Derived.Test.YtkomocgodljecaaGreatDoorK36
import Derived.Deep.DeepCutAuto
/- bind.Make, of the chapter's bind. -/
namespace Go.Proofs.YtkomocgodljecaaGreatDoor
open Go.RowKit
set_option maxRecDepth 100000

theorem Row_shape {w0 w : World} {base : Nat} {v : Value} {l : List UInt8} (h : Row w0 base v l w) : ∃ so : SlV, v = so.v := by
  obtain ⟨a, c, he, _⟩ := h.bb.rd.shape
  exact ⟨⟨a, l.length, c⟩, he⟩
theorem put0 (w : World) : Calls Tryz.prog 16 #[.int .u64 0] w fun e w' => ∃ gp cp, e = .returned (.slice (some ⟨gp, 0, none⟩) 1 cp) ∧ (∀ w0 base v l, Row w0 base v l w → Bit gp cp 0 v w') ∧ Chg [] w w' := by
  refine (Put_any 0 w (by decide)).mono ?_
  rintro e w' ⟨v, rfl, ho, hc⟩
  have ho' : BB w' w.heap.size v [0] := ho
  obtain ⟨g, cap, rfl, hg, hg2, _⟩ := ho'.at (by decide)
  refine ⟨g, cap, rfl, fun w0 base v' l hr => ⟨ho'.rd, hg2, fun e => ?_⟩, hc⟩
  have := (hr.bb.lt _ e).2
  omega
set_option linter.unusedSimpArgs false in
set_option maxHeartbeats 8000000 in
theorem Make_d (m : Img) (sb : Nat) (hm : m.segs = ⟨some ⟨sb, 0, none⟩, 2, 2⟩) (hdp : m.deps.n = 1) (v : Value) (w : World) (rd : segL.Rd w m.segs.v tw4) (hl : FxRd w v d14l) :
    Calls Tryz.prog 7 #[imgL.val m, .int .i64 1, v] w fun e w' => ∃ so : SlV, e = .returned (.tuple #[so.v, .int .i64 0]) ∧ BB w' w.heap.size so.v dB ∧ Chg [] w w' := by
  have HSE := Lib.hid (fun w rd => FSet_any d14l v w rd (by decide))
  rw [d14_set] at HSE
  have HMY := Lib.hid (fun g cap w rd hl => may_d m 1 hdp rfl g cap w rd hl)
  have HA0 := Lib.hid (fun w rd => At_img m tw4 tw4B (4096 : Int) (by decide) w rd)
  rw [show atS tw4 4096 = some 1 from tw4_at 4096 (by decide) (by decide)] at HA0
  rw [show idxI (some 1) = (1 : Int) from rfl] at HA0
  have hs : w.cell? ⟨sb, 8, none⟩ = some (.int .u64 4096) := by
    rw [hm] at rd
    exact rd.cells.2 8 _ rfl
  have HRD := Lib.hid rd
  have Hl := Lib.hid hl
  have Hm := Lib.hid hm
  have Hs := Lib.hid hs
  clear rd hl hm hs
  go_enter Tryz.func7, Tryz.ntmps7
  go_wp2_with ((with_reducible refine Lay.bxL (L := imgL) 30 m ?_ ?_); exact rfl; intro W1 bi ebi cbi xbi; replace ebi := Lib.hid ebi; replace cbi := Lib.hid cbi; replace xbi := Lib.hid xbi; refine Hid.out ?_)
  refine Lib.hid ?_
  go_wp2_with fail
  refine (HSE.out _ (Hl.out.frame cbi.out)).mono ?_
  rintro e W2 ⟨v2, rfl, hb, hc⟩
  have FB2 := Lib.hid (fb_of hb)
  obtain ⟨g, cap, rfl, hg0, hg1, hcp, hcm, hown, hfz, hIn⟩ := FB2.out.at (by decide)
  rw [show d14l.length = 1 from rfl] at FB2 ⊢
  have hI : fxl.In W2 g 0 fD3 := by
    have := hIn 0 (by decide)
    rwa [Nat.zero_mul] at this
  have C2 : Hid (Chg [] w W2) := Lib.hid (cbi.out.then hc)
  have BI2 := Lib.hid (xbi.out.frame hc)
  have HI := Lib.hid hI
  clear hI
  clear hb hc hfz hIn hcp hown
  go_wp2_with ((with_reducible refine Lay.ldL Tryz.tImg m (BI2.out.in) ?_ ?_); exact rfl; refine Hid.out ?_)
  refine Lib.hid ?_
  go_wp2_with fail
  refine (HMY.out g cap _ (HRD.out.frame C2.out) (fx_ofL FB2.out.rd)).mono ?_
  rintro e W3 ⟨rfl, h3⟩
  have C3 : Hid (Chg [] W2 W3) := Lib.hid (h3)
  clear h3
  go_wp2_with ((with_reducible refine Lay.alL Tryz.tFx ?_); intro W4 bn ebn cbn xbn; replace ebn := Lib.hid ebn; replace cbn := Lib.hid cbn; replace xbn := Lib.hid xbn; refine Hid.out ?_)
  refine Lib.hid ?_
  go_wp2_with ((with_reducible refine Lay.stL Tryz.tFx fB0 (xbn.out) ?_ ?_ ?_); exact rfl; exact rfl; intro W5 cW5 xW5; replace cW5 := Lib.hid cW5; replace xW5 := Lib.hid xW5; refine Hid.out ?_)
  refine Lib.hid ?_
  have C5 : Hid (Chg [] W2 W5) := Lib.hid (C3.out.then (cbn.out.new cW5.out (by rw [ebn.out]; exact Nat.le_refl _)))
  have N5 := Lib.hid (xW5.out)
  have hbnW : W2.heap.size ≤ bn := by rw [ebn.out]; exact C3.out.size
  have HbnW := Lib.hid hbnW
  clear hbnW
  clear ebn cbn xbn cW5 xW5
  go_wp2_with fail
  refine wp_loop_rounds 2 ?_
  rw [rounds_succ]
  go_wp2_with ((with_reducible refine Lay.ldL Tryz.tFx fD3 ((HI.out.frame C5.out)) ?_ ?_); exact rfl; refine Hid.out ?_)
  refine Lib.hid ?_
  go_wp2_with ((with_reducible refine Lay.alL Tryz.tFx ?_); intro W6 bf ebf cbf xbf; replace ebf := Lib.hid ebf; replace cbf := Lib.hid cbf; replace xbf := Lib.hid xbf; refine Hid.out ?_)
  refine Lib.hid ?_
  go_wp2_with ((with_reducible refine Lay.stL Tryz.tFx fD3 (xbf.out) ?_ ?_ ?_); exact rfl; exact rfl; intro W7 cW7 xW7; replace cW7 := Lib.hid cW7; replace xW7 := Lib.hid xW7; refine Hid.out ?_)
  refine Lib.hid ?_
  have F7 := Lib.hid (xW7.out)
  have N7 : Hid (fxl.Box W7 bn fB0) := Lib.hid (N5.out.frameS (cbf.out.new cW7.out (by rw [ebf.out]; exact Nat.le_refl _)) (by simp))
  have C7 : Hid (Chg [] W2 W7) := Lib.hid (C5.out.then (cbf.out.new cW7.out (by rw [ebf.out]; exact Nat.le_refl _)))
  clear ebf cbf xbf cW7 xW7 N5 C5 C3
  have cF : ∀ W, Chg [] W7 W → ∀ j, j < 7 → W.cell? ⟨bf, j, none⟩ = (fxl.f fD3)[j]? := fun W k j hj => by
    have := (F7.out.frame k).in j hj
    rwa [Nat.zero_add] at this
  have cN : ∀ W, Chg [] W7 W → ∀ j, j < 7 → W.cell? ⟨bn, j, none⟩ = (fxl.f fB0)[j]? := fun W k j hj => by
    have := (N7.out.frame k).in j hj
    rwa [Nat.zero_add] at this
  have CF := Lib.hid cF
  have CN := Lib.hid cN
  clear cF cN
  have a3 : W7.cell? ⟨bf, 3, none⟩ = some (.int .i64 1) := CF.out W7 (Chg.refl _ _) 3 (by decide)
  have b3 : W7.cell? ⟨bn, 3, none⟩ = some (.int .i64 0) := CN.out W7 (Chg.refl _ _) 3 (by decide)
  have hor1 : bits .or .u8 16 1 = 17 := by decide
  have hw1 : IntKind.u8.wrap 1 = 1 := by decide
  have Q17 : Hid ([Value.int .u8 17] = byteL.vals [17]) := Lib.hid (rfl)
  go_wp2_with (at_builtin; refine Lay.app (L := byteL) Tryz.infoByte rfl _ _ rfl W7.heap.size (.slice none 0 0) [] rfl (Lay.Buf.nil _ _) _ rfl [17] (Lay.Rd.of_heap (heap_alloc_eq _ _) Q17.out rfl (show 1 ≤ maxLen by decide)) (by decide) (by decide) (by simp) ?_; intro v8 W8 hov hgv hlc; refine Hid.out ?_)
  refine Lib.hid ?_
  have R8 : Hid (Row W7 W7.heap.size v8 [17] W8) := Lib.hid (⟨hov, Nat.le_trans (by simp) (Lay.chg_grown hgv).size, Nat.le_refl _, ((Chg.refl [] W7).alloc _).trans (Lay.chg_grown hgv) (fun i hi _ => hi)⟩)
  clear hov hgv hlc a3 b3
  have a4 : W8.cell? ⟨bf, 4, none⟩ = some (.string ⟨#[95, 97]⟩) := CF.out W8 R8.out.cg 4 (by decide)
  have b4 : W8.cell? ⟨bn, 4, none⟩ = some (.string ⟨#[]⟩) := CN.out W8 R8.out.cg 4 (by decide)
  have a6 : W8.cell? ⟨bf, 6, none⟩ = some (.bool false) := CF.out W8 R8.out.cg 6 (by decide)
  obtain ⟨s8, rfl⟩ := Row_shape R8.out
  go_upto_region 24 with fail
  go_cut [11] (fun s11 wx => ∃ so : SlV, s11 = so.v ∧ Row W7 W7.heap.size so.v [17, 64, 95, 97, 0] wx)
  case first =>
    have RC : Row W7 W7.heap.size s8.v [17] W8.drew := R8.out.pure ((Chg.refl [] W8).drew)
    have a4' : W7.cell? ⟨bf, 4, none⟩ = some (.string ⟨#[95, 97]⟩) := CF.out W7 (Chg.refl _ _) 4 (by decide)
    clear a4 b4 a6
    refine wp_region_noPanic ?_
    refine wp_region_held_drew (S := fun w' => Chg [] W7 w') (by kernel_rfl) RC.cg (fun hHeld => ?_)
    refine take_read (i := 0) (v := ?_) (by simp only [List.getElem?_toArray, List.getElem?_cons_zero]; rfl) (by kernel_rfl) (by kernel_rfl) (by kernel_rfl) (fun _ _ _ h => h) hHeld ?_ ?_
    rotate_left
    · intro w hSw
      go_simp
      try with_reducible rfl
    try simp only [Act.put, List.setIfInBounds_toArray, List.set_cons_zero, List.set_cons_succ]
    refine take_read (i := 1) (v := ?_) (by simp only [List.getElem?_toArray, List.getElem?_cons_succ, List.getElem?_cons_zero]; rfl) (by kernel_rfl) (by kernel_rfl) (by kernel_rfl) (fun _ _ _ h => h) hHeld ?_ ?_
    rotate_left
    · intro w hSw
      go_simp
      try with_reducible rfl
    try simp only [Act.put, List.setIfInBounds_toArray, List.set_cons_zero, List.set_cons_succ]
    refine take_read (i := 4) (v := ?_) (by simp only [List.getElem?_toArray, List.getElem?_cons_succ, List.getElem?_cons_zero]; rfl) (by kernel_rfl) (by kernel_rfl) (by kernel_rfl) (fun _ _ _ h => h) hHeld ?_ ?_
    rotate_left
    · intro w hSw
      go_simp
      try with_reducible rfl
    try simp only [Act.put, List.setIfInBounds_toArray, List.set_cons_zero, List.set_cons_succ]
    refine take_read (i := 5) (v := ?_) (by simp only [List.getElem?_toArray, List.getElem?_cons_succ, List.getElem?_cons_zero]; rfl) (by kernel_rfl) (by kernel_rfl) (by kernel_rfl) (fun _ _ _ h => h) hHeld ?_ ?_
    rotate_left
    · intro w hSw
      have a4' := hSw.cell a4' (by simp)
      go_simp
      try with_reducible rfl
    try simp only [Act.put, List.setIfInBounds_toArray, List.set_cons_zero, List.set_cons_succ]
    refine wpAnyH_ready (rs := [2, 7]) (by kernel_rfl) (by simp) ?_
    refine AllReadyH.cons rfl (fun K hK => ?_) (AllReadyH.cons rfl (fun K hK => ?_) AllReadyH.nil)
    · refine armBit rfl _ rfl 64 64 rfl rfl RC (fun w2 g2 hr2 hd2 hc2 => ?_)
      try replace hd7 := hd7.pure hc2
      clear RC
      have RC := hr2
      refine hK.out _ _ hr2.cg (fun hHeld2 => ?_)
      clear hK hHeld K
      have hHeld := hHeld2
      clear hHeld2
      try (unfold Act.put; simp only [List.setIfInBounds_toArray, List.set_cons_zero, List.set_cons_succ])
      refine wpAnyH_ready (rs := [3, 7]) (by kernel_rfl) (by simp) ?_
      refine AllReadyH.cons rfl (fun K hK => ?_) (AllReadyH.cons rfl (fun K hK => ?_) AllReadyH.nil)
      · refine armAppB rfl _ _ rfl rfl RC hd2 rfl (by decide) (fun v3 w3 hr3 hb3 => ?_)
        try replace hd7 := hb3 _ _ _ hd7
        clear RC hd2
        have RC := hr3
        refine hK.out _ _ hr3.cg (fun hHeld2 => ?_)
        clear hK hHeld K
        have hHeld := hHeld2
        clear hHeld2
        try (unfold Act.put; simp only [List.setIfInBounds_toArray, List.set_cons_zero, List.set_cons_succ])
        refine wpAnyH_ready (rs := [6, 7]) (by kernel_rfl) (by simp) ?_
        refine AllReadyH.cons rfl (fun K hK => ?_) (AllReadyH.cons rfl (fun K hK => ?_) AllReadyH.nil)
        · refine armAppS rfl _ _ rfl rfl RC ⟨#[95, 97]⟩ rfl (by decide) (by decide) (fun v6 w6 hr6 hb6 => ?_)
          try replace hd7 := hb6 _ _ _ hd7
          clear RC
          have RC := hr6
          refine hK.out _ _ hr6.cg (fun hHeld2 => ?_)
          clear hK hHeld K
          have hHeld := hHeld2
          clear hHeld2
          try (unfold Act.put; simp only [List.setIfInBounds_toArray, List.set_cons_zero, List.set_cons_succ])
          refine wpAnyH_ready (rs := [7]) (by kernel_rfl) (by simp) ?_
          refine AllReadyH.cons (by simp only [List.getElem?_toArray, List.getElem?_cons_succ, List.getElem?_cons_zero]; rfl) (fun K hK => ?_) AllReadyH.nil
          refine armBit rfl _ rfl 0 0 rfl rfl RC (fun w7 g7 hr7 hd7 hc7 => ?_)
          try replace hd2 := hd2.pure hc7
          clear RC
          have RC := hr7
          refine hK.out _ _ hr7.cg (fun hHeld2 => ?_)
          clear hK hHeld K
          have hHeld := hHeld2
          clear hHeld2
          try (unfold Act.put; simp only [List.setIfInBounds_toArray, List.set_cons_zero, List.set_cons_succ])
          refine wpAnyH_ready (rs := [8]) (by kernel_rfl) (by simp) ?_
          refine AllReadyH.cons (by simp only [List.getElem?_toArray, List.getElem?_cons_succ, List.getElem?_cons_zero]; rfl) (fun K hK => ?_) AllReadyH.nil
          refine armAppB rfl _ _ rfl rfl RC hd7 rfl (by decide) (fun v8 w8 hr8 hb8 => ?_)
          obtain ⟨s9, rfl⟩ := Row_shape hr8
          refine hK.out _ _ hr8.cg (fun hHeld2 => ?_)
          clear hK hHeld K
          have hHeld := hHeld2
          clear hHeld2
          try (unfold Act.put; simp only [List.setIfInBounds_toArray, List.set_cons_zero, List.set_cons_succ])
          refine take_read (i := 9) (v := ?_) (by simp only [List.getElem?_toArray, List.getElem?_cons_succ, List.getElem?_cons_zero]; rfl) (by kernel_rfl) (by kernel_rfl) (by kernel_rfl) (fun _ _ _ h => h) hHeld ?_ ?_
          rotate_left
          · intro w hSw
            go_simp
            try with_reducible rfl
          try simp only [Act.put, List.setIfInBounds_toArray, List.set_cons_zero, List.set_cons_succ]
          refine wpAnyH_done (by kernel_rfl) ?_ _
          refine NoPanic.normal ?_
          go_wp2_with fail
          go_meet
          exact ⟨s9, rfl, hr8⟩
        · refine armBit rfl _ rfl 0 0 rfl rfl RC (fun w7 g7 hr7 hd7 hc7 => ?_)
          try replace hd2 := hd2.pure hc7
          clear RC
          have RC := hr7
          refine hK.out _ _ hr7.cg (fun hHeld2 => ?_)
          clear hK hHeld K
          have hHeld := hHeld2
          clear hHeld2
          try (unfold Act.put; simp only [List.setIfInBounds_toArray, List.set_cons_zero, List.set_cons_succ])
          refine wpAnyH_ready (rs := [6]) (by kernel_rfl) (by simp) ?_
          refine AllReadyH.cons (by simp only [List.getElem?_toArray, List.getElem?_cons_succ, List.getElem?_cons_zero]; rfl) (fun K hK => ?_) AllReadyH.nil
          refine armAppS rfl _ _ rfl rfl RC ⟨#[95, 97]⟩ rfl (by decide) (by decide) (fun v6 w6 hr6 hb6 => ?_)
          try replace hd7 := hb6 _ _ _ hd7
          clear RC
          have RC := hr6
          refine hK.out _ _ hr6.cg (fun hHeld2 => ?_)
          clear hK hHeld K
          have hHeld := hHeld2
          clear hHeld2
          try (unfold Act.put; simp only [List.setIfInBounds_toArray, List.set_cons_zero, List.set_cons_succ])
          refine wpAnyH_ready (rs := [8]) (by kernel_rfl) (by simp) ?_
          refine AllReadyH.cons (by simp only [List.getElem?_toArray, List.getElem?_cons_succ, List.getElem?_cons_zero]; rfl) (fun K hK => ?_) AllReadyH.nil
          refine armAppB rfl _ _ rfl rfl RC hd7 rfl (by decide) (fun v8 w8 hr8 hb8 => ?_)
          obtain ⟨s9, rfl⟩ := Row_shape hr8
          refine hK.out _ _ hr8.cg (fun hHeld2 => ?_)
          clear hK hHeld K
          have hHeld := hHeld2
          clear hHeld2
          try (unfold Act.put; simp only [List.setIfInBounds_toArray, List.set_cons_zero, List.set_cons_succ])
          refine take_read (i := 9) (v := ?_) (by simp only [List.getElem?_toArray, List.getElem?_cons_succ, List.getElem?_cons_zero]; rfl) (by kernel_rfl) (by kernel_rfl) (by kernel_rfl) (fun _ _ _ h => h) hHeld ?_ ?_
          rotate_left
          · intro w hSw
            go_simp
            try with_reducible rfl
          try simp only [Act.put, List.setIfInBounds_toArray, List.set_cons_zero, List.set_cons_succ]
          refine wpAnyH_done (by kernel_rfl) ?_ _
          refine NoPanic.normal ?_
          go_wp2_with fail
          go_meet
          exact ⟨s9, rfl, hr8⟩
      · refine armBit rfl _ rfl 0 0 rfl rfl RC (fun w7 g7 hr7 hd7 hc7 => ?_)
        try replace hd2 := hd2.pure hc7
        clear RC
        have RC := hr7
        refine hK.out _ _ hr7.cg (fun hHeld2 => ?_)
        clear hK hHeld K
        have hHeld := hHeld2
        clear hHeld2
        try (unfold Act.put; simp only [List.setIfInBounds_toArray, List.set_cons_zero, List.set_cons_succ])
        refine wpAnyH_ready (rs := [3]) (by kernel_rfl) (by simp) ?_
        refine AllReadyH.cons (by simp only [List.getElem?_toArray, List.getElem?_cons_succ, List.getElem?_cons_zero]; rfl) (fun K hK => ?_) AllReadyH.nil
        refine armAppB rfl _ _ rfl rfl RC hd2 rfl (by decide) (fun v3 w3 hr3 hb3 => ?_)
        try replace hd7 := hb3 _ _ _ hd7
        clear RC hd2
        have RC := hr3
        refine hK.out _ _ hr3.cg (fun hHeld2 => ?_)
        clear hK hHeld K
        have hHeld := hHeld2
        clear hHeld2
        try (unfold Act.put; simp only [List.setIfInBounds_toArray, List.set_cons_zero, List.set_cons_succ])
        refine wpAnyH_ready (rs := [6]) (by kernel_rfl) (by simp) ?_
        refine AllReadyH.cons (by simp only [List.getElem?_toArray, List.getElem?_cons_succ, List.getElem?_cons_zero]; rfl) (fun K hK => ?_) AllReadyH.nil
        refine armAppS rfl _ _ rfl rfl RC ⟨#[95, 97]⟩ rfl (by decide) (by decide) (fun v6 w6 hr6 hb6 => ?_)
        try replace hd7 := hb6 _ _ _ hd7
        clear RC
        have RC := hr6
        refine hK.out _ _ hr6.cg (fun hHeld2 => ?_)
        clear hK hHeld K
        have hHeld := hHeld2
        clear hHeld2
        try (unfold Act.put; simp only [List.setIfInBounds_toArray, List.set_cons_zero, List.set_cons_succ])
        refine wpAnyH_ready (rs := [8]) (by kernel_rfl) (by simp) ?_
        refine AllReadyH.cons (by simp only [List.getElem?_toArray, List.getElem?_cons_succ, List.getElem?_cons_zero]; rfl) (fun K hK => ?_) AllReadyH.nil
        refine armAppB rfl _ _ rfl rfl RC hd7 rfl (by decide) (fun v8 w8 hr8 hb8 => ?_)
        obtain ⟨s9, rfl⟩ := Row_shape hr8
        refine hK.out _ _ hr8.cg (fun hHeld2 => ?_)
        clear hK hHeld K
        have hHeld := hHeld2
        clear hHeld2
        try (unfold Act.put; simp only [List.setIfInBounds_toArray, List.set_cons_zero, List.set_cons_succ])
        refine take_read (i := 9) (v := ?_) (by simp only [List.getElem?_toArray, List.getElem?_cons_succ, List.getElem?_cons_zero]; rfl) (by kernel_rfl) (by kernel_rfl) (by kernel_rfl) (fun _ _ _ h => h) hHeld ?_ ?_
        rotate_left
        · intro w hSw
          go_simp
          try with_reducible rfl
        try simp only [Act.put, List.setIfInBounds_toArray, List.set_cons_zero, List.set_cons_succ]
        refine wpAnyH_done (by kernel_rfl) ?_ _
        refine NoPanic.normal ?_
        go_wp2_with fail
        go_meet
        exact ⟨s9, rfl, hr8⟩
    · refine armBit rfl _ rfl 0 0 rfl rfl RC (fun w7 g7 hr7 hd7 hc7 => ?_)
      try replace hd2 := hd2.pure hc7
      clear RC
      have RC := hr7
      refine hK.out _ _ hr7.cg (fun hHeld2 => ?_)
      clear hK hHeld K
      have hHeld := hHeld2
      clear hHeld2
      try (unfold Act.put; simp only [List.setIfInBounds_toArray, List.set_cons_zero, List.set_cons_succ])
      refine wpAnyH_ready (rs := [2]) (by kernel_rfl) (by simp) ?_
      refine AllReadyH.cons (by simp only [List.getElem?_toArray, List.getElem?_cons_succ, List.getElem?_cons_zero]; rfl) (fun K hK => ?_) AllReadyH.nil
      refine armBit rfl _ rfl 64 64 rfl rfl RC (fun w2 g2 hr2 hd2 hc2 => ?_)
      try replace hd7 := hd7.pure hc2
      clear RC
      have RC := hr2
      refine hK.out _ _ hr2.cg (fun hHeld2 => ?_)
      clear hK hHeld K
      have hHeld := hHeld2
      clear hHeld2
      try (unfold Act.put; simp only [List.setIfInBounds_toArray, List.set_cons_zero, List.set_cons_succ])
      refine wpAnyH_ready (rs := [3]) (by kernel_rfl) (by simp) ?_
      refine AllReadyH.cons (by simp only [List.getElem?_toArray, List.getElem?_cons_succ, List.getElem?_cons_zero]; rfl) (fun K hK => ?_) AllReadyH.nil
      refine armAppB rfl _ _ rfl rfl RC hd2 rfl (by decide) (fun v3 w3 hr3 hb3 => ?_)
      try replace hd7 := hb3 _ _ _ hd7
      clear RC hd2
      have RC := hr3
      refine hK.out _ _ hr3.cg (fun hHeld2 => ?_)
      clear hK hHeld K
      have hHeld := hHeld2
      clear hHeld2
      try (unfold Act.put; simp only [List.setIfInBounds_toArray, List.set_cons_zero, List.set_cons_succ])
      refine wpAnyH_ready (rs := [6]) (by kernel_rfl) (by simp) ?_
      refine AllReadyH.cons (by simp only [List.getElem?_toArray, List.getElem?_cons_succ, List.getElem?_cons_zero]; rfl) (fun K hK => ?_) AllReadyH.nil
      refine armAppS rfl _ _ rfl rfl RC ⟨#[95, 97]⟩ rfl (by decide) (by decide) (fun v6 w6 hr6 hb6 => ?_)
      try replace hd7 := hb6 _ _ _ hd7
      clear RC
      have RC := hr6
      refine hK.out _ _ hr6.cg (fun hHeld2 => ?_)
      clear hK hHeld K
      have hHeld := hHeld2
      clear hHeld2
      try (unfold Act.put; simp only [List.setIfInBounds_toArray, List.set_cons_zero, List.set_cons_succ])
      refine wpAnyH_ready (rs := [8]) (by kernel_rfl) (by simp) ?_
      refine AllReadyH.cons (by simp only [List.getElem?_toArray, List.getElem?_cons_succ, List.getElem?_cons_zero]; rfl) (fun K hK => ?_) AllReadyH.nil
      refine armAppB rfl _ _ rfl rfl RC hd7 rfl (by decide) (fun v8 w8 hr8 hb8 => ?_)
      obtain ⟨s9, rfl⟩ := Row_shape hr8
      refine hK.out _ _ hr8.cg (fun hHeld2 => ?_)
      clear hK hHeld K
      have hHeld := hHeld2
      clear hHeld2
      try (unfold Act.put; simp only [List.setIfInBounds_toArray, List.set_cons_zero, List.set_cons_succ])
      refine take_read (i := 9) (v := ?_) (by simp only [List.getElem?_toArray, List.getElem?_cons_succ, List.getElem?_cons_zero]; rfl) (by kernel_rfl) (by kernel_rfl) (by kernel_rfl) (fun _ _ _ h => h) hHeld ?_ ?_
      rotate_left
      · intro w hSw
        go_simp
        try with_reducible rfl
      try simp only [Act.put, List.setIfInBounds_toArray, List.set_cons_zero, List.set_cons_succ]
      refine wpAnyH_done (by kernel_rfl) ?_ _
      refine NoPanic.normal ?_
      go_wp2_with fail
      go_meet
      exact ⟨s9, rfl, hr8⟩
  case rest =>
    obtain ⟨s9, rfl, hr9⟩ := hcut
    have R9 := Lib.hid hr9
    clear hr9
    clear a4 b4 a6 R8
    have a5 : wc.cell? ⟨bf, 5, none⟩ = some (.int .i64 0) := CF.out wc R9.out.cg 5 (by decide)
    have b5 : wc.cell? ⟨bn, 5, none⟩ = some (.int .i64 0) := CN.out wc R9.out.cg 5 (by decide)
    have a0 : wc.cell? ⟨bf, 0, none⟩ = some (.int .u64 4096) := CF.out wc R9.out.cg 0 (by decide)
    have IC := Lib.hid (BI2.out.frame (C7.out.then R9.out.cg))
    go_wp2_with ((with_reducible refine Lay.ldL Tryz.tImg m (IC.out.in) ?_ ?_); exact rfl; refine Hid.out ?_)
    refine Lib.hid ?_
    go_wp2_with fail
    refine (HA0.out _ (HRD.out.frame (C2.out.then (C7.out.then R9.out.cg)))).mono ?_
    rintro e WB ⟨rfl, hcB⟩
    have RB := Lib.hid (R9.out.pure hcB)
    clear hcB a5 b5 a0 IC R9
    have hor2 : bits .or .u8 112 1 = 113 := by decide
    have hw0 : IntKind.u64.wrap 0 = 0 := by decide
    have a0 : W7.cell? ⟨bf, 0, none⟩ = some (.int .u64 4096) := CF.out W7 (Chg.refl _ _) 0 (by decide)
    have x4 := Img.c_segs (BI2.out.frame C7.out)
    rw [Hm.out] at x4
    have s8' := (C2.out.then C7.out).cell Hs.out (by simp)
    have HPU := Lib.hid (put0)
    go_upto_region 29 with fail
    go_cut [11] (fun s11 wx => ∃ so : SlV, s11 = so.v ∧ Row W7 W7.heap.size so.v [17, 64, 95, 97, 0, 113, 0] wx)
    case first =>
      have RC : Row W7 W7.heap.size s9.v [17, 64, 95, 97, 0] WB.drew := RB.out.pure ((Chg.refl [] WB).drew)
      refine wp_region_noPanic ?_
      refine wp_region_held_drew (S := fun w' => Chg [] W7 w') (by kernel_rfl) RC.cg (fun hHeld => ?_)
      refine take_read (i := 0) (v := ?_) (by simp only [List.getElem?_toArray, List.getElem?_cons_zero]; rfl) (by kernel_rfl) (by kernel_rfl) (by kernel_rfl) (fun _ _ _ h => h) hHeld ?_ ?_
      rotate_left
      · intro w hSw
        go_simp
        try with_reducible rfl
      try simp only [Act.put, List.setIfInBounds_toArray, List.set_cons_zero, List.set_cons_succ]
      refine take_read (i := 1) (v := ?_) (by simp only [List.getElem?_toArray, List.getElem?_cons_succ, List.getElem?_cons_zero]; rfl) (by kernel_rfl) (by kernel_rfl) (by kernel_rfl) (fun _ _ _ h => h) hHeld ?_ ?_
      rotate_left
      · intro w hSw
        go_simp
        try with_reducible rfl
      try simp only [Act.put, List.setIfInBounds_toArray, List.set_cons_zero, List.set_cons_succ]
      refine take_read (i := 2) (v := ?_) (by simp only [List.getElem?_toArray, List.getElem?_cons_succ, List.getElem?_cons_zero]; rfl) (by kernel_rfl) (by kernel_rfl) (by kernel_rfl) (fun _ _ _ h => h) hHeld ?_ ?_
      rotate_left
      · intro w hSw
        go_simp
        try with_reducible rfl
      try simp only [Act.put, List.setIfInBounds_toArray, List.set_cons_zero, List.set_cons_succ]
      refine take_read (i := 3) (v := ?_) (by simp only [List.getElem?_toArray, List.getElem?_cons_succ, List.getElem?_cons_zero]; rfl) (by kernel_rfl) (by kernel_rfl) (by kernel_rfl) (fun _ _ _ h => h) hHeld ?_ ?_
      rotate_left
      · intro w hSw
        go_simp
        try with_reducible rfl
      try simp only [Act.put, List.setIfInBounds_toArray, List.set_cons_zero, List.set_cons_succ]
      refine take_read (i := 6) (v := ?_) (by simp only [List.getElem?_toArray, List.getElem?_cons_succ, List.getElem?_cons_zero]; rfl) (by kernel_rfl) (by kernel_rfl) (by kernel_rfl) (fun _ _ _ h => h) hHeld ?_ ?_
      rotate_left
      · intro w hSw
        go_simp
        try with_reducible rfl
      try simp only [Act.put, List.setIfInBounds_toArray, List.set_cons_zero, List.set_cons_succ]
      refine take_read (i := 7) (v := ?_) (by simp only [List.getElem?_toArray, List.getElem?_cons_succ, List.getElem?_cons_zero]; rfl) (by kernel_rfl) (by kernel_rfl) (by kernel_rfl) (fun _ _ _ h => h) hHeld ?_ ?_
      rotate_left
      · intro w hSw
        have a0 := hSw.cell a0 (by simp)
        go_simp
        try with_reducible rfl
      try simp only [Act.put, List.setIfInBounds_toArray, List.set_cons_zero, List.set_cons_succ]
      refine take_read (i := 8) (v := ?_) (by simp only [List.getElem?_toArray, List.getElem?_cons_succ, List.getElem?_cons_zero]; rfl) (by kernel_rfl) (by kernel_rfl) (by kernel_rfl) (fun _ _ _ h => h) hHeld ?_ ?_
      rotate_left
      · intro w hSw
        go_simp
        try with_reducible rfl
      try simp only [Act.put, List.setIfInBounds_toArray, List.set_cons_zero, List.set_cons_succ]
      refine take_read (i := 9) (v := ?_) (by simp only [List.getElem?_toArray, List.getElem?_cons_succ, List.getElem?_cons_zero]; rfl) (by kernel_rfl) (by kernel_rfl) (by kernel_rfl) (fun _ _ _ h => h) hHeld ?_ ?_
      rotate_left
      · intro w hSw
        have x4 := hSw.cell x4 (by simp)
        go_simp
        try with_reducible rfl
      try simp only [Act.put, List.setIfInBounds_toArray, List.set_cons_zero, List.set_cons_succ]
      refine take_read (i := 10) (v := ?_) (by simp only [List.getElem?_toArray, List.getElem?_cons_succ, List.getElem?_cons_zero]; rfl) (by kernel_rfl) (by kernel_rfl) (by kernel_rfl) (fun _ _ _ h => h) hHeld ?_ ?_
      rotate_left
      · intro w hSw
        go_simp
        try with_reducible rfl
      try simp only [Act.put, List.setIfInBounds_toArray, List.set_cons_zero, List.set_cons_succ]
      refine take_read (i := 11) (v := ?_) (by simp only [List.getElem?_toArray, List.getElem?_cons_succ, List.getElem?_cons_zero]; rfl) (by kernel_rfl) (by kernel_rfl) (by kernel_rfl) (fun _ _ _ h => h) hHeld ?_ ?_
      rotate_left
      · intro w hSw
        go_simp
        try with_reducible rfl
      try simp only [Act.put, List.setIfInBounds_toArray, List.set_cons_zero, List.set_cons_succ]
      refine take_read (i := 12) (v := ?_) (by simp only [List.getElem?_toArray, List.getElem?_cons_succ, List.getElem?_cons_zero]; rfl) (by kernel_rfl) (by kernel_rfl) (by kernel_rfl) (fun _ _ _ h => h) hHeld ?_ ?_
      rotate_left
      · intro w hSw
        go_simp
        try with_reducible rfl
      try simp only [Act.put, List.setIfInBounds_toArray, List.set_cons_zero, List.set_cons_succ]
      refine take_read (i := 13) (v := ?_) (by simp only [List.getElem?_toArray, List.getElem?_cons_succ, List.getElem?_cons_zero]; rfl) (by kernel_rfl) (by kernel_rfl) (by kernel_rfl) (fun _ _ _ h => h) hHeld ?_ ?_
      rotate_left
      · intro w hSw
        have s8' := hSw.cell s8' (by simp)
        go_simp
        try with_reducible rfl
      try simp only [Act.put, List.setIfInBounds_toArray, List.set_cons_zero, List.set_cons_succ]
      refine take_read (i := 14) (v := ?_) (by simp only [List.getElem?_toArray, List.getElem?_cons_succ, List.getElem?_cons_zero]; rfl) (by kernel_rfl) (by kernel_rfl) (by kernel_rfl) (fun _ _ _ h => h) hHeld ?_ ?_
      rotate_left
      · intro w hSw
        go_simp
        try with_reducible rfl
      try simp only [Act.put, List.setIfInBounds_toArray, List.set_cons_zero, List.set_cons_succ]
      refine wpAnyH_ready (rs := [4]) (by kernel_rfl) (by simp) ?_
      refine AllReadyH.cons (by simp only [List.getElem?_toArray, List.getElem?_cons_succ, List.getElem?_cons_zero]; rfl) (fun K hK => ?_) AllReadyH.nil
      refine armBit rfl _ rfl 113 113 rfl rfl RC (fun w2 g2 hr2 hd2 hc2 => ?_)
      try replace hdp := hdp.pure hc2
      clear RC
      have RC := hr2
      refine hK.out _ _ RC.cg (fun hHeld2 => ?_)
      clear hK hHeld K
      have hHeld := hHeld2
      clear hHeld2
      try (unfold Act.put; simp only [List.setIfInBounds_toArray, List.set_cons_zero, List.set_cons_succ])
      refine wpAnyH_ready (rs := [5]) (by kernel_rfl) (by simp) ?_
      refine AllReadyH.cons (by simp only [List.getElem?_toArray, List.getElem?_cons_succ, List.getElem?_cons_zero]; rfl) (fun K hK => ?_) AllReadyH.nil
      refine armAppB rfl _ _ rfl rfl RC hd2 rfl (by decide) (fun v3 w3 hr3 hb3 => ?_)
      try replace hdp := hb3 _ _ _ hdp
      clear RC hd2
      have RC := hr3
      refine hK.out _ _ RC.cg (fun hHeld2 => ?_)
      clear hK hHeld K
      have hHeld := hHeld2
      clear hHeld2
      try (unfold Act.put; simp only [List.setIfInBounds_toArray, List.set_cons_zero, List.set_cons_succ])
      refine wpAnyH_ready (rs := [15]) (by kernel_rfl) (by simp) ?_
      refine AllReadyH.cons rfl (fun K hK => ?_) AllReadyH.nil
      go_simp
      refine (HPU.out _).mono ?_
      rintro e w7 ⟨gp, cp, rfl, hbp, hcp⟩
      have hdp := hbp _ _ _ _ RC
      try replace hd2 := hd2.pure hcp
      replace RC := RC.pure hcp
      clear hbp
      refine hK.out _ _ RC.cg (fun hHeld2 => ?_)
      clear hK hHeld K
      have hHeld := hHeld2
      clear hHeld2
      try (unfold Act.put; simp only [List.setIfInBounds_toArray, List.set_cons_zero, List.set_cons_succ])
      refine wpAnyH_ready (rs := [16]) (by kernel_rfl) (by simp) ?_
      refine AllReadyH.cons (by simp only [List.getElem?_toArray, List.getElem?_cons_succ, List.getElem?_cons_zero]; rfl) (fun K hK => ?_) AllReadyH.nil
      refine armAppB rfl _ _ rfl rfl RC hdp rfl (by decide) (fun v8 w8 hr8 hb8 => ?_)
      obtain ⟨s10, rfl⟩ := Row_shape hr8
      clear RC
      have RC := hr8
      refine hK.out _ _ RC.cg (fun hHeld2 => ?_)
      clear hK hHeld K
      have hHeld := hHeld2
      clear hHeld2
      try (unfold Act.put; simp only [List.setIfInBounds_toArray, List.set_cons_zero, List.set_cons_succ])
      refine take_read (i := 17) (v := ?_) (by simp only [List.getElem?_toArray, List.getElem?_cons_succ, List.getElem?_cons_zero]; rfl) (by kernel_rfl) (by kernel_rfl) (by kernel_rfl) (fun _ _ _ h => h) hHeld ?_ ?_
      rotate_left
      · intro w hSw
        go_simp
        try with_reducible rfl
      try simp only [Act.put, List.setIfInBounds_toArray, List.set_cons_zero, List.set_cons_succ]
      refine wpAnyH_done (by kernel_rfl) ?_ _
      refine NoPanic.normal ?_
      go_wp2_with fail
      go_meet
      exact ⟨s10, rfl, hr8⟩
    case rest =>
      obtain ⟨s10, rfl, hr10⟩ := hcut
      have R10 := Lib.hid hr10
      clear hr10
      clear a0 x4 s8' RB
      have Q144 : Hid ([Value.int .u8 144] = byteL.vals [144]) := Lib.hid (rfl)
      go_wp2_with (at_builtin; refine Lay.app (L := byteL) Tryz.infoByte rfl _ _ rfl W7.heap.size s10.v [17, 64, 95, 97, 0, 113, 0] rfl (R10.out.bb.pure ((Chg.refl _ _).alloc _)) _ rfl [144] (Lay.Rd.of_heap (heap_alloc_eq _ _) Q144.out rfl (show 1 ≤ maxLen by decide)) (by decide) (by decide) (Nat.le_trans R10.out.sz (by simp)) ?_; intro v11 W11 hov hgv hlc; refine Hid.out ?_)
      refine Lib.hid ?_
      have R11 : Hid (Row W7 W7.heap.size v11 [17, 64, 95, 97, 0, 113, 0, 144] W11) := Lib.hid ((R10.out.pure ((Chg.refl _ _).alloc _)).grown hov hgv)
      obtain ⟨s11, rfl⟩ := Row_shape R11.out
      clear hov hgv hlc R10
      go_wp2_with ((with_reducible refine Lay.ldL Tryz.tFx fD3 ((F7.out.frame R11.out.cg).in) ?_ ?_); exact rfl; refine Hid.out ?_)
      refine Lib.hid ?_
      go_wp2_with ((with_reducible refine Lay.stL Tryz.tFx fD3 ((N7.out.frame R11.out.cg)) ?_ ?_ ?_); exact rfl; exact rfl; intro W12 cW12 xW12; replace cW12 := Lib.hid cW12; replace xW12 := Lib.hid xW12; refine Hid.out ?_)
      refine Lib.hid ?_
      have n0 : W12.cell? ⟨bn, 0, none⟩ = some (.int .u64 4096) := by
        have := xW12.out.in 0 (by decide)
        rw [Nat.zero_add] at this
        rw [this]
        rfl
      have z0 := xW12.out.frozen 0
      have hw8 : IntKind.u64.wrap 4104 = 4104 := by decide
      have hbnl := N7.out.lt
      have B12 : Hid (BB W12 W7.heap.size s11.v [17, 64, 95, 97, 0, 113, 0, 144]) := Lib.hid (R11.out.bb.frame cW12.out (fun k hk hm => by have := (R11.out.bb.lt k hk).1; simp at hm; omega))
      have hz12 : W7.heap.size ≤ W12.heap.size := Nat.le_trans R11.out.sz cW12.out.size
      have D12 : Hid (Chg [bn] W7 W12) := Lib.hid (R11.out.cg.add.same cW12.out)
      clear xW12 cW12 R11
      go_wp2_with fail
      obtain ⟨WE, hWE⟩ : ∃ WE, WE = W12.setCell ⟨bn, 0, none⟩ (.int .u64 4104) := ⟨_, rfl⟩
      rw [← hWE]
      have kE : Chg [bn] W12 WE := by rw [hWE]; exact (Chg.refl _ _).setCell _ _ (.inl (by simp))
      have BE : Hid (BB WE W7.heap.size s11.v [17, 64, 95, 97, 0, 113, 0, 144]) := Lib.hid (B12.out.frame kE (fun k hk hm => by have := (B12.out.lt k hk).1; simp at hm; omega))
      have hzE : W7.heap.size ≤ WE.heap.size := Nat.le_trans hz12 kE.size
      have DE : Hid (Chg [bn] W7 WE) := Lib.hid (D12.out.trans kE (fun i hi _ => hi))
      have hbn5 : W2.heap.size ≤ bn := HbnW.out
      have CE : Hid (Chg [] W2 WE) := Lib.hid (C7.out.trans DE.out (fun i hi hw => by simp at hi; omega))
      clear hWE kE n0 z0 B12 D12 DE
      rw [rounds_succ]
      have Q0 : Hid ([Value.int .u8 0] = byteL.vals [0]) := Lib.hid (rfl)
      go_wp2_with (at_builtin; refine Lay.app (L := byteL) Tryz.infoByte rfl _ _ rfl W7.heap.size s11.v [17, 64, 95, 97, 0, 113, 0, 144] rfl (BE.out.pure ((Chg.refl _ _).alloc _)) _ rfl [0] (Lay.Rd.of_heap (heap_alloc_eq _ _) Q0.out rfl (show 1 ≤ maxLen by decide)) (by decide) (by decide) (Nat.le_trans hzE (by simp)) ?_; intro v14 W14 hov hgv hlc; refine Hid.out ?_)
      refine Lib.hid ?_
      have CF2 : Hid (Chg [] W2 W14) := Lib.hid ((CE.out.alloc _).trans (Lay.chg_grown hgv) (fun i hi hw => by have := (BE.out.lt i (by simpa using hi)).1; have := C7.out.size; omega))
      obtain ⟨a14, c14, he14, _⟩ := hov.rd.shape
      subst he14
      have BF : Hid (BB W14 w.heap.size (.slice a14 9 c14) dB) := Lib.hid (Lay.Buf.mono hov (Nat.le_trans C2.out.size C7.out.size))
      clear hov hgv hlc BE
      go_wp2
      go_ret2
      exact ⟨⟨a14, 9, c14⟩, rfl, BF.out, C2.out.then CF2.out⟩
end Go.Proofs.YtkomocgodljecaaGreatDoor
