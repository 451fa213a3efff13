/- Lemmas, laid together: part 20 of 46. Conditions: none but each lemma's own. -/
import Derived.Test.YtaipelkegemoeaaGreatDoorJ17
import Derived.Test.YtaipelkegemoeaaGreatDoorJ19
/- The document's Seen: Take. -/
namespace Go.Proofs.YtaipelkegemoeaaGreatDoor
open Go.RowKit
set_option maxRecDepth 100000

theorem take_bad (l : List UInt8) (ho : ¬ opE l = 0) (v : Value) (w1 : World) (base bt : Nat) (p q : TP) (t : Sen) (xs : List Seg) (w : World) (h : SInv w1 base bt p t xs w) (rd : byteL.Rd w v l) :
    Calls Tryz.prog 29 #[.pointer (some ⟨bt, 0, none⟩), v] w (SenSays w1 base bt 3 q) := by
  have hcm := Cmd5_any l v w rd
  rw [opE_3 ho] at hcm
  have H := Lib.hid (h)
  have Hcm := Lib.hid hcm
  have Rd := Lib.hid rd
  have Ho := Lib.hid ho
  clear hcm rd ho
  clear h
  go_enter Tryz.func29, Tryz.ntmps29
  go_wp2_with fail
  refine Hcm.out.mono ?_
  rintro e W0 ⟨rfl, rfl⟩
  go_wp2
  go_ret
  exact ⟨rfl, H.out.chg, fun h => absurd h (by decide)⟩
theorem take_unk (l : List UInt8) (ho : opE l = 0) (hk : leastF (n4 l 0) = 0) (v : Value) (w1 : World) (base bt : Nat) (p : TP) (t : Sen) (xs : List Seg) (w : World) (h : SInv w1 base bt p t xs w) (rd : byteL.Rd w v l) :
    Calls Tryz.prog 29 #[.pointer (some ⟨bt, 0, none⟩), v] w (SenSays w1 base bt (if 2147483648 ≤ n4 l 0 then 7 else 0) p) := by
  obtain ⟨z, hc⟩ : ∃ z, n4 l 0 = z := ⟨_, rfl⟩
  rw [hc] at hk ⊢
  by_cases h31 : 2147483648 ≤ z
  · rw [if_pos h31]
    have d1 : decide ((2147483648 : Int) ≤ (z : Int)) = true := decide_eq_true (by omega)
    have e0 : (leastF (z : Int) == 0) = true := by rw [hk]; rfl
    have hcm := Cmd5_any l v w rd
    rw [show cmdN l = n4 l 0 by unfold cmdN; rw [if_neg (by have := (opE_len ho).1; omega)], ho, hc] at hcm
    have hle := fun w => Least5_any (z : Int) w
    have H := Lib.hid (h)
    have Hcm := Lib.hid hcm
    have Hle := Lib.hid hle
    have RD := Lib.hid rd
    clear hcm hle rd
    clear h
    go_enter Tryz.func29, Tryz.ntmps29
    go_wp2_with fail
    refine Hcm.out.mono ?_
    rintro e W0 ⟨rfl, rfl⟩
    go_wp2_with fail
    refine (Hle.out _).mono ?_
    rintro e W0 ⟨rfl, rfl⟩
    have Ho := Lib.hid ho
    have Hc := Lib.hid hc
    have Hk := Lib.hid hk
    have H31 := Lib.hid h31
    clear ho hc hk h31
    go_wp2
    go_ret
    exact ⟨rfl, H.out.chg, fun h => absurd h (by decide)⟩
  · rw [if_neg h31]
    have d1 : decide ((2147483648 : Int) ≤ (z : Int)) = false := decide_eq_false (by omega)
    have e0 : (leastF (z : Int) == 0) = true := by rw [hk]; rfl
    have hcm := Cmd5_any l v w rd
    rw [show cmdN l = n4 l 0 by unfold cmdN; rw [if_neg (by have := (opE_len ho).1; omega)], ho, hc] at hcm
    have hle := fun w => Least5_any (z : Int) w
    have H := Lib.hid (h)
    have Hcm := Lib.hid hcm
    have Hle := Lib.hid hle
    have RD := Lib.hid rd
    clear hcm hle rd
    clear h
    go_enter Tryz.func29, Tryz.ntmps29
    go_wp2_with fail
    refine Hcm.out.mono ?_
    rintro e W0 ⟨rfl, rfl⟩
    go_wp2_with fail
    refine (Hle.out _).mono ?_
    rintro e W0 ⟨rfl, rfl⟩
    have Ho := Lib.hid ho
    have Hc := Lib.hid hc
    have Hk := Lib.hid hk
    have H31 := Lib.hid h31
    clear ho hc hk h31
    go_wp2
    go_ret
    exact ⟨rfl, H.out.chg, fun _ => ⟨_, _, H.out⟩⟩
theorem take_seg (l : List UInt8) (ho : opE l = 0) (hc : ((n4 l 0 : Nat) : Int) = 25) (hl : l.length ≤ 140737488355328) (v : Value) (w1 : World) (base bt : Nat) (p : TP) (t : Sen) (xs : List Seg) (w : World) (h : SInv w1 base bt p t xs w) (rd : byteL.Rd w v l) :
    Calls Tryz.prog 29 #[.pointer (some ⟨bt, 0, none⟩), v] w (SenSays w1 base bt (sgtE p l) { p with segs := p.segs ++ [segP l], n := p.n + n4 l 64 }) := by
  have e0 : (leastF 25 == 0) = false := by decide
  have hsg := segment5_any l hl v w1 base bt p t xs w h rd
  have hcm := Cmd5_any l v w rd
  rw [show cmdN l = n4 l 0 by unfold cmdN; rw [if_neg (by have := (opE_len ho).1; omega)], ho, hc] at hcm
  have hle := fun w => Least5_any 25 w
  have H := Lib.hid (h)
  have Hcm := Lib.hid hcm
  have Hle := Lib.hid hle
  have RD := Lib.hid rd
  clear hcm hle rd
  clear h
  go_enter Tryz.func29, Tryz.ntmps29
  go_wp2_with fail
  refine Hcm.out.mono ?_
  rintro e W0 ⟨rfl, rfl⟩
  go_wp2_with fail
  refine (Hle.out _).mono ?_
  rintro e W0 ⟨rfl, rfl⟩
  have Ho := Lib.hid ho
  have Hc := Lib.hid hc
  have Hl := Lib.hid hl
  have HSG := Lib.hid hsg
  clear ho hc hl hsg
  go_wp2_with fail
  refine HSG.out.mono ?_
  rintro e W5 ⟨rfl, hc, ht⟩
  have Hc := Lib.hid hc
  have Ht := Lib.hid ht
  clear hc ht
  go_wp2
  go_ret
  exact ⟨rfl, Hc.out, Ht.out⟩
set_option maxHeartbeats 4000000 in
theorem take_name (l : List UInt8) (ho : opE l = 0) (hc : ((n4 l 0 : Nat) : Int) = 13) (v : Value) (w1 : World) (base bt : Nat) (p : TP) (t : Sen) (xs : List Seg) (w : World) (h : SInv w1 base bt p t xs w) (rd : byteL.Rd w v l) :
    Calls Tryz.prog 29 #[.pointer (some ⟨bt, 0, none⟩), v] w (SenSays w1 base bt (if nameE l = 0 then (if p.seen 13 = true then 21 else 0) else nameE l) { seeN p 13 with m := { p.m with name := nameV l } }) := by
  have e0 : (leastF 13 == 0) = false := by decide
  have hnm := Name5_any l v w rd
  obtain ⟨E, hE⟩ : ∃ E, E = nameE l := ⟨_, rfl⟩
  obtain ⟨S, hS⟩ : ∃ S, S = nameV l := ⟨_, rfl⟩
  rw [← hE, ← hS] at hnm
  rw [← hE, ← hS]
  have HNM := Lib.hid hnm
  have HS := Lib.hid hS
  have HE := Lib.hid hE
  clear hnm hS hE
  by_cases h0 : E = 0
  · subst h0
    rw [if_pos rfl]
    obtain ⟨sn, hsn⟩ : ∃ sn, p.seen 13 = sn := ⟨_, rfl⟩
    rw [hsn]
    have Hsn := Lib.hid hsn
    clear hsn
    have y := Sen.c_nm h.box
    rw [h.nm, Hsn.out] at y
    have z := h.box.frozen 24
    have HON := Lib.hid (once5_any bt 24 _ w y z)
    clear y z
    cases sn
    · rw [if_neg (by decide)]
      have hcm := Cmd5_any l v w rd
      rw [show cmdN l = n4 l 0 by unfold cmdN; rw [if_neg (by have := (opE_len ho).1; omega)], ho, hc] at hcm
      have hle := fun w => Least5_any 13 w
      have H := Lib.hid (h)
      have Hcm := Lib.hid hcm
      have Hle := Lib.hid hle
      have RD := Lib.hid rd
      clear hcm hle rd
      clear h
      go_enter Tryz.func29, Tryz.ntmps29
      go_wp2_with fail
      refine Hcm.out.mono ?_
      rintro e W0 ⟨rfl, rfl⟩
      go_wp2_with fail
      refine (Hle.out _).mono ?_
      rintro e W0 ⟨rfl, rfl⟩
      have Ho := Lib.hid ho
      have Hc := Lib.hid hc
      clear ho hc
      go_wp2_with fail
      refine HNM.out.mono ?_
      rintro e W5 ⟨rfl, rfl⟩
      go_wp2_with fail
      refine HON.out.mono ?_
      rintro e W6 ⟨rfl, hW2⟩
      have C6 : Hid (Chg [bt] W5 W6) := Lib.hid (by rw [hW2]; exact (Chg.refl _ _).setCell _ _ (.inl (by simp)))
      have X6 : Hid (senL.Box W6 bt { t with nm := true }) := Lib.hid (by rw [hW2]; exact Sen.set_nm H.out.box true)
      clear hW2
      have y3 := Sen.c_name X6.out
      have z3 := X6.out.frozen 3
      go_upto_region 18 with fail
      refine Lay.with_world (fun W => SInv w1 base bt { seeN p 13 with m := { p.m with name := S } } { t with nm := true, m := { t.m with name := S } } xs W) ?_ (fun W7 hW => ?_)
      · exact H.out.upd (q := { seeN p 13 with m := { p.m with name := S } }) (C6.out.same ((Chg.refl _ _).setCell _ _ (.inl (by simp)))) (Sen.set_name X6.out S) rfl H.out.ch H.out.sy H.out.en H.out.sp H.out.secs (by show _ = ({ p.m with name := S } : Img); rw [← H.out.m]; rfl) rfl rfl rfl rfl H.out.l3
      · clear y3 z3
        have H7 := Lib.hid hW
        clear hW
        go_wp2
        go_ret
        exact ⟨rfl, H7.out.chg, fun _ => ⟨_, _, H7.out⟩⟩
    · rw [if_pos rfl]
      have hcm := Cmd5_any l v w rd
      rw [show cmdN l = n4 l 0 by unfold cmdN; rw [if_neg (by have := (opE_len ho).1; omega)], ho, hc] at hcm
      have hle := fun w => Least5_any 13 w
      have H := Lib.hid (h)
      have Hcm := Lib.hid hcm
      have Hle := Lib.hid hle
      have RD := Lib.hid rd
      clear hcm hle rd
      clear h
      go_enter Tryz.func29, Tryz.ntmps29
      go_wp2_with fail
      refine Hcm.out.mono ?_
      rintro e W0 ⟨rfl, rfl⟩
      go_wp2_with fail
      refine (Hle.out _).mono ?_
      rintro e W0 ⟨rfl, rfl⟩
      have Ho := Lib.hid ho
      have Hc := Lib.hid hc
      clear ho hc
      go_wp2_with fail
      refine HNM.out.mono ?_
      rintro e W5 ⟨rfl, rfl⟩
      go_wp2_with fail
      refine HON.out.mono ?_
      rintro e W6 ⟨rfl, hW2⟩
      have C6 : Hid (Chg [bt] W5 W6) := Lib.hid (by rw [hW2]; exact (Chg.refl _ _).setCell _ _ (.inl (by simp)))
      clear hW2
      go_wp2
      go_ret
      exact ⟨rfl, H.out.chg.new C6.out H.out.o6, fun h => absurd h (by decide)⟩
  · rw [if_neg h0]
    have d0 : (E != 0) = true := by rw [bne_iff_ne]; exact h0
    have NE0 := Lib.hid h0
    clear h0
    have hcm := Cmd5_any l v w rd
    rw [show cmdN l = n4 l 0 by unfold cmdN; rw [if_neg (by have := (opE_len ho).1; omega)], ho, hc] at hcm
    have hle := fun w => Least5_any 13 w
    have H := Lib.hid (h)
    have Hcm := Lib.hid hcm
    have Hle := Lib.hid hle
    have RD := Lib.hid rd
    clear hcm hle rd
    clear h
    go_enter Tryz.func29, Tryz.ntmps29
    go_wp2_with fail
    refine Hcm.out.mono ?_
    rintro e W0 ⟨rfl, rfl⟩
    go_wp2_with fail
    refine (Hle.out _).mono ?_
    rintro e W0 ⟨rfl, rfl⟩
    have Ho := Lib.hid ho
    have Hc := Lib.hid hc
    clear ho hc
    go_wp2_with fail
    refine HNM.out.mono ?_
    rintro e W5 ⟨rfl, rfl⟩
    go_wp2
    go_ret
    exact ⟨rfl, H.out.chg, fun h => absurd h NE0.out⟩
set_option linter.unusedSimpArgs false in
set_option maxHeartbeats 8000000 in
theorem take_dep (l : List UInt8) (k KD : Int) (hk : ¬ leastF k = 0) (hkk : depK k = KD) (hK0 : ¬ KD = 0) (h25 : ¬ k = 25) (h13 : ¬ k = 13) (ho : opE l = 0) (hc : ((n4 l 0 : Nat) : Int) = k) (v : Value) (w1 : World) (base bt : Nat) (p : TP) (t : Sen) (xs : List Seg) (w : World) (h : SInv w1 base bt p t xs w) (rd : byteL.Rd w v l) :
    Calls Tryz.prog 29 #[.pointer (some ⟨bt, 0, none⟩), v] w (SenSays w1 base bt (depE p l) { p with deps := p.deps ++ [⟨nameV l, KD⟩] }) := by
  have e0 : (leastF k == 0) = false := by rw [beq_eq_false_iff_ne]; exact hk
  have e1 : (k == 25) = false := by rw [beq_eq_false_iff_ne]; exact h25
  have e2 : (k == 13) = false := by rw [beq_eq_false_iff_ne]; exact h13
  have e3 : (KD != 0) = true := by rw [bne_iff_ne]; exact hK0
  have HDP := Lib.hid (fun w => Dep5_any k w)
  rw [hkk] at HDP
  have hnm := Name5_any l v w rd
  unfold depE
  obtain ⟨E, hE⟩ : ∃ E, E = nameE l := ⟨_, rfl⟩
  rw [← hE] at hnm ⊢
  obtain ⟨nm, hN⟩ : ∃ nm, nm = nameV l := ⟨_, rfl⟩
  rw [← hN] at hnm ⊢
  have HNM := Lib.hid hnm
  have HE := Lib.hid hE
  have HN := Lib.hid hN
  have Hk := Lib.hid hk
  have Hkk := Lib.hid hkk
  have HK0 := Lib.hid hK0
  have H25 := Lib.hid h25
  have H13 := Lib.hid h13
  clear hnm hE hN hk hkk hK0 h25 h13
  by_cases h0 : E = 0
  · subst h0
    rw [if_pos rfl]
    have HDL : Hid (t.m.deps.n = p.deps.length) := by
      refine Lib.hid ?_
      obtain ⟨_, _, he, _, _⟩ := h.dp.rd.shape
      injection he
    have y5 := Sen.c_deps h.box
    by_cases h64 : p.deps.length = 64
    · have d1 : (((t.m.deps.n : Nat) : Int) == 64) = true := by rw [HDL.out, h64]; rfl
      rw [if_pos h64]
      have hcm := Cmd5_any l v w rd
      rw [show cmdN l = n4 l 0 by unfold cmdN; rw [if_neg (by have := (opE_len ho).1; omega)], ho, hc] at hcm
      have hle := fun w => Least5_any k w
      have H := Lib.hid (h)
      have Hcm := Lib.hid hcm
      have Hle := Lib.hid hle
      have RD := Lib.hid rd
      clear hcm hle rd
      clear h
      go_enter Tryz.func29, Tryz.ntmps29
      go_wp2_with fail
      refine Hcm.out.mono ?_
      rintro e W0 ⟨rfl, rfl⟩
      go_wp2_with fail
      refine (Hle.out _).mono ?_
      rintro e W0 ⟨rfl, rfl⟩
      have Ho := Lib.hid ho
      have Hc := Lib.hid hc
      clear ho hc
      go_wp2_with fail
      refine (HDP.out _).mono ?_
      rintro e WD ⟨rfl, rfl⟩
      go_wp2_with fail
      refine HNM.out.mono ?_
      rintro e W5 ⟨rfl, rfl⟩
      go_wp2
      go_ret
      exact ⟨rfl, H.out.chg, fun h => absurd h (by decide)⟩
    · have d1 : (((t.m.deps.n : Nat) : Int) == 64) = false := by rw [HDL.out, beq_eq_false_iff_ne]; omega
      rw [if_neg h64]
      have hl1 : p.deps.length < 64 := by have := h.l2; omega
      have hcm := Cmd5_any l v w rd
      rw [show cmdN l = n4 l 0 by unfold cmdN; rw [if_neg (by have := (opE_len ho).1; omega)], ho, hc] at hcm
      have hle := fun w => Least5_any k w
      have H := Lib.hid (h)
      have Hcm := Lib.hid hcm
      have Hle := Lib.hid hle
      have RD := Lib.hid rd
      clear hcm hle rd
      clear h
      go_enter Tryz.func29, Tryz.ntmps29
      go_wp2_with fail
      refine Hcm.out.mono ?_
      rintro e W0 ⟨rfl, rfl⟩
      go_wp2_with fail
      refine (Hle.out _).mono ?_
      rintro e W0 ⟨rfl, rfl⟩
      have Ho := Lib.hid ho
      have Hc := Lib.hid hc
      clear ho hc
      go_wp2_with fail
      refine (HDP.out _).mono ?_
      rintro e WD ⟨rfl, rfl⟩
      go_wp2_with fail
      refine HNM.out.mono ?_
      rintro e W5 ⟨rfl, rfl⟩
      obtain ⟨own, hown⟩ : ∃ own, own = (Value.slice t.m.deps.a t.m.deps.n t.m.deps.cap).ownBlock := ⟨_, rfl⟩
      have Hown := Lib.hid hown
      have HL1 := Lib.hid hl1
      clear hown hl1
      go_upto_region 21 with fail
      replace y5 := Sen.c_deps (Lay.Box.drew H.out.box)
      refine wp_region_noPanic ?_
      refine wp_region_held_drew (S := fun w' => Chg (bt :: own.toList) W5 w') (by kernel_rfl) (Chg.refl _ _).drew (fun hHeld => ?_)
      refine take_read (i := 0) (v := ?_) (by simp only [List.getElem?_toArray, List.getElem?_cons_zero]; rfl) (by kernel_rfl) (by kernel_rfl) (by kernel_rfl) (fun _ _ _ h => h) hHeld ?_ ?_
      rotate_left
      · intro w hSw
        go_simp
        try with_reducible rfl
      try simp only [Act.put, List.setIfInBounds_toArray, List.set_cons_zero, List.set_cons_succ]
      refine take_read (i := 1) (v := ?_) (by simp only [List.getElem?_toArray, List.getElem?_cons_succ, List.getElem?_cons_zero]; rfl) (by kernel_rfl) (by kernel_rfl) (by kernel_rfl) (fun _ _ _ h => h) hHeld ?_ ?_
      rotate_left
      · intro w hSw
        go_simp
        try with_reducible rfl
      try simp only [Act.put, List.setIfInBounds_toArray, List.set_cons_zero, List.set_cons_succ]
      refine take_read (i := 2) (v := ?_) (by simp only [List.getElem?_toArray, List.getElem?_cons_succ, List.getElem?_cons_zero]; rfl) (by kernel_rfl) (by kernel_rfl) (by kernel_rfl) (fun _ _ _ h => h) hHeld ?_ ?_
      rotate_left
      · intro w hSw
        go_simp
        try with_reducible rfl
      try simp only [Act.put, List.setIfInBounds_toArray, List.set_cons_zero, List.set_cons_succ]
      refine take_read (i := 3) (v := ?_) (by simp only [List.getElem?_toArray, List.getElem?_cons_succ, List.getElem?_cons_zero]; rfl) (by kernel_rfl) (by kernel_rfl) (by kernel_rfl) (fun _ _ _ h => h) hHeld ?_ ?_
      rotate_left
      · intro w hSw
        go_simp
        try with_reducible rfl
      try simp only [Act.put, List.setIfInBounds_toArray, List.set_cons_zero, List.set_cons_succ]
      refine take_read (i := 4) (v := ?_) (by simp only [List.getElem?_toArray, List.getElem?_cons_succ, List.getElem?_cons_zero]; rfl) (by kernel_rfl) (by kernel_rfl) (by kernel_rfl) (fun _ _ _ h => h) hHeld ?_ ?_
      rotate_left
      · intro w hSw
        go_simp
        try with_reducible rfl
      try simp only [Act.put, List.setIfInBounds_toArray, List.set_cons_zero, List.set_cons_succ]
      refine take_read (i := 6) (v := ?_) (by simp only [List.getElem?_toArray, List.getElem?_cons_succ, List.getElem?_cons_zero]; rfl) (by kernel_rfl) (by kernel_rfl) (by kernel_rfl) (fun _ _ _ h => h) hHeld ?_ ?_
      rotate_left
      · intro w hSw
        go_simp
        try with_reducible rfl
      try simp only [Act.put, List.setIfInBounds_toArray, List.set_cons_zero, List.set_cons_succ]
      refine take_read (i := 7) (v := ?_) (by simp only [List.getElem?_toArray, List.getElem?_cons_succ, List.getElem?_cons_zero]; rfl) (by kernel_rfl) (by kernel_rfl) (by kernel_rfl) (fun _ _ _ h => h) hHeld ?_ ?_
      rotate_left
      · intro w hSw
        go_simp
        try with_reducible rfl
      try simp only [Act.put, List.setIfInBounds_toArray, List.set_cons_zero, List.set_cons_succ]
      refine wpAnyH_ready (rs := [5, 8]) (by kernel_rfl) (by simp) ?_
      refine AllReadyH.cons rfl (fun K hK => ?_) (AllReadyH.cons rfl (fun K hK => ?_) AllReadyH.nil)
      · go_simp
        refine hK.out _ _ hHeld (fun hHeld2 => ?_)
        clear hK hHeld K
        have hHeld := hHeld2
        clear hHeld2
        try (unfold Act.put; simp only [List.setIfInBounds_toArray, List.set_cons_zero, List.set_cons_succ])
        refine wpAnyH_ready (rs := [8]) (by kernel_rfl) (by simp) ?_
        refine AllReadyH.cons rfl (fun K hK => ?_) AllReadyH.nil
        go_simp
        refine (HDP.out _).mono ?_
        rintro e WD ⟨rfl, rfl⟩
        go_simp
        refine hK.out _ _ hHeld (fun hHeld2 => ?_)
        clear hK hHeld K
        have hHeld := hHeld2
        clear hHeld2
        try (unfold Act.put; simp only [List.setIfInBounds_toArray, List.set_cons_zero, List.set_cons_succ])
        refine take_read (i := 9) (v := ?_) (by simp only [List.getElem?_toArray, List.getElem?_cons_succ, List.getElem?_cons_zero]; rfl) (by kernel_rfl) (by kernel_rfl) (by kernel_rfl) (fun _ _ _ h => h) hHeld ?_ ?_
        rotate_left
        · intro w hSw
          go_simp
          try with_reducible rfl
        try simp only [Act.put, List.setIfInBounds_toArray, List.set_cons_zero, List.set_cons_succ]
        refine wpAnyH_ready (rs := [10]) (by kernel_rfl) (by simp) ?_
        refine AllReadyH.cons (by simp only [List.getElem?_toArray, List.getElem?_cons_succ, List.getElem?_cons_zero]; rfl) (fun K hK => ?_) AllReadyH.nil
        refine Lay.armBs1 rfl _ rfl (⟨nm, KD⟩ : Dep) (dep_built _) rfl (fun wj g hcj hrj => ?_)
        have J1 := Lib.hid hcj
        have JR := Lib.hid hrj
        clear hcj hrj
        try replace y5 := J1.out.cell y5 (by simp)
        refine hK.out _ _ (hHeld.then J1.out) (fun hHeld2 => ?_)
        clear hK hHeld K
        have hHeld := hHeld2
        clear hHeld2
        try (unfold Act.put; simp only [List.setIfInBounds_toArray, List.set_cons_zero, List.set_cons_succ])
        refine wpAnyH_ready (rs := [11]) (by kernel_rfl) (by simp) ?_
        refine AllReadyH.cons (by simp only [List.getElem?_toArray, List.getElem?_cons_succ, List.getElem?_cons_zero]; rfl) (fun K hK => ?_) AllReadyH.nil
        have DJ : Hid (Chg [] W5 wj) := Lib.hid (((Chg.refl [] W5).drew).then J1.out)
        refine Lay.armApp (L := depL) Tryz.infoDep rfl _ _ rfl base (.slice t.m.deps.a t.m.deps.n t.m.deps.cap) p.deps rfl (H.out.dp.pure DJ.out) ⟨g, 0, none⟩ 1 1 rfl [(⟨nm, KD⟩ : Dep)] JR.out (by have := HL1.out; simp; omega) (by have := HL1.out; simp; omega) (by have := H.out.o4; have := DJ.out.size; omega) (fun vk wk hok hgr hlc => ?_)
        obtain ⟨a9, c9, rfl, _, _⟩ := hok.rd.shape
        rw [show (p.deps ++ [(⟨nm, KD⟩ : Dep)]).length = p.deps.length + 1 by simp] at hok hlc
        have GR := Lib.hid (Lay.chg_grown hgr)
        have TJ := Lib.hid (H.out.pure DJ.out)
        have TK := Lib.hid (TJ.out.grew GR.out (grown_ne TJ.out.dp))
        have C12 : Hid (Chg (bt :: own.toList) W5 wk) := Lib.hid (hHeld.same (by rw [Hown.out]; exact GR.out.mono (fun i hi _ => List.mem_cons_of_mem _ hi)))
        have hlim : (p.deps ++ [(⟨nm, KD⟩ : Dep)]).length ≤ 64 := by have := HL1.out; simp; omega
        have HF := Lib.hid (TK.out.dep TJ.out GR.out hok hlim)
        clear hok hgr hlc y5 hlim
        have y5 := Sen.c_deps TK.out.box
        have z5 := TK.out.box.frozen 5
        refine hK.out _ _ C12.out (fun hHeld2 => ?_)
        clear hK hHeld K
        have hHeld := hHeld2
        clear hHeld2
        try (unfold Act.put; simp only [List.setIfInBounds_toArray, List.set_cons_zero, List.set_cons_succ])
        refine take_read (i := 12) (v := ?_) (by simp only [List.getElem?_toArray, List.getElem?_cons_succ, List.getElem?_cons_zero]; rfl) (by kernel_rfl) (by kernel_rfl) (by kernel_rfl) (fun _ _ _ h => h) hHeld ?_ ?_
        rotate_left
        · intro w hSw
          go_simp
          try with_reducible rfl
        try simp only [Act.put, List.setIfInBounds_toArray, List.set_cons_zero, List.set_cons_succ]
        refine take_read (i := 13) (v := ?_) (by simp only [List.getElem?_toArray, List.getElem?_cons_succ, List.getElem?_cons_zero]; rfl) (by kernel_rfl) (by kernel_rfl) (by kernel_rfl) (fun _ _ _ h => h) hHeld ?_ ?_
        rotate_left
        · intro w hSw
          go_simp
          try with_reducible rfl
        try simp only [Act.put, List.setIfInBounds_toArray, List.set_cons_zero, List.set_cons_succ]
        refine take_read (i := 14) (v := ?_) (by simp only [List.getElem?_toArray, List.getElem?_cons_succ, List.getElem?_cons_zero]; rfl) (by kernel_rfl) (by kernel_rfl) (by kernel_rfl) (fun _ _ _ h => h) hHeld ?_ ?_
        rotate_left
        · intro w hSw
          go_simp
          try with_reducible rfl
        try simp only [Act.put, List.setIfInBounds_toArray, List.set_cons_zero, List.set_cons_succ]
        refine wpAnyH_ready (rs := [15]) (by kernel_rfl) (by simp) ?_
        refine AllReadyH.cons rfl (fun K hK => ?_) AllReadyH.nil
        go_simp
        refine hK.out _ _ (C12.out.setCell _ _ (.inl (by simp))) (fun hHeld2 => ?_)
        clear hK hHeld K
        have hHeld := hHeld2
        clear hHeld2
        try (unfold Act.put; simp only [List.setIfInBounds_toArray, List.set_cons_zero, List.set_cons_succ])
        refine wpAnyH_done (by kernel_rfl) ?_ _
        refine NoPanic.normal ?_
        refine with_exitT (Q := Exit.then _ _ _ _) (fun W => SInv w1 base bt { p with deps := p.deps ++ [⟨nm, KD⟩] } { t with m := { t.m with deps := ⟨a9, p.deps.length + 1, c9⟩ } } xs W) HF.out (fun WE hW => ?_)
        have TE := Lib.hid (hW)
        clear hW hHeld HF
        go_wp2
        go_ret
        exact ⟨rfl, TE.out.chg, fun _ => ⟨_, _, TE.out⟩⟩
      · go_simp
        refine (HDP.out _).mono ?_
        rintro e WD ⟨rfl, rfl⟩
        go_simp
        refine hK.out _ _ hHeld (fun hHeld2 => ?_)
        clear hK hHeld K
        have hHeld := hHeld2
        clear hHeld2
        try (unfold Act.put; simp only [List.setIfInBounds_toArray, List.set_cons_zero, List.set_cons_succ])
        refine take_read (i := 9) (v := ?_) (by simp only [List.getElem?_toArray, List.getElem?_cons_succ, List.getElem?_cons_zero]; rfl) (by kernel_rfl) (by kernel_rfl) (by kernel_rfl) (fun _ _ _ h => h) hHeld ?_ ?_
        rotate_left
        · intro w hSw
          go_simp
          try with_reducible rfl
        try simp only [Act.put, List.setIfInBounds_toArray, List.set_cons_zero, List.set_cons_succ]
        refine wpAnyH_ready (rs := [5, 10]) (by kernel_rfl) (by simp) ?_
        refine AllReadyH.cons rfl (fun K hK => ?_) (AllReadyH.cons rfl (fun K hK => ?_) AllReadyH.nil)
        · go_simp
          refine hK.out _ _ hHeld (fun hHeld2 => ?_)
          clear hK hHeld K
          have hHeld := hHeld2
          clear hHeld2
          try (unfold Act.put; simp only [List.setIfInBounds_toArray, List.set_cons_zero, List.set_cons_succ])
          refine wpAnyH_ready (rs := [10]) (by kernel_rfl) (by simp) ?_
          refine AllReadyH.cons (by simp only [List.getElem?_toArray, List.getElem?_cons_succ, List.getElem?_cons_zero]; rfl) (fun K hK => ?_) AllReadyH.nil
          refine Lay.armBs1 rfl _ rfl (⟨nm, KD⟩ : Dep) (dep_built _) rfl (fun wj g hcj hrj => ?_)
          have J1 := Lib.hid hcj
          have JR := Lib.hid hrj
          clear hcj hrj
          try replace y5 := J1.out.cell y5 (by simp)
          refine hK.out _ _ (hHeld.then J1.out) (fun hHeld2 => ?_)
          clear hK hHeld K
          have hHeld := hHeld2
          clear hHeld2
          try (unfold Act.put; simp only [List.setIfInBounds_toArray, List.set_cons_zero, List.set_cons_succ])
          refine wpAnyH_ready (rs := [11]) (by kernel_rfl) (by simp) ?_
          refine AllReadyH.cons (by simp only [List.getElem?_toArray, List.getElem?_cons_succ, List.getElem?_cons_zero]; rfl) (fun K hK => ?_) AllReadyH.nil
          have DJ : Hid (Chg [] W5 wj) := Lib.hid (((Chg.refl [] W5).drew).then J1.out)
          refine Lay.armApp (L := depL) Tryz.infoDep rfl _ _ rfl base (.slice t.m.deps.a t.m.deps.n t.m.deps.cap) p.deps rfl (H.out.dp.pure DJ.out) ⟨g, 0, none⟩ 1 1 rfl [(⟨nm, KD⟩ : Dep)] JR.out (by have := HL1.out; simp; omega) (by have := HL1.out; simp; omega) (by have := H.out.o4; have := DJ.out.size; omega) (fun vk wk hok hgr hlc => ?_)
          obtain ⟨a9, c9, rfl, _, _⟩ := hok.rd.shape
          rw [show (p.deps ++ [(⟨nm, KD⟩ : Dep)]).length = p.deps.length + 1 by simp] at hok hlc
          have GR := Lib.hid (Lay.chg_grown hgr)
          have TJ := Lib.hid (H.out.pure DJ.out)
          have TK := Lib.hid (TJ.out.grew GR.out (grown_ne TJ.out.dp))
          have C12 : Hid (Chg (bt :: own.toList) W5 wk) := Lib.hid (hHeld.same (by rw [Hown.out]; exact GR.out.mono (fun i hi _ => List.mem_cons_of_mem _ hi)))
          have hlim : (p.deps ++ [(⟨nm, KD⟩ : Dep)]).length ≤ 64 := by have := HL1.out; simp; omega
          have HF := Lib.hid (TK.out.dep TJ.out GR.out hok hlim)
          clear hok hgr hlc y5 hlim
          have y5 := Sen.c_deps TK.out.box
          have z5 := TK.out.box.frozen 5
          refine hK.out _ _ C12.out (fun hHeld2 => ?_)
          clear hK hHeld K
          have hHeld := hHeld2
          clear hHeld2
          try (unfold Act.put; simp only [List.setIfInBounds_toArray, List.set_cons_zero, List.set_cons_succ])
          refine take_read (i := 12) (v := ?_) (by simp only [List.getElem?_toArray, List.getElem?_cons_succ, List.getElem?_cons_zero]; rfl) (by kernel_rfl) (by kernel_rfl) (by kernel_rfl) (fun _ _ _ h => h) hHeld ?_ ?_
          rotate_left
          · intro w hSw
            go_simp
            try with_reducible rfl
          try simp only [Act.put, List.setIfInBounds_toArray, List.set_cons_zero, List.set_cons_succ]
          refine take_read (i := 13) (v := ?_) (by simp only [List.getElem?_toArray, List.getElem?_cons_succ, List.getElem?_cons_zero]; rfl) (by kernel_rfl) (by kernel_rfl) (by kernel_rfl) (fun _ _ _ h => h) hHeld ?_ ?_
          rotate_left
          · intro w hSw
            go_simp
            try with_reducible rfl
          try simp only [Act.put, List.setIfInBounds_toArray, List.set_cons_zero, List.set_cons_succ]
          refine take_read (i := 14) (v := ?_) (by simp only [List.getElem?_toArray, List.getElem?_cons_succ, List.getElem?_cons_zero]; rfl) (by kernel_rfl) (by kernel_rfl) (by kernel_rfl) (fun _ _ _ h => h) hHeld ?_ ?_
          rotate_left
          · intro w hSw
            go_simp
            try with_reducible rfl
          try simp only [Act.put, List.setIfInBounds_toArray, List.set_cons_zero, List.set_cons_succ]
          refine wpAnyH_ready (rs := [15]) (by kernel_rfl) (by simp) ?_
          refine AllReadyH.cons rfl (fun K hK => ?_) AllReadyH.nil
          go_simp
          refine hK.out _ _ (C12.out.setCell _ _ (.inl (by simp))) (fun hHeld2 => ?_)
          clear hK hHeld K
          have hHeld := hHeld2
          clear hHeld2
          try (unfold Act.put; simp only [List.setIfInBounds_toArray, List.set_cons_zero, List.set_cons_succ])
          refine wpAnyH_done (by kernel_rfl) ?_ _
          refine NoPanic.normal ?_
          refine with_exitT (Q := Exit.then _ _ _ _) (fun W => SInv w1 base bt { p with deps := p.deps ++ [⟨nm, KD⟩] } { t with m := { t.m with deps := ⟨a9, p.deps.length + 1, c9⟩ } } xs W) HF.out (fun WE hW => ?_)
          have TE := Lib.hid (hW)
          clear hW hHeld HF
          go_wp2
          go_ret
          exact ⟨rfl, TE.out.chg, fun _ => ⟨_, _, TE.out⟩⟩
        · refine Lay.armBs1 rfl _ rfl (⟨nm, KD⟩ : Dep) (dep_built _) rfl (fun wj g hcj hrj => ?_)
          have J1 := Lib.hid hcj
          have JR := Lib.hid hrj
          clear hcj hrj
          try replace y5 := J1.out.cell y5 (by simp)
          refine hK.out _ _ (hHeld.then J1.out) (fun hHeld2 => ?_)
          clear hK hHeld K
          have hHeld := hHeld2
          clear hHeld2
          try (unfold Act.put; simp only [List.setIfInBounds_toArray, List.set_cons_zero, List.set_cons_succ])
          refine wpAnyH_ready (rs := [5]) (by kernel_rfl) (by simp) ?_
          refine AllReadyH.cons rfl (fun K hK => ?_) AllReadyH.nil
          go_simp
          refine hK.out _ _ hHeld (fun hHeld2 => ?_)
          clear hK hHeld K
          have hHeld := hHeld2
          clear hHeld2
          try (unfold Act.put; simp only [List.setIfInBounds_toArray, List.set_cons_zero, List.set_cons_succ])
          refine wpAnyH_ready (rs := [11]) (by kernel_rfl) (by simp) ?_
          refine AllReadyH.cons (by simp only [List.getElem?_toArray, List.getElem?_cons_succ, List.getElem?_cons_zero]; rfl) (fun K hK => ?_) AllReadyH.nil
          have DJ : Hid (Chg [] W5 wj) := Lib.hid (((Chg.refl [] W5).drew).then J1.out)
          refine Lay.armApp (L := depL) Tryz.infoDep rfl _ _ rfl base (.slice t.m.deps.a t.m.deps.n t.m.deps.cap) p.deps rfl (H.out.dp.pure DJ.out) ⟨g, 0, none⟩ 1 1 rfl [(⟨nm, KD⟩ : Dep)] JR.out (by have := HL1.out; simp; omega) (by have := HL1.out; simp; omega) (by have := H.out.o4; have := DJ.out.size; omega) (fun vk wk hok hgr hlc => ?_)
          obtain ⟨a9, c9, rfl, _, _⟩ := hok.rd.shape
          rw [show (p.deps ++ [(⟨nm, KD⟩ : Dep)]).length = p.deps.length + 1 by simp] at hok hlc
          have GR := Lib.hid (Lay.chg_grown hgr)
          have TJ := Lib.hid (H.out.pure DJ.out)
          have TK := Lib.hid (TJ.out.grew GR.out (grown_ne TJ.out.dp))
          have C12 : Hid (Chg (bt :: own.toList) W5 wk) := Lib.hid (hHeld.same (by rw [Hown.out]; exact GR.out.mono (fun i hi _ => List.mem_cons_of_mem _ hi)))
          have hlim : (p.deps ++ [(⟨nm, KD⟩ : Dep)]).length ≤ 64 := by have := HL1.out; simp; omega
          have HF := Lib.hid (TK.out.dep TJ.out GR.out hok hlim)
          clear hok hgr hlc y5 hlim
          have y5 := Sen.c_deps TK.out.box
          have z5 := TK.out.box.frozen 5
          refine hK.out _ _ C12.out (fun hHeld2 => ?_)
          clear hK hHeld K
          have hHeld := hHeld2
          clear hHeld2
          try (unfold Act.put; simp only [List.setIfInBounds_toArray, List.set_cons_zero, List.set_cons_succ])
          refine take_read (i := 12) (v := ?_) (by simp only [List.getElem?_toArray, List.getElem?_cons_succ, List.getElem?_cons_zero]; rfl) (by kernel_rfl) (by kernel_rfl) (by kernel_rfl) (fun _ _ _ h => h) hHeld ?_ ?_
          rotate_left
          · intro w hSw
            go_simp
            try with_reducible rfl
          try simp only [Act.put, List.setIfInBounds_toArray, List.set_cons_zero, List.set_cons_succ]
          refine take_read (i := 13) (v := ?_) (by simp only [List.getElem?_toArray, List.getElem?_cons_succ, List.getElem?_cons_zero]; rfl) (by kernel_rfl) (by kernel_rfl) (by kernel_rfl) (fun _ _ _ h => h) hHeld ?_ ?_
          rotate_left
          · intro w hSw
            go_simp
            try with_reducible rfl
          try simp only [Act.put, List.setIfInBounds_toArray, List.set_cons_zero, List.set_cons_succ]
          refine take_read (i := 14) (v := ?_) (by simp only [List.getElem?_toArray, List.getElem?_cons_succ, List.getElem?_cons_zero]; rfl) (by kernel_rfl) (by kernel_rfl) (by kernel_rfl) (fun _ _ _ h => h) hHeld ?_ ?_
          rotate_left
          · intro w hSw
            go_simp
            try with_reducible rfl
          try simp only [Act.put, List.setIfInBounds_toArray, List.set_cons_zero, List.set_cons_succ]
          refine wpAnyH_ready (rs := [15]) (by kernel_rfl) (by simp) ?_
          refine AllReadyH.cons rfl (fun K hK => ?_) AllReadyH.nil
          go_simp
          refine hK.out _ _ (C12.out.setCell _ _ (.inl (by simp))) (fun hHeld2 => ?_)
          clear hK hHeld K
          have hHeld := hHeld2
          clear hHeld2
          try (unfold Act.put; simp only [List.setIfInBounds_toArray, List.set_cons_zero, List.set_cons_succ])
          refine wpAnyH_done (by kernel_rfl) ?_ _
          refine NoPanic.normal ?_
          refine with_exitT (Q := Exit.then _ _ _ _) (fun W => SInv w1 base bt { p with deps := p.deps ++ [⟨nm, KD⟩] } { t with m := { t.m with deps := ⟨a9, p.deps.length + 1, c9⟩ } } xs W) HF.out (fun WE hW => ?_)
          have TE := Lib.hid (hW)
          clear hW hHeld HF
          go_wp2
          go_ret
          exact ⟨rfl, TE.out.chg, fun _ => ⟨_, _, TE.out⟩⟩
  · rw [if_neg h0]
    have d0 : (E != 0) = true := by rw [bne_iff_ne]; exact h0
    have NE0 := Lib.hid h0
    clear h0
    have hcm := Cmd5_any l v w rd
    rw [show cmdN l = n4 l 0 by unfold cmdN; rw [if_neg (by have := (opE_len ho).1; omega)], ho, hc] at hcm
    have hle := fun w => Least5_any k w
    have H := Lib.hid (h)
    have Hcm := Lib.hid hcm
    have Hle := Lib.hid hle
    have RD := Lib.hid rd
    clear hcm hle rd
    clear h
    go_enter Tryz.func29, Tryz.ntmps29
    go_wp2_with fail
    refine Hcm.out.mono ?_
    rintro e W0 ⟨rfl, rfl⟩
    go_wp2_with fail
    refine (Hle.out _).mono ?_
    rintro e W0 ⟨rfl, rfl⟩
    have Ho := Lib.hid ho
    have Hc := Lib.hid hc
    clear ho hc
    go_wp2_with fail
    refine (HDP.out _).mono ?_
    rintro e WD ⟨rfl, rfl⟩
    go_wp2_with fail
    refine HNM.out.mono ?_
    rintro e W5 ⟨rfl, rfl⟩
    go_wp2
    go_ret
    exact ⟨rfl, H.out.chg, fun h => absurd h NE0.out⟩
/-- A command of spans, or of an entry. -/
theorem take_rest (l : List UInt8) (k E : Int) (q : TP) (hk : ¬ leastF k = 0) (hkk : depK k = 0) (h25 : ¬ k = 25) (h13 : ¬ k = 13) (ho : opE l = 0) (hc : ((n4 l 0 : Nat) : Int) = k) (v : Value) (w1 : World) (base bt : Nat) (p : TP) (t : Sen) (xs : List Seg) (w : World)
    (hr : Calls Tryz.prog 59 #[.pointer (some ⟨bt, 0, none⟩), .int .u32 k, v] w (SenSays w1 base bt E q)) (h : SInv w1 base bt p t xs w) (rd : byteL.Rd w v l) :
    Calls Tryz.prog 29 #[.pointer (some ⟨bt, 0, none⟩), v] w (SenSays w1 base bt E q) := by
  have e0 : (leastF k == 0) = false := by rw [beq_eq_false_iff_ne]; exact hk
  have e1 : (k == 25) = false := by rw [beq_eq_false_iff_ne]; exact h25
  have e2 : (k == 13) = false := by rw [beq_eq_false_iff_ne]; exact h13
  have HDP := Lib.hid (fun w => Dep5_any k w)
  rw [hkk] at HDP
  have Hk := Lib.hid hk
  have Hkk := Lib.hid hkk
  have H25 := Lib.hid h25
  have H13 := Lib.hid h13
  have HRS := Lib.hid hr
  clear hk hkk h25 h13 hr
  have hcm := Cmd5_any l v w rd
  rw [show cmdN l = n4 l 0 by unfold cmdN; rw [if_neg (by have := (opE_len ho).1; omega)], ho, hc] at hcm
  have hle := fun w => Least5_any k w
  have H := Lib.hid (h)
  have Hcm := Lib.hid hcm
  have Hle := Lib.hid hle
  have RD := Lib.hid rd
  clear hcm hle rd
  clear h
  go_enter Tryz.func29, Tryz.ntmps29
  go_wp2_with fail
  refine Hcm.out.mono ?_
  rintro e W0 ⟨rfl, rfl⟩
  go_wp2_with fail
  refine (Hle.out _).mono ?_
  rintro e W0 ⟨rfl, rfl⟩
  have Ho := Lib.hid ho
  have Hc := Lib.hid hc
  clear ho hc
  go_wp2_with fail
  refine (HDP.out _).mono ?_
  rintro e WD ⟨rfl, rfl⟩
  go_wp2_with fail
  refine HRS.out.mono ?_
  rintro e W5 ⟨rfl, hc, ht⟩
  have Hc := Lib.hid hc
  have Ht := Lib.hid ht
  clear hc ht
  go_wp2
  go_ret
  exact ⟨rfl, Hc.out, Ht.out⟩
end Go.Proofs.YtaipelkegemoeaaGreatDoor
