/- Lemmas, laid together: part 39 of 42. Conditions: none but each lemma's own. -/
import Derived.Test.YtiljokmkiolpgaaGreatDoorJ37
import Derived.Test.YtiljokmkiolpgaaGreatDoorJ38
import Derived.Test.YtiljokmkiolpgaaGreatDoorJ19
import Derived.Test.YtiljokmkiolpgaaGreatDoorJ12
import Derived.Test.YtiljokmkiolpgaaGreatDoorJ1
namespace Go.Proofs.YtiljokmkiolpgaaGreatDoor
open Go.RowKit
set_option maxRecDepth 100000
theorem take_bad (l : List UInt8) (ho : ¬ opE l = 0) (v : Value) (w1 : World) (base bt : Nat) (p q : TP) (t : Sen) (xs : List Seg) (w : World) (h : SInv w1 base bt p t xs w) (rd : byteL.Rd w v l) :
  Calls Tryz.prog 35 #[.pointer (some ⟨bt, 0, none⟩), v] w (SenSays w1 base bt 3 q) := by
 have hcm := Cmd5_any l v w rd
 rw [opE_3 ho] at hcm
 have H := hY (h)
 have Hcm := hY hcm
 have Rd := hY rd
 have Ho := hY ho
 clear hcm rd ho
 clear h
 go_enter Tryz.func35, Tryz.ntmps35
 go_wp2_with fail
 refine Hcm.out.mono ?_
 rintro e W0 ⟨rfl, rfl⟩
 go_wp2
 go_ret
 exact ⟨rfl, H.out.chg, fun h => absurd h (by decide)⟩
theorem take_unk (l : List UInt8) (ho : opE l = 0) (hk : leastF (n4 l 0) = 0) (v : Value) (w1 : World) (base bt : Nat) (p : TP) (t : Sen) (xs : List Seg) (w : World) (h : SInv w1 base bt p t xs w) (rd : byteL.Rd w v l) :
  Calls Tryz.prog 35 #[.pointer (some ⟨bt, 0, none⟩), v] w (SenSays w1 base bt (if 2147483648 ≤ n4 l 0 then 7 else 0) p) := by
 obtain ⟨z, hc⟩ : ∃ z, n4 l 0 = z := ⟨_, rfl⟩
 rw [hc] at hk ⊢
 by_cases h31 : 2147483648 ≤ z
 ·rw [if_pos h31]
  have d1 : decide ((2147483648 : Int) ≤ (z : Int)) = true := decide_eq_true (by omega)
  have e0 : (leastF (z : Int) == 0) = true := by rw [hk]; rfl
  have hcm := Cmd5_any l v w rd
  rw [show cmdN l = n4 l 0 by unfold cmdN; rw [if_neg (by have := (opE_len ho).1; omega)], ho, hc] at hcm
  have hle := fun w => Least5_any (z : Int) w
  have H := hY (h)
  have Hcm := hY hcm
  have Hle := hY hle
  have RD := hY rd
  clear hcm hle rd
  clear h
  go_enter Tryz.func35, Tryz.ntmps35
  go_wp2_with fail
  refine Hcm.out.mono ?_
  rintro e W0 ⟨rfl, rfl⟩
  go_wp2_with fail
  refine (Hle.out _).mono ?_
  rintro e W0 ⟨rfl, rfl⟩
  have Ho := hY ho
  have Hc := hY hc
  have Hk := hY hk
  have H31 := hY h31
  clear ho hc hk h31
  go_wp2
  go_ret
  exact ⟨rfl, H.out.chg, fun h => absurd h (by decide)⟩
 ·rw [if_neg h31]
  have d1 : decide ((2147483648 : Int) ≤ (z : Int)) = false := decide_eq_false (by omega)
  have e0 : (leastF (z : Int) == 0) = true := by rw [hk]; rfl
  have hcm := Cmd5_any l v w rd
  rw [show cmdN l = n4 l 0 by unfold cmdN; rw [if_neg (by have := (opE_len ho).1; omega)], ho, hc] at hcm
  have hle := fun w => Least5_any (z : Int) w
  have H := hY (h)
  have Hcm := hY hcm
  have Hle := hY hle
  have RD := hY rd
  clear hcm hle rd
  clear h
  go_enter Tryz.func35, Tryz.ntmps35
  go_wp2_with fail
  refine Hcm.out.mono ?_
  rintro e W0 ⟨rfl, rfl⟩
  go_wp2_with fail
  refine (Hle.out _).mono ?_
  rintro e W0 ⟨rfl, rfl⟩
  have Ho := hY ho
  have Hc := hY hc
  have Hk := hY hk
  have H31 := hY h31
  clear ho hc hk h31
  go_wp2
  go_ret
  exact ⟨rfl, H.out.chg, fun _ => ⟨_, _, H.out⟩⟩
theorem take_seg (l : List UInt8) (ho : opE l = 0) (hc : ((n4 l 0 : Nat) : Int) = 25) (hl : l.length ≤ 140737488355328) (v : Value) (w1 : World) (base bt : Nat) (p : TP) (t : Sen) (xs : List Seg) (w : World) (h : SInv w1 base bt p t xs w) (rd : byteL.Rd w v l) :
  Calls Tryz.prog 35 #[.pointer (some ⟨bt, 0, none⟩), v] w (SenSays w1 base bt (sgtE p l) { p with segs := p.segs ++ [segP l], n := p.n + n4 l 64 }) := by
 have e0 : (leastF 25 == 0) = false := by decide
 have hsg := segment5_any l hl v w1 base bt p t xs w h rd
 have hcm := Cmd5_any l v w rd
 rw [show cmdN l = n4 l 0 by unfold cmdN; rw [if_neg (by have := (opE_len ho).1; omega)], ho, hc] at hcm
 have hle := fun w => Least5_any 25 w
 have H := hY (h)
 have Hcm := hY hcm
 have Hle := hY hle
 have RD := hY rd
 clear hcm hle rd
 clear h
 go_enter Tryz.func35, Tryz.ntmps35
 go_wp2_with fail
 refine Hcm.out.mono ?_
 rintro e W0 ⟨rfl, rfl⟩
 go_wp2_with fail
 refine (Hle.out _).mono ?_
 rintro e W0 ⟨rfl, rfl⟩
 have Ho := hY ho
 have Hc := hY hc
 have Hl := hY hl
 have HSG := hY hsg
 clear ho hc hl hsg
 go_wp2_with fail
 refine HSG.out.mono ?_
 rintro e W5 ⟨rfl, hc, ht⟩
 have Hc := hY hc
 have Ht := hY ht
 clear hc ht
 go_wp2
 go_ret
 exact ⟨rfl, Hc.out, Ht.out⟩
set_option maxHeartbeats 4000000 in
theorem take_name (l : List UInt8) (ho : opE l = 0) (hc : ((n4 l 0 : Nat) : Int) = 13) (v : Value) (w1 : World) (base bt : Nat) (p : TP) (t : Sen) (xs : List Seg) (w : World) (h : SInv w1 base bt p t xs w) (rd : byteL.Rd w v l) :
  Calls Tryz.prog 35 #[.pointer (some ⟨bt, 0, none⟩), v] w (SenSays w1 base bt (if nameE l = 0 then (if p.seen 13 = true then 21 else 0) else nameE l) { seeN p 13 with m := { p.m with name := nameV l } }) := by
 have e0 : (leastF 13 == 0) = false := by decide
 have hnm := Name5_any l v w rd
 obtain ⟨E, hE⟩ : ∃ E, E = nameE l := ⟨_, rfl⟩
 obtain ⟨S, hS⟩ : ∃ S, S = nameV l := ⟨_, rfl⟩
 rw [← hE, ← hS] at hnm
 rw [← hE, ← hS]
 have HNM := hY hnm
 have HS := hY hS
 have HE := hY hE
 clear hnm hS hE
 by_cases h0 : E = 0
 ·subst h0
  rw [if_pos rfl]
  obtain ⟨sn, hsn⟩ : ∃ sn, p.seen 13 = sn := ⟨_, rfl⟩
  rw [hsn]
  have Hsn := hY hsn
  clear hsn
  have y := Sen.c_nm h.box
  rw [h.nm, Hsn.out] at y
  have z := h.box.frozen 24
  have HON := hY (once5_any bt 24 _ w y z)
  clear y z
  cases sn
  ·rw [if_neg (by decide)]
   have hcm := Cmd5_any l v w rd
   rw [show cmdN l = n4 l 0 by unfold cmdN; rw [if_neg (by have := (opE_len ho).1; omega)], ho, hc] at hcm
   have hle := fun w => Least5_any 13 w
   have H := hY (h)
   have Hcm := hY hcm
   have Hle := hY hle
   have RD := hY rd
   clear hcm hle rd
   clear h
   go_enter Tryz.func35, Tryz.ntmps35
   go_wp2_with fail
   refine Hcm.out.mono ?_
   rintro e W0 ⟨rfl, rfl⟩
   go_wp2_with fail
   refine (Hle.out _).mono ?_
   rintro e W0 ⟨rfl, rfl⟩
   have Ho := hY ho
   have Hc := hY hc
   clear ho hc
   go_wp2_with fail
   refine HNM.out.mono ?_
   rintro e W5 ⟨rfl, rfl⟩
   go_wp2_with fail
   refine HON.out.mono ?_
   rintro e W6 ⟨rfl, hW2⟩
   have C6 : Hid (Chg [bt] W5 W6) := hY (by rw [hW2]; exact (Chg.refl _ _).setCell _ _ (.inl (by simp)))
   have X6 : Hid (senL.Box W6 bt { t with nm := true }) := hY (by rw [hW2]; exact Sen.set_nm H.out.box true)
   clear hW2
   have y3 := Sen.c_name X6.out
   have z3 := X6.out.frozen 3
   go_upto_region 18 with fail
   refine Lay.with_world (fun W => SInv w1 base bt { seeN p 13 with m := { p.m with name := S } } { t with nm := true, m := { t.m with name := S } } xs W) ?_ (fun W7 hW => ?_)
   ·exact H.out.upd (q := { seeN p 13 with m := { p.m with name := S } }) (C6.out.same ((Chg.refl _ _).setCell _ _ (.inl (by simp)))) (Sen.set_name X6.out S) rfl H.out.ch H.out.sy H.out.en H.out.sp H.out.secs (by show _ = ({ p.m with name := S } : Img); rw [← H.out.m]; rfl) rfl rfl rfl rfl H.out.l3
   ·clear y3 z3
    have H7 := hY hW
    clear hW
    go_wp2
    go_ret
    exact ⟨rfl, H7.out.chg, fun _ => ⟨_, _, H7.out⟩⟩
  ·rw [if_pos rfl]
   have hcm := Cmd5_any l v w rd
   rw [show cmdN l = n4 l 0 by unfold cmdN; rw [if_neg (by have := (opE_len ho).1; omega)], ho, hc] at hcm
   have hle := fun w => Least5_any 13 w
   have H := hY (h)
   have Hcm := hY hcm
   have Hle := hY hle
   have RD := hY rd
   clear hcm hle rd
   clear h
   go_enter Tryz.func35, Tryz.ntmps35
   go_wp2_with fail
   refine Hcm.out.mono ?_
   rintro e W0 ⟨rfl, rfl⟩
   go_wp2_with fail
   refine (Hle.out _).mono ?_
   rintro e W0 ⟨rfl, rfl⟩
   have Ho := hY ho
   have Hc := hY hc
   clear ho hc
   go_wp2_with fail
   refine HNM.out.mono ?_
   rintro e W5 ⟨rfl, rfl⟩
   go_wp2_with fail
   refine HON.out.mono ?_
   rintro e W6 ⟨rfl, hW2⟩
   have C6 : Hid (Chg [bt] W5 W6) := hY (by rw [hW2]; exact (Chg.refl _ _).setCell _ _ (.inl (by simp)))
   clear hW2
   go_wp2
   go_ret
   exact ⟨rfl, H.out.chg.new C6.out H.out.o6, fun h => absurd h (by decide)⟩
 ·rw [if_neg h0]
  have d0 : (E != 0) = true := by rw [bne_iff_ne]; exact h0
  have NE0 := hY h0
  clear h0
  have hcm := Cmd5_any l v w rd
  rw [show cmdN l = n4 l 0 by unfold cmdN; rw [if_neg (by have := (opE_len ho).1; omega)], ho, hc] at hcm
  have hle := fun w => Least5_any 13 w
  have H := hY (h)
  have Hcm := hY hcm
  have Hle := hY hle
  have RD := hY rd
  clear hcm hle rd
  clear h
  go_enter Tryz.func35, Tryz.ntmps35
  go_wp2_with fail
  refine Hcm.out.mono ?_
  rintro e W0 ⟨rfl, rfl⟩
  go_wp2_with fail
  refine (Hle.out _).mono ?_
  rintro e W0 ⟨rfl, rfl⟩
  have Ho := hY ho
  have Hc := hY hc
  clear ho hc
  go_wp2_with fail
  refine HNM.out.mono ?_
  rintro e W5 ⟨rfl, rfl⟩
  go_wp2
  go_ret
  exact ⟨rfl, H.out.chg, fun h => absurd h NE0.out⟩
set_option linter.unusedSimpArgs false in
set_option maxHeartbeats 8000000 in
theorem take_dep (l : List UInt8) (k KD : Int) (hk : ¬ leastF k = 0) (hkk : depK k = KD) (hK0 : ¬ KD = 0) (h25 : ¬ k = 25) (h13 : ¬ k = 13) (ho : opE l = 0) (hc : ((n4 l 0 : Nat) : Int) = k) (v : Value) (w1 : World) (base bt : Nat) (p : TP) (t : Sen) (xs : List Seg) (w : World) (h : SInv w1 base bt p t xs w) (rd : byteL.Rd w v l) :
  Calls Tryz.prog 35 #[.pointer (some ⟨bt, 0, none⟩), v] w (SenSays w1 base bt (depE p l) { p with deps := p.deps ++ [⟨nameV l, KD⟩] }) := by
 have e0 : (leastF k == 0) = false := by rw [beq_eq_false_iff_ne]; exact hk
 have e1 : (k == 25) = false := by rw [beq_eq_false_iff_ne]; exact h25
 have e2 : (k == 13) = false := by rw [beq_eq_false_iff_ne]; exact h13
 have e3 : (KD != 0) = true := by rw [bne_iff_ne]; exact hK0
 have HDP := hY (fun w => Dep5_any k w)
 rw [hkk] at HDP
 have hnm := Name5_any l v w rd
 unfold depE
 obtain ⟨E, hE⟩ : ∃ E, E = nameE l := ⟨_, rfl⟩
 rw [← hE] at hnm ⊢
 obtain ⟨nm, hN⟩ : ∃ nm, nm = nameV l := ⟨_, rfl⟩
 rw [← hN] at hnm ⊢
 have HNM := hY hnm
 have HE := hY hE
 have HN := hY hN
 have Hk := hY hk
 have Hkk := hY hkk
 have HK0 := hY hK0
 have H25 := hY h25
 have H13 := hY h13
 clear hnm hE hN hk hkk hK0 h25 h13
 by_cases h0 : E = 0
 ·subst h0
  rw [if_pos rfl]
  have HDL : Hid (t.m.deps.n = p.deps.length) := by
   refine hY ?_
   obtain ⟨_, _, he, _, _⟩ := h.dp.rd.shape
   injection he
  have y5 := Sen.c_deps h.box
  by_cases h64 : p.deps.length = 64
  ·have d1 : (((t.m.deps.n : Nat) : Int) == 64) = true := by rw [HDL.out, h64]; rfl
   rw [if_pos h64]
   have hcm := Cmd5_any l v w rd
   rw [show cmdN l = n4 l 0 by unfold cmdN; rw [if_neg (by have := (opE_len ho).1; omega)], ho, hc] at hcm
   have hle := fun w => Least5_any k w
   have H := hY (h)
   have Hcm := hY hcm
   have Hle := hY hle
   have RD := hY rd
   clear hcm hle rd
   clear h
   go_enter Tryz.func35, Tryz.ntmps35
   go_wp2_with fail
   refine Hcm.out.mono ?_
   rintro e W0 ⟨rfl, rfl⟩
   go_wp2_with fail
   refine (Hle.out _).mono ?_
   rintro e W0 ⟨rfl, rfl⟩
   have Ho := hY ho
   have Hc := hY hc
   clear ho hc
   go_wp2_with fail
   refine (HDP.out _).mono ?_
   rintro e WD ⟨rfl, rfl⟩
   go_wp2_with fail
   refine HNM.out.mono ?_
   rintro e W5 ⟨rfl, rfl⟩
   go_wp2
   go_ret
   exact ⟨rfl, H.out.chg, fun h => absurd h (by decide)⟩
  ·have d1 : (((t.m.deps.n : Nat) : Int) == 64) = false := by rw [HDL.out, beq_eq_false_iff_ne]; omega
   rw [if_neg h64]
   have hl1 : p.deps.length < 64 := by have := h.l2; omega
   have hcm := Cmd5_any l v w rd
   rw [show cmdN l = n4 l 0 by unfold cmdN; rw [if_neg (by have := (opE_len ho).1; omega)], ho, hc] at hcm
   have hle := fun w => Least5_any k w
   have H := hY (h)
   have Hcm := hY hcm
   have Hle := hY hle
   have RD := hY rd
   clear hcm hle rd
   clear h
   go_enter Tryz.func35, Tryz.ntmps35
   go_wp2_with fail
   refine Hcm.out.mono ?_
   rintro e W0 ⟨rfl, rfl⟩
   go_wp2_with fail
   refine (Hle.out _).mono ?_
   rintro e W0 ⟨rfl, rfl⟩
   have Ho := hY ho
   have Hc := hY hc
   clear ho hc
   go_wp2_with fail
   refine (HDP.out _).mono ?_
   rintro e WD ⟨rfl, rfl⟩
   go_wp2_with fail
   refine HNM.out.mono ?_
   rintro e W5 ⟨rfl, rfl⟩
   obtain ⟨own, hown⟩ : ∃ own, own = (Value.slice t.m.deps.a t.m.deps.n t.m.deps.cap).ownBlock := ⟨_, rfl⟩
   have Hown := hY hown
   have HL1 := hY hl1
   clear hown hl1
   go_upto_region 21 with fail
   replace y5 := Sen.c_deps (Lay.Box.drew H.out.box)
   refine wp_region_noPanic ?_
   refine wp_region_held_drew (S := fun w' => Chg (bt :: own.toList) W5 w') (by kernel_rfl) (Chg.refl _ _).drew (fun hHeld => ?_)
   refine tkr 0 ?_ hHeld ?_ ?_
   rotate_left
   ·intro w hSw
    go_simp
    try with_reducible rfl
   try simp only [Act.put, aS, aZ, aC]
   refine tkr 1 ?_ hHeld ?_ ?_
   rotate_left
   ·intro w hSw
    go_simp
    try with_reducible rfl
   try simp only [Act.put, aS, aZ, aC]
   refine tkr 2 ?_ hHeld ?_ ?_
   rotate_left
   ·intro w hSw
    go_simp
    try with_reducible rfl
   try simp only [Act.put, aS, aZ, aC]
   refine tkr 3 ?_ hHeld ?_ ?_
   rotate_left
   ·intro w hSw
    go_simp
    try with_reducible rfl
   try simp only [Act.put, aS, aZ, aC]
   refine tkr 4 ?_ hHeld ?_ ?_
   rotate_left
   ·intro w hSw
    go_simp
    try with_reducible rfl
   try simp only [Act.put, aS, aZ, aC]
   refine tkr 6 ?_ hHeld ?_ ?_
   rotate_left
   ·intro w hSw
    go_simp
    try with_reducible rfl
   try simp only [Act.put, aS, aZ, aC]
   refine tkr 7 ?_ hHeld ?_ ?_
   rotate_left
   ·intro w hSw
    go_simp
    try with_reducible rfl
   try simp only [Act.put, aS, aZ, aC]
   refine wpAnyH_ready (rs := [5, 8]) (by kernel_rfl) (by simp) ?_
   refine AllReadyH.cons rfl (fun K hK => ?_) (AllReadyH.cons rfl (fun K hK => ?_) AllReadyH.nil)
   ·go_simp
    refine hK.out _ _ hHeld ?_
    clear hK hHeld K
    intro hHeld
    try (unfold Act.put; simp only [aS, aZ, aC])
    refine wpAnyH_ready (rs := [8]) (by kernel_rfl) (by simp) ?_
    refine AllReadyH.cons rfl (fun K hK => ?_) AllReadyH.nil
    go_simp
    refine (HDP.out _).mono ?_
    rintro e WD ⟨rfl, rfl⟩
    go_simp
    refine hK.out _ _ hHeld ?_
    clear hK hHeld K
    intro hHeld
    try (unfold Act.put; simp only [aS, aZ, aC])
    refine tkr 9 ?_ hHeld ?_ ?_
    rotate_left
    ·intro w hSw
     go_simp
     try with_reducible rfl
    try simp only [Act.put, aS, aZ, aC]
    refine wpAnyH_ready (rs := [10]) (by kernel_rfl) (by simp) ?_
    refine AllReadyH.cons (by simp only [gA, gC, gZ]; rfl) (fun K hK => ?_) AllReadyH.nil
    refine Lay.armBs1 rfl _ rfl (⟨nm, KD⟩ : Dep) (dep_built _) rfl (fun wj g hcj hrj => ?_)
    have J1 := hY hcj
    have JR := hY hrj
    clear hcj hrj
    try replace y5 := J1.out.cell y5 (by simp)
    refine hK.out _ _ (hHeld.then J1.out) ?_
    clear hK hHeld K
    intro hHeld
    try (unfold Act.put; simp only [aS, aZ, aC])
    refine wpAnyH_ready (rs := [11]) (by kernel_rfl) (by simp) ?_
    refine AllReadyH.cons (by simp only [gA, gC, gZ]; rfl) (fun K hK => ?_) AllReadyH.nil
    have DJ : Hid (Chg [] W5 wj) := hY (((Chg.refl [] W5).drew).then J1.out)
    refine Lay.armApp (L := depL) Tryz.infoDep rfl _ _ rfl base (.slice t.m.deps.a t.m.deps.n t.m.deps.cap) p.deps rfl (H.out.dp.pure DJ.out) ⟨g, 0, none⟩ 1 1 rfl [(⟨nm, KD⟩ : Dep)] JR.out (by have := HL1.out; simp; omega) (by have := HL1.out; simp; omega) (by have := H.out.o4; have := DJ.out.size; omega) (fun vk wk hok hgr hlc => ?_)
    obtain ⟨a9, c9, rfl, _, _⟩ := hok.rd.shape
    rw [show (p.deps ++ [(⟨nm, KD⟩ : Dep)]).length = p.deps.length + 1 by simp] at hok hlc
    have GR := hY (Lay.chg_grown hgr)
    have TJ := hY (H.out.pure DJ.out)
    have TK := hY (TJ.out.grew GR.out (grown_ne TJ.out.dp))
    have C12 : Hid (Chg (bt :: own.toList) W5 wk) := hY (hHeld.same (by rw [Hown.out]; exact GR.out.mono (fun i hi _ => List.mem_cons_of_mem _ hi)))
    have hlim : (p.deps ++ [(⟨nm, KD⟩ : Dep)]).length ≤ 64 := by have := HL1.out; simp; omega
    have HF := hY (TK.out.dep TJ.out GR.out hok hlim)
    clear hok hgr hlc y5 hlim
    have y5 := Sen.c_deps TK.out.box
    have z5 := TK.out.box.frozen 5
    refine hK.out _ _ C12.out ?_
    clear hK hHeld K
    intro hHeld
    try (unfold Act.put; simp only [aS, aZ, aC])
    refine tkr 12 ?_ hHeld ?_ ?_
    rotate_left
    ·intro w hSw
     go_simp
     try with_reducible rfl
    try simp only [Act.put, aS, aZ, aC]
    refine tkr 13 ?_ hHeld ?_ ?_
    rotate_left
    ·intro w hSw
     go_simp
     try with_reducible rfl
    try simp only [Act.put, aS, aZ, aC]
    refine tkr 14 ?_ hHeld ?_ ?_
    rotate_left
    ·intro w hSw
     go_simp
     try with_reducible rfl
    try simp only [Act.put, aS, aZ, aC]
    refine wpAnyH_ready (rs := [15]) (by kernel_rfl) (by simp) ?_
    refine AllReadyH.cons rfl (fun K hK => ?_) AllReadyH.nil
    go_simp
    refine hK.out _ _ (C12.out.setCell _ _ (.inl (by simp))) ?_
    clear hK hHeld K
    intro hHeld
    try (unfold Act.put; simp only [aS, aZ, aC])
    refine wpAnyH_done (by kernel_rfl) ?_ _
    refine NoPanic.normal ?_
    refine with_exitT (Q := Exit.then _ _ _ _) (fun W => SInv w1 base bt { p with deps := p.deps ++ [⟨nm, KD⟩] } { t with m := { t.m with deps := ⟨a9, p.deps.length + 1, c9⟩ } } xs W) HF.out (fun WE hW => ?_)
    have TE := hY (hW)
    clear hW hHeld HF
    go_wp2
    go_ret
    exact ⟨rfl, TE.out.chg, fun _ => ⟨_, _, TE.out⟩⟩
   ·go_simp
    refine (HDP.out _).mono ?_
    rintro e WD ⟨rfl, rfl⟩
    go_simp
    refine hK.out _ _ hHeld ?_
    clear hK hHeld K
    intro hHeld
    try (unfold Act.put; simp only [aS, aZ, aC])
    refine tkr 9 ?_ hHeld ?_ ?_
    rotate_left
    ·intro w hSw
     go_simp
     try with_reducible rfl
    try simp only [Act.put, aS, aZ, aC]
    refine wpAnyH_ready (rs := [5, 10]) (by kernel_rfl) (by simp) ?_
    refine AllReadyH.cons rfl (fun K hK => ?_) (AllReadyH.cons rfl (fun K hK => ?_) AllReadyH.nil)
    ·go_simp
     refine hK.out _ _ hHeld ?_
     clear hK hHeld K
     intro hHeld
     try (unfold Act.put; simp only [aS, aZ, aC])
     refine wpAnyH_ready (rs := [10]) (by kernel_rfl) (by simp) ?_
     refine AllReadyH.cons (by simp only [gA, gC, gZ]; rfl) (fun K hK => ?_) AllReadyH.nil
     refine Lay.armBs1 rfl _ rfl (⟨nm, KD⟩ : Dep) (dep_built _) rfl (fun wj g hcj hrj => ?_)
     have J1 := hY hcj
     have JR := hY hrj
     clear hcj hrj
     try replace y5 := J1.out.cell y5 (by simp)
     refine hK.out _ _ (hHeld.then J1.out) ?_
     clear hK hHeld K
     intro hHeld
     try (unfold Act.put; simp only [aS, aZ, aC])
     refine wpAnyH_ready (rs := [11]) (by kernel_rfl) (by simp) ?_
     refine AllReadyH.cons (by simp only [gA, gC, gZ]; rfl) (fun K hK => ?_) AllReadyH.nil
     have DJ : Hid (Chg [] W5 wj) := hY (((Chg.refl [] W5).drew).then J1.out)
     refine Lay.armApp (L := depL) Tryz.infoDep rfl _ _ rfl base (.slice t.m.deps.a t.m.deps.n t.m.deps.cap) p.deps rfl (H.out.dp.pure DJ.out) ⟨g, 0, none⟩ 1 1 rfl [(⟨nm, KD⟩ : Dep)] JR.out (by have := HL1.out; simp; omega) (by have := HL1.out; simp; omega) (by have := H.out.o4; have := DJ.out.size; omega) (fun vk wk hok hgr hlc => ?_)
     obtain ⟨a9, c9, rfl, _, _⟩ := hok.rd.shape
     rw [show (p.deps ++ [(⟨nm, KD⟩ : Dep)]).length = p.deps.length + 1 by simp] at hok hlc
     have GR := hY (Lay.chg_grown hgr)
     have TJ := hY (H.out.pure DJ.out)
     have TK := hY (TJ.out.grew GR.out (grown_ne TJ.out.dp))
     have C12 : Hid (Chg (bt :: own.toList) W5 wk) := hY (hHeld.same (by rw [Hown.out]; exact GR.out.mono (fun i hi _ => List.mem_cons_of_mem _ hi)))
     have hlim : (p.deps ++ [(⟨nm, KD⟩ : Dep)]).length ≤ 64 := by have := HL1.out; simp; omega
     have HF := hY (TK.out.dep TJ.out GR.out hok hlim)
     clear hok hgr hlc y5 hlim
     have y5 := Sen.c_deps TK.out.box
     have z5 := TK.out.box.frozen 5
     refine hK.out _ _ C12.out ?_
     clear hK hHeld K
     intro hHeld
     try (unfold Act.put; simp only [aS, aZ, aC])
     refine tkr 12 ?_ hHeld ?_ ?_
     rotate_left
     ·intro w hSw
      go_simp
      try with_reducible rfl
     try simp only [Act.put, aS, aZ, aC]
     refine tkr 13 ?_ hHeld ?_ ?_
     rotate_left
     ·intro w hSw
      go_simp
      try with_reducible rfl
     try simp only [Act.put, aS, aZ, aC]
     refine tkr 14 ?_ hHeld ?_ ?_
     rotate_left
     ·intro w hSw
      go_simp
      try with_reducible rfl
     try simp only [Act.put, aS, aZ, aC]
     refine wpAnyH_ready (rs := [15]) (by kernel_rfl) (by simp) ?_
     refine AllReadyH.cons rfl (fun K hK => ?_) AllReadyH.nil
     go_simp
     refine hK.out _ _ (C12.out.setCell _ _ (.inl (by simp))) ?_
     clear hK hHeld K
     intro hHeld
     try (unfold Act.put; simp only [aS, aZ, aC])
     refine wpAnyH_done (by kernel_rfl) ?_ _
     refine NoPanic.normal ?_
     refine with_exitT (Q := Exit.then _ _ _ _) (fun W => SInv w1 base bt { p with deps := p.deps ++ [⟨nm, KD⟩] } { t with m := { t.m with deps := ⟨a9, p.deps.length + 1, c9⟩ } } xs W) HF.out (fun WE hW => ?_)
     have TE := hY (hW)
     clear hW hHeld HF
     go_wp2
     go_ret
     exact ⟨rfl, TE.out.chg, fun _ => ⟨_, _, TE.out⟩⟩
    ·refine Lay.armBs1 rfl _ rfl (⟨nm, KD⟩ : Dep) (dep_built _) rfl (fun wj g hcj hrj => ?_)
     have J1 := hY hcj
     have JR := hY hrj
     clear hcj hrj
     try replace y5 := J1.out.cell y5 (by simp)
     refine hK.out _ _ (hHeld.then J1.out) ?_
     clear hK hHeld K
     intro hHeld
     try (unfold Act.put; simp only [aS, aZ, aC])
     refine wpAnyH_ready (rs := [5]) (by kernel_rfl) (by simp) ?_
     refine AllReadyH.cons rfl (fun K hK => ?_) AllReadyH.nil
     go_simp
     refine hK.out _ _ hHeld ?_
     clear hK hHeld K
     intro hHeld
     try (unfold Act.put; simp only [aS, aZ, aC])
     refine wpAnyH_ready (rs := [11]) (by kernel_rfl) (by simp) ?_
     refine AllReadyH.cons (by simp only [gA, gC, gZ]; rfl) (fun K hK => ?_) AllReadyH.nil
     have DJ : Hid (Chg [] W5 wj) := hY (((Chg.refl [] W5).drew).then J1.out)
     refine Lay.armApp (L := depL) Tryz.infoDep rfl _ _ rfl base (.slice t.m.deps.a t.m.deps.n t.m.deps.cap) p.deps rfl (H.out.dp.pure DJ.out) ⟨g, 0, none⟩ 1 1 rfl [(⟨nm, KD⟩ : Dep)] JR.out (by have := HL1.out; simp; omega) (by have := HL1.out; simp; omega) (by have := H.out.o4; have := DJ.out.size; omega) (fun vk wk hok hgr hlc => ?_)
     obtain ⟨a9, c9, rfl, _, _⟩ := hok.rd.shape
     rw [show (p.deps ++ [(⟨nm, KD⟩ : Dep)]).length = p.deps.length + 1 by simp] at hok hlc
     have GR := hY (Lay.chg_grown hgr)
     have TJ := hY (H.out.pure DJ.out)
     have TK := hY (TJ.out.grew GR.out (grown_ne TJ.out.dp))
     have C12 : Hid (Chg (bt :: own.toList) W5 wk) := hY (hHeld.same (by rw [Hown.out]; exact GR.out.mono (fun i hi _ => List.mem_cons_of_mem _ hi)))
     have hlim : (p.deps ++ [(⟨nm, KD⟩ : Dep)]).length ≤ 64 := by have := HL1.out; simp; omega
     have HF := hY (TK.out.dep TJ.out GR.out hok hlim)
     clear hok hgr hlc y5 hlim
     have y5 := Sen.c_deps TK.out.box
     have z5 := TK.out.box.frozen 5
     refine hK.out _ _ C12.out ?_
     clear hK hHeld K
     intro hHeld
     try (unfold Act.put; simp only [aS, aZ, aC])
     refine tkr 12 ?_ hHeld ?_ ?_
     rotate_left
     ·intro w hSw
      go_simp
      try with_reducible rfl
     try simp only [Act.put, aS, aZ, aC]
     refine tkr 13 ?_ hHeld ?_ ?_
     rotate_left
     ·intro w hSw
      go_simp
      try with_reducible rfl
     try simp only [Act.put, aS, aZ, aC]
     refine tkr 14 ?_ hHeld ?_ ?_
     rotate_left
     ·intro w hSw
      go_simp
      try with_reducible rfl
     try simp only [Act.put, aS, aZ, aC]
     refine wpAnyH_ready (rs := [15]) (by kernel_rfl) (by simp) ?_
     refine AllReadyH.cons rfl (fun K hK => ?_) AllReadyH.nil
     go_simp
     refine hK.out _ _ (C12.out.setCell _ _ (.inl (by simp))) ?_
     clear hK hHeld K
     intro hHeld
     try (unfold Act.put; simp only [aS, aZ, aC])
     refine wpAnyH_done (by kernel_rfl) ?_ _
     refine NoPanic.normal ?_
     refine with_exitT (Q := Exit.then _ _ _ _) (fun W => SInv w1 base bt { p with deps := p.deps ++ [⟨nm, KD⟩] } { t with m := { t.m with deps := ⟨a9, p.deps.length + 1, c9⟩ } } xs W) HF.out (fun WE hW => ?_)
     have TE := hY (hW)
     clear hW hHeld HF
     go_wp2
     go_ret
     exact ⟨rfl, TE.out.chg, fun _ => ⟨_, _, TE.out⟩⟩
 ·rw [if_neg h0]
  have d0 : (E != 0) = true := by rw [bne_iff_ne]; exact h0
  have NE0 := hY h0
  clear h0
  have hcm := Cmd5_any l v w rd
  rw [show cmdN l = n4 l 0 by unfold cmdN; rw [if_neg (by have := (opE_len ho).1; omega)], ho, hc] at hcm
  have hle := fun w => Least5_any k w
  have H := hY (h)
  have Hcm := hY hcm
  have Hle := hY hle
  have RD := hY rd
  clear hcm hle rd
  clear h
  go_enter Tryz.func35, Tryz.ntmps35
  go_wp2_with fail
  refine Hcm.out.mono ?_
  rintro e W0 ⟨rfl, rfl⟩
  go_wp2_with fail
  refine (Hle.out _).mono ?_
  rintro e W0 ⟨rfl, rfl⟩
  have Ho := hY ho
  have Hc := hY hc
  clear ho hc
  go_wp2_with fail
  refine (HDP.out _).mono ?_
  rintro e WD ⟨rfl, rfl⟩
  go_wp2_with fail
  refine HNM.out.mono ?_
  rintro e W5 ⟨rfl, rfl⟩
  go_wp2
  go_ret
  exact ⟨rfl, H.out.chg, fun h => absurd h NE0.out⟩
theorem take_rest (l : List UInt8) (k E : Int) (q : TP) (hk : ¬ leastF k = 0) (hkk : depK k = 0) (h25 : ¬ k = 25) (h13 : ¬ k = 13) (ho : opE l = 0) (hc : ((n4 l 0 : Nat) : Int) = k) (v : Value) (w1 : World) (base bt : Nat) (p : TP) (t : Sen) (xs : List Seg) (w : World)
  (hr : Calls Tryz.prog 80 #[.pointer (some ⟨bt, 0, none⟩), .int .u32 k, v] w (SenSays w1 base bt E q)) (h : SInv w1 base bt p t xs w) (rd : byteL.Rd w v l) :
  Calls Tryz.prog 35 #[.pointer (some ⟨bt, 0, none⟩), v] w (SenSays w1 base bt E q) := by
 have e0 : (leastF k == 0) = false := by rw [beq_eq_false_iff_ne]; exact hk
 have e1 : (k == 25) = false := by rw [beq_eq_false_iff_ne]; exact h25
 have e2 : (k == 13) = false := by rw [beq_eq_false_iff_ne]; exact h13
 have HDP := hY (fun w => Dep5_any k w)
 rw [hkk] at HDP
 have Hk := hY hk
 have Hkk := hY hkk
 have H25 := hY h25
 have H13 := hY h13
 have HRS := hY hr
 clear hk hkk h25 h13 hr
 have hcm := Cmd5_any l v w rd
 rw [show cmdN l = n4 l 0 by unfold cmdN; rw [if_neg (by have := (opE_len ho).1; omega)], ho, hc] at hcm
 have hle := fun w => Least5_any k w
 have H := hY (h)
 have Hcm := hY hcm
 have Hle := hY hle
 have RD := hY rd
 clear hcm hle rd
 clear h
 go_enter Tryz.func35, Tryz.ntmps35
 go_wp2_with fail
 refine Hcm.out.mono ?_
 rintro e W0 ⟨rfl, rfl⟩
 go_wp2_with fail
 refine (Hle.out _).mono ?_
 rintro e W0 ⟨rfl, rfl⟩
 have Ho := hY ho
 have Hc := hY hc
 clear ho hc
 go_wp2_with fail
 refine (HDP.out _).mono ?_
 rintro e WD ⟨rfl, rfl⟩
 go_wp2_with fail
 refine HRS.out.mono ?_
 rintro e W5 ⟨rfl, hc, ht⟩
 have Hc := hY hc
 have Ht := hY ht
 clear hc ht
 go_wp2
 go_ret
 exact ⟨rfl, Hc.out, Ht.out⟩
theorem Take_any (l : List UInt8) (hl : l.length ≤ 140737488355328) (v : Value) (w1 : World) (base bt : Nat) (p : TP) (t : Sen) (xs : List Seg) (w : World) (h : SInv w1 base bt p t xs w) (rd1 : byteL.Rd w1 v l) :
  Calls Tryz.prog 35 #[.pointer (some ⟨bt, 0, none⟩), v] w (SenSays w1 base bt (tE p l) (tS p l)) := by
 have rd := rd1.frame h.chg
 by_cases ho : opE l = 0
 ·by_cases hk : leastF (n4 l 0) = 0
  ·have h1 : tE p l = if 2147483648 ≤ n4 l 0 then 7 else 0 := by unfold tE; rw [if_neg (by simp [ho]), if_pos hk]
   have h2 : tS p l = p := by unfold tS; rw [if_pos hk]
   rw [h1, h2]
   exact take_unk l ho hk v w1 base bt p t xs w h rd
  ·have hcs := known_cases hk
   rcases hcs with hc | hc | hc | hc | hc | hc | hc | hc | hc | hc | hc | hc
   ·have hn : n4 l 0 = 25 := by omega
    have hE : tE p l = tE p l := rfl
    conv at hE => rhs; unfold tE; rw [if_neg (by simp [ho]), if_neg hk, hn, if_pos rfl]
    have hS : tS p l = tS p l := rfl
    conv at hS => rhs; unfold tS; rw [if_neg hk, hn, if_pos rfl]
    rw [hE, hS]
    exact take_seg l ho hc hl v w1 base bt p t xs w h rd
   ·have hn : n4 l 0 = 12 := by omega
    have hE : tE p l = tE p l := rfl
    conv at hE => rhs; unfold tE; rw [if_neg (by simp [ho]), if_neg hk, hn, if_neg (by decide), if_pos (by decide)]
    have hS : tS p l = tS p l := rfl
    conv at hS => rhs; unfold tS; rw [if_neg hk, hn, if_neg (by decide), if_pos (by decide)]
    rw [hE, hS]
    exact take_dep l 12 1 (by decide) (by decide) (by decide) (by decide) (by decide) ho hc v w1 base bt p t xs w h rd
   ·have hn : n4 l 0 = 2147483672 := by omega
    have hE : tE p l = tE p l := rfl
    conv at hE => rhs; unfold tE; rw [if_neg (by simp [ho]), if_neg hk, hn, if_neg (by decide), if_pos (by decide)]
    have hS : tS p l = tS p l := rfl
    conv at hS => rhs; unfold tS; rw [if_neg hk, hn, if_neg (by decide), if_pos (by decide)]
    rw [hE, hS]
    exact take_dep l 2147483672 2 (by decide) (by decide) (by decide) (by decide) (by decide) ho hc v w1 base bt p t xs w h rd
   ·have hn : n4 l 0 = 2147483679 := by omega
    have hE : tE p l = tE p l := rfl
    conv at hE => rhs; unfold tE; rw [if_neg (by simp [ho]), if_neg hk, hn, if_neg (by decide), if_pos (by decide)]
    have hS : tS p l = tS p l := rfl
    conv at hS => rhs; unfold tS; rw [if_neg hk, hn, if_neg (by decide), if_pos (by decide)]
    rw [hE, hS]
    exact take_dep l 2147483679 3 (by decide) (by decide) (by decide) (by decide) (by decide) ho hc v w1 base bt p t xs w h rd
   ·have hn : n4 l 0 = 2147483683 := by omega
    have hE : tE p l = tE p l := rfl
    conv at hE => rhs; unfold tE; rw [if_neg (by simp [ho]), if_neg hk, hn, if_neg (by decide), if_pos (by decide)]
    have hS : tS p l = tS p l := rfl
    conv at hS => rhs; unfold tS; rw [if_neg hk, hn, if_neg (by decide), if_pos (by decide)]
    rw [hE, hS]
    exact take_dep l 2147483683 4 (by decide) (by decide) (by decide) (by decide) (by decide) ho hc v w1 base bt p t xs w h rd
   ·have hn : n4 l 0 = 13 := by omega
    have hE : tE p l = tE p l := rfl
    conv at hE => rhs; unfold tE; rw [if_neg (by simp [ho]), if_neg hk, hn, if_neg (by decide), if_neg (by decide), if_pos rfl]
    have hS : tS p l = tS p l := rfl
    conv at hS => rhs; unfold tS; rw [if_neg hk, hn, if_neg (by decide), if_neg (by decide), if_pos rfl]
    rw [hE, hS]
    exact take_name l ho hc v w1 base bt p t xs w h rd
   ·have hn : n4 l 0 = 2147483699 := by omega
    have hE : tE p l = tE p l := rfl
    conv at hE => rhs; unfold tE; rw [if_neg (by simp [ho]), if_neg hk, hn, if_neg (by decide), if_neg (by decide), if_neg (by decide), if_pos rfl]
    have hS : tS p l = tS p l := rfl
    conv at hS => rhs; unfold tS; rw [if_neg hk, hn, if_neg (by decide), if_neg (by decide), if_neg (by decide), if_pos rfl]
    rw [hE, hS]
    exact take_rest l 2147483699 _ _ (by decide) (by decide) (by decide) (by decide) ho hc v w1 base bt p t xs w (rest_tr l (spAt l 0) (fun v w rd => Spans5_1 l ho (.inl hc) v w rd) v w1 base bt p t xs w h rd) h rd
   ·have hn : n4 l 0 = 2147483688 := by omega
    have hE : tE p l = tE p l := rfl
    conv at hE => rhs; unfold tE; rw [if_neg (by simp [ho]), if_neg hk, hn, if_neg (by decide), if_neg (by decide), if_neg (by decide), if_neg (by decide), if_neg (by decide : ¬ (2147483688 = 34 ∨ 2147483688 = 2147483682))]
    have hS : tS p l = tS p l := rfl
    conv at hS => rhs; unfold tS; rw [if_neg hk, hn, if_neg (by decide), if_neg (by decide), if_neg (by decide), if_neg (by decide), if_pos rfl]
    rw [hE, hS]
    exact take_rest l 2147483688 _ _ (by decide) (by decide) (by decide) (by decide) ho hc v w1 base bt p t xs w (rest_en l ho hc v w1 base bt p t xs w h rd1) h rd
   ·have hn : n4 l 0 = 2 := by omega
    have hE : tE p l = tE p l := rfl
    conv at hE => rhs; unfold tE; rw [if_neg (by simp [ho]), if_neg hk, hn, if_neg (by decide), if_neg (by decide), if_neg (by decide), if_neg (by decide), if_neg (by decide : ¬ (2 = 34 ∨ 2 = 2147483682))]
    have hS : tS p l = tS p l := rfl
    conv at hS => rhs; unfold tS; rw [if_neg hk, hn, if_neg (by decide), if_neg (by decide), if_neg (by decide), if_neg (by decide), if_neg (by decide), if_pos rfl]
    rw [hE, hS]
    exact take_rest l 2 _ _ (by decide) (by decide) (by decide) (by decide) ho hc v w1 base bt p t xs w (rest_sy l ⟨n4 l 8, (n4 l 12 : Int) * 16⟩ (spAt l 1) (fun v w rd => Spans5_2 l ho hc v w rd) v w1 base bt p t xs w h rd) h rd
   ·have hn : n4 l 0 = 2147483700 := by omega
    have hE : tE p l = tE p l := rfl
    conv at hE => rhs; unfold tE; rw [if_neg (by simp [ho]), if_neg hk, hn, if_neg (by decide), if_neg (by decide), if_neg (by decide), if_neg (by decide), if_neg (by decide : ¬ (2147483700 = 34 ∨ 2147483700 = 2147483682))]
    have hS : tS p l = tS p l := rfl
    conv at hS => rhs; unfold tS; rw [if_neg hk, hn, if_neg (by decide), if_neg (by decide), if_neg (by decide), if_neg (by decide), if_neg (by decide), if_neg (by decide), if_pos rfl]
    rw [hE, hS]
    exact take_rest l 2147483700 _ _ (by decide) (by decide) (by decide) (by decide) ho hc v w1 base bt p t xs w (rest_ch l (spAt l 0) (fun v w rd => Spans5_1 l ho (.inr hc) v w rd) v w1 base bt p t xs w h rd) h rd
   ·have hn : n4 l 0 = 34 := by omega
    have hE : tE p l = tE p l := rfl
    conv at hE => rhs; unfold tE; rw [if_neg (by simp [ho]), if_neg hk, hn, if_neg (by decide), if_neg (by decide), if_neg (by decide), if_neg (by decide), if_pos (by decide : (34 = 34 ∨ 34 = 2147483682))]
    have hS : tS p l = tS p l := rfl
    conv at hS => rhs; unfold tS; rw [if_neg hk, hn, if_neg (by decide), if_neg (by decide), if_neg (by decide), if_neg (by decide), if_neg (by decide), if_neg (by decide), if_neg (by decide)]
    rw [hE, hS]
    exact take_rest l 34 _ _ (by decide) (by decide) (by decide) (by decide) ho hc v w1 base bt p t xs w (rest_5 l 34 (.inl rfl) (spAt l 0) (spAt l 1) (spAt l 2) (spAt l 3) (spAt l 4) (fun v w rd => Spans5_5 l ho (.inl hc) v w rd) v w1 base bt p t xs w h rd) h rd
   ·have hn : n4 l 0 = 2147483682 := by omega
    have hE : tE p l = tE p l := rfl
    conv at hE => rhs; unfold tE; rw [if_neg (by simp [ho]), if_neg hk, hn, if_neg (by decide), if_neg (by decide), if_neg (by decide), if_neg (by decide), if_pos (by decide : (2147483682 = 34 ∨ 2147483682 = 2147483682))]
    have hS : tS p l = tS p l := rfl
    conv at hS => rhs; unfold tS; rw [if_neg hk, hn, if_neg (by decide), if_neg (by decide), if_neg (by decide), if_neg (by decide), if_neg (by decide), if_neg (by decide), if_neg (by decide)]
    rw [hE, hS]
    exact take_rest l 2147483682 _ _ (by decide) (by decide) (by decide) (by decide) ho hc v w1 base bt p t xs w (rest_5 l 2147483682 (.inr rfl) (spAt l 0) (spAt l 1) (spAt l 2) (spAt l 3) (spAt l 4) (fun v w rd => Spans5_5 l ho (.inr hc) v w rd) v w1 base bt p t xs w h rd) h rd
 ·have h1 : tE p l = 3 := by unfold tE; rw [if_pos ho]
  rw [h1]
  exact take_bad l ho v w1 base bt p _ t xs w h rd
theorem Rd_cut {w : World} {b off n cap : Nat} {l : List UInt8} (rd : Rd w (.slice (some ⟨b, off, none⟩) n cap) (bytesV l)) (p m c : Nat) (h : p + m ≤ l.length) (hc : m ≤ c) (hc2 : c ≤ maxLen) :
  Rd w (.slice (some ⟨b, off + p, none⟩) m c) (bytesV ((l.drop p).take m)) := by
 obtain ⟨a', n', cap', he, hn, h1, h2, h3⟩ := rd
 cases he
 have hl : ((l.drop p).take m).length = m := by simp; omega
 refine ⟨_, m, c, rfl, by rw [bytesV_length, hl], hc, hc2, fun _ => ⟨b, off + p, rfl, fun j hj => ?_⟩⟩
 rw [bytesV_length, hl] at hj
 obtain ⟨b', off', hb, hcell⟩ := h3 (by intro e; have := congrArg List.length e; rw [bytesV_length] at this; simp at this; rw [this] at h; simp at h; omega)
 cases hb
 rw [Nat.add_assoc, hcell (p + j) (by rw [bytesV_length]; omega), bytesV_get l _ (by omega), bytesV_get _ j (by rw [hl]; exact hj)]
 simp [List.getD_eq_getElem?_getD, hj]
theorem cmdV_get (ps : List (Cmd × Value)) (j c : Nat) (hj : j < ps.length) (hc : c < 2) : (cmdV ps)[j * 2 + c]? = #[Value.int .u32 ((ps.getD j ((0, []), .nilIface)).1.1 : Nat), (ps.getD j ((0, []), .nilIface)).2][c]? := by
 induction ps generalizing j with
 | nil => simp at hj
 | cons p r ih =>
  have e : cmdV (p :: r) = .int .u32 (p.1.1 : Nat) :: p.2 :: cmdV r := rfl
  rw [e]
  cases j with
  | zero => rw [Nat.zero_mul, Nat.zero_add]; match c, hc with
   | 0, _ => rfl
   | 1, _ => rfl
  | succ j =>
   rw [show (j + 1) * 2 + c = (j * 2 + c) + 1 + 1 by omega, List.getElem?_cons_succ, List.getElem?_cons_succ, ih j (by simpa using hj)]
   rfl
theorem rd_of_own {w : World} {base : Nat} {v : Value} {ps : List (Cmd × Value)} (h : w.ownsRow base 104 2 v ps.length (cmdV ps))
  (he : ∀ p ∈ ps, ∃ a c, p.2 = .slice a p.1.2.length c ∧ Rd w p.2 (bytesV p.1.2)) : CmdRd w v (ps.map Prod.fst) := by
 obtain ⟨hl, hv⟩ := h
 rcases hv with ⟨rfl, h0⟩ | ⟨g, cap, cur, rfl, hb, hg, hnc, hcm, hcs, htake⟩
 ·have : ps = [] := List.eq_nil_of_length_eq_zero h0
  subst this
  exact ⟨_, _, _, rfl, rfl, Nat.le_refl _, Nat.zero_le _, fun h => absurd rfl h⟩
 ·refine ⟨_, _, _, rfl, by simp, hnc, hcm, fun _ => ⟨g, 0, rfl, lt_of_heap hg, fun j hj => ?_⟩⟩
  rw [List.length_map] at hj
  have key : ∀ c, c < 2 → w.cell? ⟨g, 0 + j * 2 + c, none⟩ = #[Value.int .u32 ((ps.getD j ((0, []), .nilIface)).1.1 : Nat), (ps.getD j ((0, []), .nilIface)).2][c]? := fun c hc => by
   rw [cell_of_heap hg, ← cmdV_get ps j c hj hc, ← htake, List.getElem?_take, if_pos (by omega), Nat.zero_add]
   simp
  have e : (ps.map Prod.fst).getD j (0, []) = (ps.getD j ((0, []), .nilIface)).1 := by simp [List.getD_eq_getElem?_getD, hj]
  rw [e]
  have hm : ps.getD j ((0, []), .nilIface) ∈ ps := by rw [List.getD_eq_getElem?_getD, List.getElem?_eq_getElem hj]; exact List.getElem_mem hj
  obtain ⟨a, c, hc1, hc2⟩ := he _ hm
  refine ⟨key 0 (by decide), a, c, ?_, by rw [← hc1]; exact hc2⟩
  rw [← hc1]
  exact key 1 (by decide)
theorem OutC.rd {w : World} {base : Nat} {v : Value} {ps : List (Cmd × Value)} (h : OutC w base v ps) : CmdRd w v (ps.map Prod.fst) :=
 rd_of_own h.own (fun p hp => by
  obtain ⟨a, c, hf⟩ := (h.each p hp).form
  exact ⟨a, c, hf, (h.each p hp).rd⟩)
end Go.Proofs.YtiljokmkiolpgaaGreatDoor
