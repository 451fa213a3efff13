/- Lemmas, laid together: part 21 of 39. Conditions: none but each lemma's own. -/
import Derived.Test.YtnaonkbbecdboaaDoorJ20
/- load: tell, the commands that are not known; segments and dependencies. -/
namespace Go.Proofs.YtnaonkbbecdboaaDoor
open Go.RowKit
set_option maxRecDepth 100000

set_option maxHeartbeats 4000000 in
theorem tell_bad (x : Cmr) (l : List UInt8) (ho : ¬ opE l = 0) (hl : l.length ≤ 140737488355328) (w1 : World) (base bt bs : Nat) (p q : TP) (t : Tel) (xs : List Seg) (w : World) (h : TInv w1 base bt bs p t xs w) (hg : Env w) (rd : byteL.Rd w (.slice x.bytes.a x.bytes.n x.bytes.cap) l) :
    Calls Tryd.prog 17 #[.pointer (some ⟨bt, 0, none⟩), cmrL.val x] w (TelSays w1 base bt bs 3 q) := by
  have HOP := Lib.hid (fun v w hg rd => open_bad l ho hl v w hg rd)
  clear ho
  have H := Lib.hid (h)
  have Hg := Lib.hid hg
  have RD := Lib.hid rd
  have Hl := Lib.hid hl
  clear hg rd hl
  clear h
  go_enter Tryd.func17, Tryd.ntmps17
  go_wp2_with ((with_reducible refine Lay.bxL (L := cmrL) 44 x ?_ ?_); exact rfl; intro W0 bx ebx cbx xbx; replace ebx := Lib.hid ebx; replace cbx := Lib.hid cbx; replace xbx := Lib.hid xbx; refine Hid.out ?_)
  refine Lib.hid ?_
  have y1 := Cmr.c_bytes xbx.out
  have H0 := Lib.hid (H.out.pure cbx.out)
  go_wp2_with fail
  refine (HOP.out _ W0 (Hg.out.frame cbx.out (by simp)) (RD.out.frame cbx.out)).mono ?_
  rintro e W1 ⟨k, hk, rfl, hch⟩
  have H1 := Lib.hid (H0.out.pure hch)
  clear hch y1
  go_wp2_with fail
  refine (kinds_any W1).mono ?_
  rintro e W2 ⟨b, rfl, hm, hch⟩
  have H2 := Lib.hid (H1.out.pure hch)
  have Hm := Lib.hid hm
  have Hk := Lib.hid hk
  clear hm hk
  clear hch
  by_cases hd : depK (k : Int) = 0
  · have hn : kindsM (k : Int) = none := by unfold kindsM; rw [if_pos hd]
    have Hd := Lib.hid hd
    have Hn := Lib.hid hn
    clear hd hn
    go_wp2_with ((with_reducible refine get2N Tryd.tKnd Hm.out (k : Int) Hn.out ?_ ?_ ?_); exact rfl; exact rfl; refine Hid.out ?_)
    refine Lib.hid ?_
    go_wp2
    go_ret
    exact ⟨rfl, H2.out.chg, fun h => absurd h (by decide)⟩
  · have hn : kindsM (k : Int) = some (.int .i64 (depK (k : Int))) := by unfold kindsM; rw [if_neg hd]
    have Hd := Lib.hid hd
    have Hn := Lib.hid hn
    clear hd hn
    go_wp2_with ((with_reducible refine get2S Tryd.tKnd Hm.out (k : Int) _ Hn.out ?_ ?_ ?_); exact rfl; exact rfl; refine Hid.out ?_)
    refine Lib.hid ?_
    go_wp2
    go_ret
    exact ⟨rfl, H2.out.chg, fun h => absurd h (by decide)⟩
set_option maxHeartbeats 4000000 in
theorem tell_unk (x : Cmr) (l : List UInt8) (ho : opE l = 0) (hk : leastF (n4 l 0) = 0) (hl : l.length ≤ 140737488355328) (w1 : World) (base bt bs : Nat) (p : TP) (t : Tel) (xs : List Seg) (w : World) (h : TInv w1 base bt bs p t xs w) (hg : Env w) (rd : byteL.Rd w (.slice x.bytes.a x.bytes.n x.bytes.cap) l) :
    Calls Tryd.prog 17 #[.pointer (some ⟨bt, 0, none⟩), cmrL.val x] w (TelSays w1 base bt bs (if 2147483648 ≤ n4 l 0 then 7 else 0) p) := by
  have HOP := Lib.hid (fun v w hg rd => open_ok l ho hl v w hg rd)
  have hz4 := n4_lt l 0
  have hrb := req_bit (n4 l 0) hz4
  obtain ⟨z, hz⟩ : ∃ z, z = n4 l 0 := ⟨_, rfl⟩
  rw [← hz] at HOP hk hz4 hrb ⊢
  have HKN := Lib.hid (fun w => Known_no z hk w)
  have hdk : depK (z : Int) = 0 := by
    unfold depK
    rw [if_neg, if_neg, if_neg, if_neg]
    all_goals (intro e; rw [e] at hk; exact absurd hk (by decide))
  have HND : Hid (kindsM (z : Int) = none) := Lib.hid (by unfold kindsM; rw [if_pos hdk])
  clear hdk
  by_cases h31 : 2147483648 ≤ z
  · rw [if_pos h31]
    rw [decide_eq_true h31] at hrb
    have Ho := Lib.hid ho
    have Hk := Lib.hid hk
    have Hz4 := Lib.hid hz4
    have Hz := Lib.hid hz
    have H31 := Lib.hid h31
    clear ho hk hz4 hz h31
    have H := Lib.hid (h)
    have Hg := Lib.hid hg
    have RD := Lib.hid rd
    have Hl := Lib.hid hl
    clear hg rd hl
    clear h
    go_enter Tryd.func17, Tryd.ntmps17
    go_wp2_with ((with_reducible refine Lay.bxL (L := cmrL) 44 x ?_ ?_); exact rfl; intro W0 bx ebx cbx xbx; replace ebx := Lib.hid ebx; replace cbx := Lib.hid cbx; replace xbx := Lib.hid xbx; refine Hid.out ?_)
    refine Lib.hid ?_
    have y1 := Cmr.c_bytes xbx.out
    have H0 := Lib.hid (H.out.pure cbx.out)
    go_wp2_with fail
    refine (HOP.out _ W0 (Hg.out.frame cbx.out (by simp)) (RD.out.frame cbx.out)).mono ?_
    rintro e W1 ⟨c, rfl, hlo, hcu, hch⟩
    have H1 := Lib.hid (H0.out.pure hch)
    have R1 := Lib.hid ((RD.out.frame cbx.out).frame hch)
    have G1 := Lib.hid ((Hg.out.frame cbx.out (by simp)).frame hch (by simp))
    replace y1 := hch.cell y1 (by simp)
    clear hlo hcu hch
    go_wp2_with fail
    refine (kinds_any W1).mono ?_
    rintro e W2 ⟨b, rfl, hm, hch⟩
    have H2 := Lib.hid (H1.out.pure hch)
    have R2 := Lib.hid (R1.out.frame hch)
    have G2 := Lib.hid (G1.out.frame hch (by simp))
    replace y1 := hch.cell y1 (by simp)
    have Hm := Lib.hid hm
    clear hm
    clear hch
    go_wp2_with ((with_reducible refine get2N Tryd.tKnd Hm.out (z : Int) HND.out ?_ ?_ ?_); exact rfl; exact rfl; refine Hid.out ?_)
    refine Lib.hid ?_
    go_wp2_with fail
    refine (HKN.out W2).mono ?_
    rintro e W3 ⟨rfl, hch⟩
    have H3 := Lib.hid (H2.out.pure hch)
    have R3 := Lib.hid (R2.out.frame hch)
    have G3 := Lib.hid (G2.out.frame hch (by simp))
    replace y1 := hch.cell y1 (by simp)
    clear hch
    go_wp2
    go_ret
    exact ⟨rfl, H3.out.chg, fun h => absurd h (by decide)⟩
  · rw [if_neg h31]
    rw [decide_eq_false h31] at hrb
    have Ho := Lib.hid ho
    have Hk := Lib.hid hk
    have Hz4 := Lib.hid hz4
    have Hz := Lib.hid hz
    have H31 := Lib.hid h31
    clear ho hk hz4 hz h31
    have H := Lib.hid (h)
    have Hg := Lib.hid hg
    have RD := Lib.hid rd
    have Hl := Lib.hid hl
    clear hg rd hl
    clear h
    go_enter Tryd.func17, Tryd.ntmps17
    go_wp2_with ((with_reducible refine Lay.bxL (L := cmrL) 44 x ?_ ?_); exact rfl; intro W0 bx ebx cbx xbx; replace ebx := Lib.hid ebx; replace cbx := Lib.hid cbx; replace xbx := Lib.hid xbx; refine Hid.out ?_)
    refine Lib.hid ?_
    have y1 := Cmr.c_bytes xbx.out
    have H0 := Lib.hid (H.out.pure cbx.out)
    go_wp2_with fail
    refine (HOP.out _ W0 (Hg.out.frame cbx.out (by simp)) (RD.out.frame cbx.out)).mono ?_
    rintro e W1 ⟨c, rfl, hlo, hcu, hch⟩
    have H1 := Lib.hid (H0.out.pure hch)
    have R1 := Lib.hid ((RD.out.frame cbx.out).frame hch)
    have G1 := Lib.hid ((Hg.out.frame cbx.out (by simp)).frame hch (by simp))
    replace y1 := hch.cell y1 (by simp)
    clear hlo hcu hch
    go_wp2_with fail
    refine (kinds_any W1).mono ?_
    rintro e W2 ⟨b, rfl, hm, hch⟩
    have H2 := Lib.hid (H1.out.pure hch)
    have R2 := Lib.hid (R1.out.frame hch)
    have G2 := Lib.hid (G1.out.frame hch (by simp))
    replace y1 := hch.cell y1 (by simp)
    have Hm := Lib.hid hm
    clear hm
    clear hch
    go_wp2_with ((with_reducible refine get2N Tryd.tKnd Hm.out (z : Int) HND.out ?_ ?_ ?_); exact rfl; exact rfl; refine Hid.out ?_)
    refine Lib.hid ?_
    go_wp2_with fail
    refine (HKN.out W2).mono ?_
    rintro e W3 ⟨rfl, hch⟩
    have H3 := Lib.hid (H2.out.pure hch)
    have R3 := Lib.hid (R2.out.frame hch)
    have G3 := Lib.hid (G2.out.frame hch (by simp))
    replace y1 := hch.cell y1 (by simp)
    clear hch
    go_wp2_with fail
    refine (HKN.out W3).mono ?_
    rintro e W4 ⟨rfl, hch⟩
    have H4 := Lib.hid (H3.out.pure hch)
    have R4 := Lib.hid (R3.out.frame hch)
    have G4 := Lib.hid (G3.out.frame hch (by simp))
    replace y1 := hch.cell y1 (by simp)
    clear hch H1 R1 G1 H2 R2 G2 H3 R3 G3
    go_wp2_with fail
    go_wp2
    go_ret
    exact ⟨rfl, H4.out.chg, fun _ => ⟨_, _, H4.out⟩⟩
set_option maxHeartbeats 4000000 in
theorem tell_seg (x : Cmr) (l : List UInt8) (ho : opE l = 0) (hc : ((n4 l 0 : Nat) : Int) = 25) (hl : l.length ≤ 140737488355328) (w1 : World) (base bt bs : Nat) (p : TP) (t : Tel) (xs : List Seg) (w : World) (h : TInv w1 base bt bs p t xs w) (hg : Env w) (rd : byteL.Rd w (.slice x.bytes.a x.bytes.n x.bytes.cap) l) :
    Calls Tryd.prog 17 #[.pointer (some ⟨bt, 0, none⟩), cmrL.val x] w (TelSays w1 base bt bs (sgtE p l) { p with segs := p.segs ++ [segP l], n := p.n + n4 l 64 }) := by
  have hop := fun v w hg rd => open_ok l ho hl v w hg rd
  rw [hc] at hop
  have HOP := Lib.hid hop
  have Ho := Lib.hid ho
  have Hc := Lib.hid hc
  clear hop ho hc
  have HKN := Lib.hid (fun w => Known_yes 25 (by decide) w)
  have HND : Hid (kindsM 25 = none) := Lib.hid (by decide)
  have HSG := Lib.hid (fun w h hg rd => segment_any l hl (.slice x.bytes.a x.bytes.n x.bytes.cap) w1 base bt bs p t xs w h hg rd)
  have H := Lib.hid (h)
  have Hg := Lib.hid hg
  have RD := Lib.hid rd
  have Hl := Lib.hid hl
  clear hg rd hl
  clear h
  go_enter Tryd.func17, Tryd.ntmps17
  go_wp2_with ((with_reducible refine Lay.bxL (L := cmrL) 44 x ?_ ?_); exact rfl; intro W0 bx ebx cbx xbx; replace ebx := Lib.hid ebx; replace cbx := Lib.hid cbx; replace xbx := Lib.hid xbx; refine Hid.out ?_)
  refine Lib.hid ?_
  have y1 := Cmr.c_bytes xbx.out
  have H0 := Lib.hid (H.out.pure cbx.out)
  go_wp2_with fail
  refine (HOP.out _ W0 (Hg.out.frame cbx.out (by simp)) (RD.out.frame cbx.out)).mono ?_
  rintro e W1 ⟨c, rfl, hlo, hcu, hch⟩
  have H1 := Lib.hid (H0.out.pure hch)
  have R1 := Lib.hid ((RD.out.frame cbx.out).frame hch)
  have G1 := Lib.hid ((Hg.out.frame cbx.out (by simp)).frame hch (by simp))
  replace y1 := hch.cell y1 (by simp)
  clear hlo hcu hch
  go_wp2_with fail
  refine (kinds_any W1).mono ?_
  rintro e W2 ⟨b, rfl, hm, hch⟩
  have H2 := Lib.hid (H1.out.pure hch)
  have R2 := Lib.hid (R1.out.frame hch)
  have G2 := Lib.hid (G1.out.frame hch (by simp))
  replace y1 := hch.cell y1 (by simp)
  have Hm := Lib.hid hm
  clear hm
  clear hch
  go_wp2_with ((with_reducible refine get2N Tryd.tKnd Hm.out (25 : Int) HND.out ?_ ?_ ?_); exact rfl; exact rfl; refine Hid.out ?_)
  refine Lib.hid ?_
  go_wp2_with fail
  refine (HKN.out W2).mono ?_
  rintro e W3 ⟨rfl, hch⟩
  have H3 := Lib.hid (H2.out.pure hch)
  have R3 := Lib.hid (R2.out.frame hch)
  have G3 := Lib.hid (G2.out.frame hch (by simp))
  replace y1 := hch.cell y1 (by simp)
  clear hch
  go_wp2_with fail
  refine (HKN.out W3).mono ?_
  rintro e W4 ⟨rfl, hch⟩
  have H4 := Lib.hid (H3.out.pure hch)
  have R4 := Lib.hid (R3.out.frame hch)
  have G4 := Lib.hid (G3.out.frame hch (by simp))
  replace y1 := hch.cell y1 (by simp)
  clear hch H1 R1 G1 H2 R2 G2 H3 R3 G3
  go_wp2_with fail
  refine (HSG.out W4 H4.out G4.out R4.out).mono ?_
  rintro e W5 ⟨rfl, hc, ht⟩
  have Hc := Lib.hid hc
  have Ht := Lib.hid ht
  clear hc ht
  go_wp2
  go_ret
  exact ⟨rfl, Hc.out, Ht.out⟩
set_option maxHeartbeats 4000000 in
theorem tell_dep (x : Cmr) (l : List UInt8) (k K : Int) (hk : ¬ leastF k = 0) (hkk : kindsM k = some (.int .i64 K)) (h25 : ¬ k = 25) (ho : opE l = 0) (hc : ((n4 l 0 : Nat) : Int) = k) (hl : l.length ≤ 140737488355328) (w1 : World) (base bt bs : Nat) (p : TP) (t : Tel) (xs : List Seg) (w : World) (h : TInv w1 base bt bs p t xs w) (hg : Env w) (rd : byteL.Rd w (.slice x.bytes.a x.bytes.n x.bytes.cap) l) :
    Calls Tryd.prog 17 #[.pointer (some ⟨bt, 0, none⟩), cmrL.val x] w (TelSays w1 base bt bs (depE p l) { p with deps := p.deps ++ [⟨nameV l, K⟩] }) := by
  have hop := fun v w hg rd => open_ok l ho hl v w hg rd
  rw [hc] at hop
  have e1 : (k == 25) = false := by rw [beq_eq_false_iff_ne]; exact h25
  have HKN := Lib.hid (fun w => Known_yes k hk w)
  have HDP := Lib.hid (fun w h hg rd => depend_any l K hl (.slice x.bytes.a x.bytes.n x.bytes.cap) w1 base bt bs p t xs w h hg rd)
  have HOP := Lib.hid hop
  have Ho := Lib.hid ho
  have Hc := Lib.hid hc
  have Hk := Lib.hid hk
  have HND := Lib.hid hkk
  have H25 := Lib.hid h25
  clear hop ho hc hk hkk h25
  have H := Lib.hid (h)
  have Hg := Lib.hid hg
  have RD := Lib.hid rd
  have Hl := Lib.hid hl
  clear hg rd hl
  clear h
  go_enter Tryd.func17, Tryd.ntmps17
  go_wp2_with ((with_reducible refine Lay.bxL (L := cmrL) 44 x ?_ ?_); exact rfl; intro W0 bx ebx cbx xbx; replace ebx := Lib.hid ebx; replace cbx := Lib.hid cbx; replace xbx := Lib.hid xbx; refine Hid.out ?_)
  refine Lib.hid ?_
  have y1 := Cmr.c_bytes xbx.out
  have H0 := Lib.hid (H.out.pure cbx.out)
  go_wp2_with fail
  refine (HOP.out _ W0 (Hg.out.frame cbx.out (by simp)) (RD.out.frame cbx.out)).mono ?_
  rintro e W1 ⟨c, rfl, hlo, hcu, hch⟩
  have H1 := Lib.hid (H0.out.pure hch)
  have R1 := Lib.hid ((RD.out.frame cbx.out).frame hch)
  have G1 := Lib.hid ((Hg.out.frame cbx.out (by simp)).frame hch (by simp))
  replace y1 := hch.cell y1 (by simp)
  clear hlo hcu hch
  go_wp2_with fail
  refine (kinds_any W1).mono ?_
  rintro e W2 ⟨b, rfl, hm, hch⟩
  have H2 := Lib.hid (H1.out.pure hch)
  have R2 := Lib.hid (R1.out.frame hch)
  have G2 := Lib.hid (G1.out.frame hch (by simp))
  replace y1 := hch.cell y1 (by simp)
  have Hm := Lib.hid hm
  clear hm
  clear hch
  go_wp2_with ((with_reducible refine get2S Tryd.tKnd Hm.out k _ HND.out ?_ ?_ ?_); exact rfl; exact rfl; refine Hid.out ?_)
  refine Lib.hid ?_
  go_wp2_with fail
  refine (HKN.out W2).mono ?_
  rintro e W3 ⟨rfl, hch⟩
  have H3 := Lib.hid (H2.out.pure hch)
  have R3 := Lib.hid (R2.out.frame hch)
  have G3 := Lib.hid (G2.out.frame hch (by simp))
  replace y1 := hch.cell y1 (by simp)
  clear hch
  go_wp2_with fail
  refine (HKN.out W3).mono ?_
  rintro e W4 ⟨rfl, hch⟩
  have H4 := Lib.hid (H3.out.pure hch)
  have R4 := Lib.hid (R3.out.frame hch)
  have G4 := Lib.hid (G3.out.frame hch (by simp))
  replace y1 := hch.cell y1 (by simp)
  clear hch H1 R1 G1 H2 R2 G2 H3 R3 G3
  go_wp2_with fail
  refine (HDP.out W4 H4.out G4.out R4.out).mono ?_
  rintro e W5 ⟨rfl, hc, ht⟩
  have Hc := Lib.hid hc
  have Ht := Lib.hid ht
  clear hc ht
  go_wp2
  go_ret
  exact ⟨rfl, Hc.out, Ht.out⟩
end Go.Proofs.YtnaonkbbecdboaaDoor
