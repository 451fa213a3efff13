/- Lemmas, laid together: part 17 of 43. Conditions: none but each lemma's own. -/
import Derived.Test.YtgjlgamlmmjdpaaGreatDoorJ16
/- load: tell, a name, an entry, spans. -/
namespace Go.Proofs.YtgjlgamlmmjdpaaGreatDoor
open Go.RowKit
set_option maxRecDepth 100000

set_option maxHeartbeats 4000000 in
theorem tell_name (x : Cmr) (l : List UInt8) (ho : opE l = 0) (hc : ((n4 l 0 : Nat) : Int) = 13) (hl : l.length ≤ 140737488355328) (w1 : World) (base bt bs : Nat) (p : TP) (t : Tel) (xs : List Seg) (w : World) (h : TInv w1 base bt bs p t xs w) (hg1 : Env w1) (rd1 : byteL.Rd w1 (.slice x.bytes.a x.bytes.n x.bytes.cap) l) :
    Calls Tryz.prog 23 #[.pointer (some ⟨bt, 0, none⟩), cmrL.val x] w (TelSays w1 base bt bs (if nameE l = 0 then (if p.seen 13 = true then 21 else 0) else nameE l) { seeN p 13 with m := { p.m with name := nameV l } }) := by
  have hg := hg1.frame h.chg (by simp)
  have rd := rd1.frame h.chg
  have EG1 := Lib.hid hg1
  have ER1 := Lib.hid rd1
  clear hg1 rd1
  have hop := fun v w hg rd => open_ok l ho hl v w hg rd
  rw [hc] at hop
  have HKN := Lib.hid (fun w => Known_yes 13 (by decide) w)
  have HND : Hid (kindsM 13 = none) := Lib.hid (by decide)
  have hnm := fun v w hg rd => Name_any l hl v w hg rd
  obtain ⟨E, hE⟩ : ∃ E, E = nameE l := ⟨_, rfl⟩
  obtain ⟨S, hS⟩ : ∃ S, S = nameV l := ⟨_, rfl⟩
  rw [← hE, ← hS] at hnm
  rw [← hE, ← hS]
  have HOP := Lib.hid hop
  have Ho := Lib.hid ho
  have Hc := Lib.hid hc
  have HNM := Lib.hid hnm
  have HS := Lib.hid hS
  have HE := Lib.hid hE
  clear hop ho hc hnm hS hE
  by_cases h0 : E = 0
  · subst h0
    rw [if_pos rfl]
    obtain ⟨sn, hsn⟩ : ∃ sn, p.seen 13 = sn := ⟨_, rfl⟩
    rw [hsn]
    have Hsn := Lib.hid hsn
    clear hsn
    cases sn
    · rw [if_neg (by decide)]
      have H := Lib.hid (h)
      have Hg := Lib.hid hg
      have RD := Lib.hid rd
      have Hl := Lib.hid hl
      clear hg rd hl
      clear h
      go_enter Tryz.func23, Tryz.ntmps23
      go_wp2_with ((with_reducible refine Lay.bxL (L := cmrL) 67 x ?_ ?_); exact rfl; intro W0 bx ebx cbx xbx; replace ebx := Lib.hid ebx; replace cbx := Lib.hid cbx; replace xbx := Lib.hid xbx; refine Hid.out ?_)
      refine Lib.hid ?_
      have y1 := Cmr.c_bytes xbx.out
      have H0 := Lib.hid (H.out.pure cbx.out)
      have HBX : Hid (base ≤ bx) := Lib.hid (by rw [ebx.out]; exact H.out.o4)
      go_wp2_with fail
      refine (HOP.out _ W0 (Hg.out.frame cbx.out (by simp)) (RD.out.frame cbx.out)).mono ?_
      rintro e W1 ⟨c, rfl, hlo, hcu, hch⟩
      have H1 := Lib.hid (H0.out.pure hch)
      have R1 := Lib.hid ((RD.out.frame cbx.out).frame hch)
      have G1 := Lib.hid ((Hg.out.frame cbx.out (by simp)).frame hch (by simp))
      replace y1 := hch.cell y1 (by simp)
      clear hlo hcu hch
      go_wp2_with fail
      refine (kinds_any W1).mono ?_
      rintro e W2 ⟨b, rfl, hm, hch⟩
      have H2 := Lib.hid (H1.out.pure hch)
      have R2 := Lib.hid (R1.out.frame hch)
      have G2 := Lib.hid (G1.out.frame hch (by simp))
      replace y1 := hch.cell y1 (by simp)
      have Hm := Lib.hid hm
      clear hm
      clear hch
      go_wp2_with ((with_reducible refine get2N Tryz.tKnd Hm.out (13 : Int) HND.out ?_ ?_ ?_); exact rfl; exact rfl; refine Hid.out ?_)
      refine Lib.hid ?_
      go_wp2_with fail
      refine (HKN.out W2).mono ?_
      rintro e W3 ⟨rfl, hch⟩
      have H3 := Lib.hid (H2.out.pure hch)
      have R3 := Lib.hid (R2.out.frame hch)
      have G3 := Lib.hid (G2.out.frame hch (by simp))
      replace y1 := hch.cell y1 (by simp)
      clear hch
      go_wp2_with fail
      refine (HKN.out W3).mono ?_
      rintro e W4 ⟨rfl, hch⟩
      have H4 := Lib.hid (H3.out.pure hch)
      have R4 := Lib.hid (R3.out.frame hch)
      have G4 := Lib.hid (G3.out.frame hch (by simp))
      replace y1 := hch.cell y1 (by simp)
      clear hch H1 R1 G1 H2 R2 G2 H3 R3 G3
      go_wp2_with fail
      refine (HNM.out _ W4 G4.out R4.out).mono ?_
      rintro e W5 ⟨rfl, hch⟩
      have H5 := Lib.hid (H4.out.pure hch)
      replace y1 := hch.cell y1 (by simp)
      clear hch
      have y24 := Tel.c_seen H5.out.box
      rw [H5.out.seen] at y24
      go_wp2_with fail
      refine (once_any 13 w1 base bt bs p t xs W5 H5.out).mono ?_
      rintro e W6 ⟨rfl, hti, hcs⟩
      rw [Hsn.out]
      have H6 := Lib.hid (hti)
      replace y1 := hcs.cell y1 (by have := HBX.out; have := H.out.o1; simp; omega)
      clear hti y24 hcs
      have y3 := Tel.c_name H6.out.box
      have z3 := H6.out.box.frozen 3
      go_upto_region 26 with fail
      refine Lay.with_world (fun W => TInv w1 base bt bs { seeN p 13 with m := { p.m with name := S } } { t with m := { t.m with name := S } } xs W) ?_ (fun W7 hW => ?_)
      · exact H6.out.upd (q := { seeN p 13 with m := { p.m with name := S } }) ((Chg.refl _ _).setCell _ _ (.inl (by simp))) (Tel.set_name H6.out.box S) rfl H6.out.secs (by show _ = ({ p.m with name := S } : Img); rw [show p.m = t.m.bare from H6.out.m.symm]; rfl) rfl rfl rfl rfl rfl H6.out.l3
      · clear y3 z3
        have H7 := Lib.hid hW
        clear hW
        go_wp2
        go_ret
        exact ⟨rfl, H7.out.chg, fun _ => ⟨_, _, H7.out⟩⟩
    · rw [if_pos rfl]
      have H := Lib.hid (h)
      have Hg := Lib.hid hg
      have RD := Lib.hid rd
      have Hl := Lib.hid hl
      clear hg rd hl
      clear h
      go_enter Tryz.func23, Tryz.ntmps23
      go_wp2_with ((with_reducible refine Lay.bxL (L := cmrL) 67 x ?_ ?_); exact rfl; intro W0 bx ebx cbx xbx; replace ebx := Lib.hid ebx; replace cbx := Lib.hid cbx; replace xbx := Lib.hid xbx; refine Hid.out ?_)
      refine Lib.hid ?_
      have y1 := Cmr.c_bytes xbx.out
      have H0 := Lib.hid (H.out.pure cbx.out)
      have HBX : Hid (base ≤ bx) := Lib.hid (by rw [ebx.out]; exact H.out.o4)
      go_wp2_with fail
      refine (HOP.out _ W0 (Hg.out.frame cbx.out (by simp)) (RD.out.frame cbx.out)).mono ?_
      rintro e W1 ⟨c, rfl, hlo, hcu, hch⟩
      have H1 := Lib.hid (H0.out.pure hch)
      have R1 := Lib.hid ((RD.out.frame cbx.out).frame hch)
      have G1 := Lib.hid ((Hg.out.frame cbx.out (by simp)).frame hch (by simp))
      replace y1 := hch.cell y1 (by simp)
      clear hlo hcu hch
      go_wp2_with fail
      refine (kinds_any W1).mono ?_
      rintro e W2 ⟨b, rfl, hm, hch⟩
      have H2 := Lib.hid (H1.out.pure hch)
      have R2 := Lib.hid (R1.out.frame hch)
      have G2 := Lib.hid (G1.out.frame hch (by simp))
      replace y1 := hch.cell y1 (by simp)
      have Hm := Lib.hid hm
      clear hm
      clear hch
      go_wp2_with ((with_reducible refine get2N Tryz.tKnd Hm.out (13 : Int) HND.out ?_ ?_ ?_); exact rfl; exact rfl; refine Hid.out ?_)
      refine Lib.hid ?_
      go_wp2_with fail
      refine (HKN.out W2).mono ?_
      rintro e W3 ⟨rfl, hch⟩
      have H3 := Lib.hid (H2.out.pure hch)
      have R3 := Lib.hid (R2.out.frame hch)
      have G3 := Lib.hid (G2.out.frame hch (by simp))
      replace y1 := hch.cell y1 (by simp)
      clear hch
      go_wp2_with fail
      refine (HKN.out W3).mono ?_
      rintro e W4 ⟨rfl, hch⟩
      have H4 := Lib.hid (H3.out.pure hch)
      have R4 := Lib.hid (R3.out.frame hch)
      have G4 := Lib.hid (G3.out.frame hch (by simp))
      replace y1 := hch.cell y1 (by simp)
      clear hch H1 R1 G1 H2 R2 G2 H3 R3 G3
      go_wp2_with fail
      refine (HNM.out _ W4 G4.out R4.out).mono ?_
      rintro e W5 ⟨rfl, hch⟩
      have H5 := Lib.hid (H4.out.pure hch)
      replace y1 := hch.cell y1 (by simp)
      clear hch
      have y24 := Tel.c_seen H5.out.box
      rw [H5.out.seen] at y24
      go_wp2_with fail
      refine (once_any 13 w1 base bt bs p t xs W5 H5.out).mono ?_
      rintro e W6 ⟨rfl, hti, hcs⟩
      rw [Hsn.out]
      have H6 := Lib.hid (hti)
      replace y1 := hcs.cell y1 (by have := HBX.out; have := H.out.o1; simp; omega)
      clear hti y24 hcs
      go_wp2
      go_ret
      exact ⟨rfl, H6.out.chg, fun h => absurd h (by decide)⟩
  · rw [if_neg h0]
    have d0 : (E != 0) = true := by rw [bne_iff_ne]; exact h0
    have NE0 := Lib.hid h0
    clear h0
    have H := Lib.hid (h)
    have Hg := Lib.hid hg
    have RD := Lib.hid rd
    have Hl := Lib.hid hl
    clear hg rd hl
    clear h
    go_enter Tryz.func23, Tryz.ntmps23
    go_wp2_with ((with_reducible refine Lay.bxL (L := cmrL) 67 x ?_ ?_); exact rfl; intro W0 bx ebx cbx xbx; replace ebx := Lib.hid ebx; replace cbx := Lib.hid cbx; replace xbx := Lib.hid xbx; refine Hid.out ?_)
    refine Lib.hid ?_
    have y1 := Cmr.c_bytes xbx.out
    have H0 := Lib.hid (H.out.pure cbx.out)
    have HBX : Hid (base ≤ bx) := Lib.hid (by rw [ebx.out]; exact H.out.o4)
    go_wp2_with fail
    refine (HOP.out _ W0 (Hg.out.frame cbx.out (by simp)) (RD.out.frame cbx.out)).mono ?_
    rintro e W1 ⟨c, rfl, hlo, hcu, hch⟩
    have H1 := Lib.hid (H0.out.pure hch)
    have R1 := Lib.hid ((RD.out.frame cbx.out).frame hch)
    have G1 := Lib.hid ((Hg.out.frame cbx.out (by simp)).frame hch (by simp))
    replace y1 := hch.cell y1 (by simp)
    clear hlo hcu hch
    go_wp2_with fail
    refine (kinds_any W1).mono ?_
    rintro e W2 ⟨b, rfl, hm, hch⟩
    have H2 := Lib.hid (H1.out.pure hch)
    have R2 := Lib.hid (R1.out.frame hch)
    have G2 := Lib.hid (G1.out.frame hch (by simp))
    replace y1 := hch.cell y1 (by simp)
    have Hm := Lib.hid hm
    clear hm
    clear hch
    go_wp2_with ((with_reducible refine get2N Tryz.tKnd Hm.out (13 : Int) HND.out ?_ ?_ ?_); exact rfl; exact rfl; refine Hid.out ?_)
    refine Lib.hid ?_
    go_wp2_with fail
    refine (HKN.out W2).mono ?_
    rintro e W3 ⟨rfl, hch⟩
    have H3 := Lib.hid (H2.out.pure hch)
    have R3 := Lib.hid (R2.out.frame hch)
    have G3 := Lib.hid (G2.out.frame hch (by simp))
    replace y1 := hch.cell y1 (by simp)
    clear hch
    go_wp2_with fail
    refine (HKN.out W3).mono ?_
    rintro e W4 ⟨rfl, hch⟩
    have H4 := Lib.hid (H3.out.pure hch)
    have R4 := Lib.hid (R3.out.frame hch)
    have G4 := Lib.hid (G3.out.frame hch (by simp))
    replace y1 := hch.cell y1 (by simp)
    clear hch H1 R1 G1 H2 R2 G2 H3 R3 G3
    go_wp2_with fail
    refine (HNM.out _ W4 G4.out R4.out).mono ?_
    rintro e W5 ⟨rfl, hch⟩
    have H5 := Lib.hid (H4.out.pure hch)
    replace y1 := hch.cell y1 (by simp)
    clear hch
    go_wp2
    go_ret
    exact ⟨rfl, H5.out.chg, fun h => absurd h NE0.out⟩
set_option maxHeartbeats 4000000 in
theorem tell_entry (x : Cmr) (l : List UInt8) (ho : opE l = 0) (hc : ((n4 l 0 : Nat) : Int) = 2147483688) (hl : l.length ≤ 140737488355328) (w1 : World) (base bt bs : Nat) (p : TP) (t : Tel) (xs : List Seg) (w : World) (h : TInv w1 base bt bs p t xs w) (hg1 : Env w1) (rd1 : byteL.Rd w1 (.slice x.bytes.a x.bytes.n x.bytes.cap) l) :
    Calls Tryz.prog 23 #[.pointer (some ⟨bt, 0, none⟩), cmrL.val x] w (TelSays w1 base bt bs (if p.seen 2147483688 = true then 21 else 0) { seeN p 2147483688 with m := { p.m with entry := n8 l 8, has := true } }) := by
  have h24 : 24 ≤ l.length := by
    have := (opE_len ho).2
    rw [hc] at this
    have h3 : leastF 2147483688 = 24 := by decide
    omega
  have hg := hg1.frame h.chg (by simp)
  have rd := rd1.frame h.chg
  have EG1 := Lib.hid hg1
  have ER1 := Lib.hid rd1
  clear hg1 rd1
  have hop := fun v w hg rd => open_ok l ho hl v w hg rd
  rw [hc] at hop
  have HKN := Lib.hid (fun w => Known_yes 2147483688 (by decide) w)
  have HND : Hid (kindsM 2147483688 = none) := Lib.hid (by decide)
  have HOP := Lib.hid hop
  have Ho := Lib.hid ho
  have Hc := Lib.hid hc
  have H24 := Lib.hid h24
  clear hop ho hc h24
  obtain ⟨sn, hsn⟩ : ∃ sn, p.seen 2147483688 = sn := ⟨_, rfl⟩
  rw [hsn]
  have Hsn := Lib.hid hsn
  clear hsn
  cases sn
  · rw [if_neg (by decide)]
    have H := Lib.hid (h)
    have Hg := Lib.hid hg
    have RD := Lib.hid rd
    have Hl := Lib.hid hl
    clear hg rd hl
    clear h
    go_enter Tryz.func23, Tryz.ntmps23
    go_wp2_with ((with_reducible refine Lay.bxL (L := cmrL) 67 x ?_ ?_); exact rfl; intro W0 bx ebx cbx xbx; replace ebx := Lib.hid ebx; replace cbx := Lib.hid cbx; replace xbx := Lib.hid xbx; refine Hid.out ?_)
    refine Lib.hid ?_
    have y1 := Cmr.c_bytes xbx.out
    have H0 := Lib.hid (H.out.pure cbx.out)
    have HBX : Hid (base ≤ bx) := Lib.hid (by rw [ebx.out]; exact H.out.o4)
    go_wp2_with fail
    refine (HOP.out _ W0 (Hg.out.frame cbx.out (by simp)) (RD.out.frame cbx.out)).mono ?_
    rintro e W1 ⟨c, rfl, hlo, hcu, hch⟩
    have H1 := Lib.hid (H0.out.pure hch)
    have R1 := Lib.hid ((RD.out.frame cbx.out).frame hch)
    have G1 := Lib.hid ((Hg.out.frame cbx.out (by simp)).frame hch (by simp))
    replace y1 := hch.cell y1 (by simp)
    clear hlo hcu hch
    go_wp2_with fail
    refine (kinds_any W1).mono ?_
    rintro e W2 ⟨b, rfl, hm, hch⟩
    have H2 := Lib.hid (H1.out.pure hch)
    have R2 := Lib.hid (R1.out.frame hch)
    have G2 := Lib.hid (G1.out.frame hch (by simp))
    replace y1 := hch.cell y1 (by simp)
    have Hm := Lib.hid hm
    clear hm
    clear hch
    go_wp2_with ((with_reducible refine get2N Tryz.tKnd Hm.out (2147483688 : Int) HND.out ?_ ?_ ?_); exact rfl; exact rfl; refine Hid.out ?_)
    refine Lib.hid ?_
    go_wp2_with fail
    refine (HKN.out W2).mono ?_
    rintro e W3 ⟨rfl, hch⟩
    have H3 := Lib.hid (H2.out.pure hch)
    have R3 := Lib.hid (R2.out.frame hch)
    have G3 := Lib.hid (G2.out.frame hch (by simp))
    replace y1 := hch.cell y1 (by simp)
    clear hch
    go_wp2_with fail
    refine (HKN.out W3).mono ?_
    rintro e W4 ⟨rfl, hch⟩
    have H4 := Lib.hid (H3.out.pure hch)
    have R4 := Lib.hid (R3.out.frame hch)
    have G4 := Lib.hid (G3.out.frame hch (by simp))
    replace y1 := hch.cell y1 (by simp)
    clear hch H1 R1 G1 H2 R2 G2 H3 R3 G3
    have y24 := Tel.c_seen H4.out.box
    rw [H4.out.seen] at y24
    go_wp2_with fail
    refine (once_any 2147483688 w1 base bt bs p t xs W4 H4.out).mono ?_
    rintro e W6 ⟨rfl, hti, hcs⟩
    rw [Hsn.out]
    have H6 := Lib.hid (hti)
    replace y1 := hcs.cell y1 (by have := HBX.out; have := H.out.o1; simp; omega)
    clear hti y24 hcs
    go_wp2_with fail
    refine (HOP.out _ W6 (EG1.out.frame H6.out.chg (by simp)) (ER1.out.frame H6.out.chg)).mono ?_
    rintro e W7 ⟨c2, rfl, hlo, hcu, hch⟩
    have H7 := Lib.hid (H6.out.pure hch)
    have C67 := Lib.hid (hch)
    have CU7 := Lib.hid (hcu)
    have HLO := Lib.hid (hlo)
    clear hlo hcu hch y1
    go_upto_region 29 with fail
    go_wp2_with fail
    refine (num8_at c2 l 8 16 _ CU7.out (by have := H24.out; omega) rfl).mono ?_
    rintro e W8 ⟨rfl, _, hch⟩
    have H8 := Lib.hid (H6.out.pure (C67.out.new hch HLO.out))
    clear hch
    have y22 := Tel.c_entry H8.out.box
    have z22 := H8.out.box.frozen 22
    have y23 := Tel.c_has H8.out.box
    have z23 := H8.out.box.frozen 23
    go_upto_region 30 with fail
    refine Lay.with_world (fun W => TInv w1 base bt bs { seeN p 2147483688 with m := { p.m with entry := n8 l 8, has := true } } { t with m := { t.m with entry := n8 l 8, has := true } } xs W) ?_ (fun W9 hW => ?_)
    · exact H8.out.upd (q := { seeN p 2147483688 with m := { p.m with entry := n8 l 8, has := true } }) (((Chg.refl _ _).setCell _ _ (.inl (by simp))).setCell _ _ (.inl (by simp))) (Tel.set_has (Tel.set_entry H8.out.box (n8 l 8 : Int)) true) rfl H8.out.secs (by show _ = ({ p.m with entry := n8 l 8, has := true } : Img); rw [show p.m = t.m.bare from H8.out.m.symm]; rfl) rfl rfl rfl rfl rfl H8.out.l3
    · clear y22 z22 y23 z23
      have H9 := Lib.hid hW
      clear hW
      go_wp2
      go_ret
      exact ⟨rfl, H9.out.chg, fun _ => ⟨_, _, H9.out⟩⟩
  · rw [if_pos rfl]
    have H := Lib.hid (h)
    have Hg := Lib.hid hg
    have RD := Lib.hid rd
    have Hl := Lib.hid hl
    clear hg rd hl
    clear h
    go_enter Tryz.func23, Tryz.ntmps23
    go_wp2_with ((with_reducible refine Lay.bxL (L := cmrL) 67 x ?_ ?_); exact rfl; intro W0 bx ebx cbx xbx; replace ebx := Lib.hid ebx; replace cbx := Lib.hid cbx; replace xbx := Lib.hid xbx; refine Hid.out ?_)
    refine Lib.hid ?_
    have y1 := Cmr.c_bytes xbx.out
    have H0 := Lib.hid (H.out.pure cbx.out)
    have HBX : Hid (base ≤ bx) := Lib.hid (by rw [ebx.out]; exact H.out.o4)
    go_wp2_with fail
    refine (HOP.out _ W0 (Hg.out.frame cbx.out (by simp)) (RD.out.frame cbx.out)).mono ?_
    rintro e W1 ⟨c, rfl, hlo, hcu, hch⟩
    have H1 := Lib.hid (H0.out.pure hch)
    have R1 := Lib.hid ((RD.out.frame cbx.out).frame hch)
    have G1 := Lib.hid ((Hg.out.frame cbx.out (by simp)).frame hch (by simp))
    replace y1 := hch.cell y1 (by simp)
    clear hlo hcu hch
    go_wp2_with fail
    refine (kinds_any W1).mono ?_
    rintro e W2 ⟨b, rfl, hm, hch⟩
    have H2 := Lib.hid (H1.out.pure hch)
    have R2 := Lib.hid (R1.out.frame hch)
    have G2 := Lib.hid (G1.out.frame hch (by simp))
    replace y1 := hch.cell y1 (by simp)
    have Hm := Lib.hid hm
    clear hm
    clear hch
    go_wp2_with ((with_reducible refine get2N Tryz.tKnd Hm.out (2147483688 : Int) HND.out ?_ ?_ ?_); exact rfl; exact rfl; refine Hid.out ?_)
    refine Lib.hid ?_
    go_wp2_with fail
    refine (HKN.out W2).mono ?_
    rintro e W3 ⟨rfl, hch⟩
    have H3 := Lib.hid (H2.out.pure hch)
    have R3 := Lib.hid (R2.out.frame hch)
    have G3 := Lib.hid (G2.out.frame hch (by simp))
    replace y1 := hch.cell y1 (by simp)
    clear hch
    go_wp2_with fail
    refine (HKN.out W3).mono ?_
    rintro e W4 ⟨rfl, hch⟩
    have H4 := Lib.hid (H3.out.pure hch)
    have R4 := Lib.hid (R3.out.frame hch)
    have G4 := Lib.hid (G3.out.frame hch (by simp))
    replace y1 := hch.cell y1 (by simp)
    clear hch H1 R1 G1 H2 R2 G2 H3 R3 G3
    have y24 := Tel.c_seen H4.out.box
    rw [H4.out.seen] at y24
    go_wp2_with fail
    refine (once_any 2147483688 w1 base bt bs p t xs W4 H4.out).mono ?_
    rintro e W6 ⟨rfl, hti, hcs⟩
    rw [Hsn.out]
    have H6 := Lib.hid (hti)
    replace y1 := hcs.cell y1 (by have := HBX.out; have := H.out.o1; simp; omega)
    clear hti y24 hcs
    go_wp2
    go_ret
    exact ⟨rfl, H6.out.chg, fun h => absurd h (by decide)⟩
end Go.Proofs.YtgjlgamlmmjdpaaGreatDoor
