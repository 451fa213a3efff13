/- Lemmas, laid together: part 24 of 38. Conditions: none but each lemma's own. -/
import Derived.Test.YtgjlgamlmmjdpaaDoorJ23
/- load: tell, spans; whatever the command. -/
namespace Go.Proofs.YtgjlgamlmmjdpaaDoor
open Go.RowKit
set_option maxRecDepth 100000

/-- A command of spans that may stand once. -/
theorem tell_once (x : Cmr) (l : List UInt8) (k key : Int) (E : Int) (q : TP) (hk : ¬ leastF k = 0) (hdk : depK k = 0) (h25 : ¬ k = 25) (h13 : ¬ k = 13) (htr : ¬ k = 2147483699) (hen : ¬ k = 2147483688) (hkey : key = keyC k) (ho : opE l = 0) (hc : ((n4 l 0 : Nat) : Int) = k) (hl : l.length ≤ 140737488355328) (w1 : World) (base bt bs : Nat) (p : TP) (t : Tel) (xs : List Seg) (w : World)
    (hsp : ∀ w t xs, TInv w1 base bt bs (seeN p key) t xs w → Env w → byteL.Rd w (.slice x.bytes.a x.bytes.n x.bytes.cap) l → Calls Tryd.prog 29 #[.pointer (some ⟨bt, 0, none⟩), .int .u32 k, .slice x.bytes.a x.bytes.n x.bytes.cap] w (TelSays w1 base bt bs E q))
    (h : TInv w1 base bt bs p t xs w) (hg1 : Env w1) (rd1 : byteL.Rd w1 (.slice x.bytes.a x.bytes.n x.bytes.cap) l) :
    Calls Tryd.prog 14 #[.pointer (some ⟨bt, 0, none⟩), cmrL.val x] w (TelSays w1 base bt bs (if p.seen key = true then 21 else E) q) := by
  have hg := hg1.frame h.chg (by simp)
  have rd := rd1.frame h.chg
  have EG1 := Lib.hid hg1
  have ER1 := Lib.hid rd1
  clear hg1 rd1
  have hop := fun v w hg rd => open_ok l ho hl v w hg rd
  rw [hc] at hop
  have HKN := Lib.hid (fun w => Known_yes k hk w)
  have HND : Hid (kindsM k = none) := Lib.hid (by unfold kindsM; rw [if_pos hdk])
  have e1 : (k == 25) = false := by rw [beq_eq_false_iff_ne]; exact h25
  have e2 : (k == 13) = false := by rw [beq_eq_false_iff_ne]; exact h13
  have e3 : (k == 2147483688) = false := by rw [beq_eq_false_iff_ne]; exact hen
  have e4 : (k != 2147483699) = true := by rw [bne_iff_ne]; exact htr
  have HOP := Lib.hid hop
  have Ho := Lib.hid ho
  have Hc := Lib.hid hc
  have Hk := Lib.hid hk
  have Hdk := Lib.hid hdk
  have H25 := Lib.hid h25
  have H13 := Lib.hid h13
  have Htr := Lib.hid htr
  have Hen := Lib.hid hen
  clear hop ho hc hk hdk h25 h13 htr hen
  obtain ⟨sn, hsn⟩ : ∃ sn, p.seen key = sn := ⟨_, rfl⟩
  rw [hsn]
  by_cases hk2 : k = 2147483682
  · have hkk : key = 34 := by rw [hkey, hk2]; rfl
    subst hk2
    subst hkk
    clear hkey e1 e2 e3 e4
    have Hsn := Lib.hid hsn
    have HSP := Lib.hid hsp
    clear hsn hsp
    cases sn
    · rw [if_neg (by decide)]
      have H := Lib.hid (h)
      have Hg := Lib.hid hg
      have RD := Lib.hid rd
      have Hl := Lib.hid hl
      clear hg rd hl
      clear h
      go_enter Tryd.func14, Tryd.ntmps14
      go_wp2_with ((with_reducible refine Lay.bxL (L := cmrL) 52 x ?_ ?_); exact rfl; intro W0 bx ebx cbx xbx; replace ebx := Lib.hid ebx; replace cbx := Lib.hid cbx; replace xbx := Lib.hid xbx; refine Hid.out ?_)
      refine Lib.hid ?_
      have y1 := Cmr.c_bytes xbx.out
      have H0 := Lib.hid (H.out.pure cbx.out)
      have HBX : Hid (base ≤ bx) := Lib.hid (by rw [ebx.out]; exact H.out.o4)
      go_wp2_with fail
      refine (HOP.out _ W0 (Hg.out.frame cbx.out (by simp)) (RD.out.frame cbx.out)).mono ?_
      rintro e W1 ⟨c, rfl, hlo, hcu, hch⟩
      have H1 := Lib.hid (H0.out.pure hch)
      have R1 := Lib.hid ((RD.out.frame cbx.out).frame hch)
      have G1 := Lib.hid ((Hg.out.frame cbx.out (by simp)).frame hch (by simp))
      replace y1 := hch.cell y1 (by simp)
      clear hlo hcu hch
      go_wp2_with fail
      refine (kinds_any W1).mono ?_
      rintro e W2 ⟨b, rfl, hm, hch⟩
      have H2 := Lib.hid (H1.out.pure hch)
      have R2 := Lib.hid (R1.out.frame hch)
      have G2 := Lib.hid (G1.out.frame hch (by simp))
      replace y1 := hch.cell y1 (by simp)
      have Hm := Lib.hid hm
      clear hm
      clear hch
      go_wp2_with ((with_reducible refine get2N Tryd.tKnd Hm.out (2147483682 : Int) HND.out ?_ ?_ ?_); exact rfl; exact rfl; refine Hid.out ?_)
      refine Lib.hid ?_
      go_wp2_with fail
      refine (HKN.out W2).mono ?_
      rintro e W3 ⟨rfl, hch⟩
      have H3 := Lib.hid (H2.out.pure hch)
      have R3 := Lib.hid (R2.out.frame hch)
      have G3 := Lib.hid (G2.out.frame hch (by simp))
      replace y1 := hch.cell y1 (by simp)
      clear hch
      go_wp2_with fail
      refine (HKN.out W3).mono ?_
      rintro e W4 ⟨rfl, hch⟩
      have H4 := Lib.hid (H3.out.pure hch)
      have R4 := Lib.hid (R3.out.frame hch)
      have G4 := Lib.hid (G3.out.frame hch (by simp))
      replace y1 := hch.cell y1 (by simp)
      clear hch H1 R1 G1 H2 R2 G2 H3 R3 G3
      have y24 := Tel.c_seen H4.out.box
      rw [H4.out.seen] at y24
      go_wp2_with fail
      refine (once_any 34 w1 base bt bs p t xs W4 H4.out).mono ?_
      rintro e W6 ⟨rfl, hti, hcs⟩
      rw [Hsn.out]
      have H6 := Lib.hid (hti)
      replace y1 := hcs.cell y1 (by have := HBX.out; have := H.out.o1; simp; omega)
      clear hti y24 hcs
      go_wp2_with fail
      refine (HSP.out W6 _ _ H6.out (EG1.out.frame H6.out.chg (by simp)) (ER1.out.frame H6.out.chg)).mono ?_
      rintro e W7 ⟨rfl, hc, ht⟩
      have C7 := Lib.hid hc
      have T7 := Lib.hid ht
      clear hc ht
      go_wp2
      go_ret
      exact ⟨rfl, C7.out, T7.out⟩
    · rw [if_pos rfl]
      have H := Lib.hid (h)
      have Hg := Lib.hid hg
      have RD := Lib.hid rd
      have Hl := Lib.hid hl
      clear hg rd hl
      clear h
      go_enter Tryd.func14, Tryd.ntmps14
      go_wp2_with ((with_reducible refine Lay.bxL (L := cmrL) 52 x ?_ ?_); exact rfl; intro W0 bx ebx cbx xbx; replace ebx := Lib.hid ebx; replace cbx := Lib.hid cbx; replace xbx := Lib.hid xbx; refine Hid.out ?_)
      refine Lib.hid ?_
      have y1 := Cmr.c_bytes xbx.out
      have H0 := Lib.hid (H.out.pure cbx.out)
      have HBX : Hid (base ≤ bx) := Lib.hid (by rw [ebx.out]; exact H.out.o4)
      go_wp2_with fail
      refine (HOP.out _ W0 (Hg.out.frame cbx.out (by simp)) (RD.out.frame cbx.out)).mono ?_
      rintro e W1 ⟨c, rfl, hlo, hcu, hch⟩
      have H1 := Lib.hid (H0.out.pure hch)
      have R1 := Lib.hid ((RD.out.frame cbx.out).frame hch)
      have G1 := Lib.hid ((Hg.out.frame cbx.out (by simp)).frame hch (by simp))
      replace y1 := hch.cell y1 (by simp)
      clear hlo hcu hch
      go_wp2_with fail
      refine (kinds_any W1).mono ?_
      rintro e W2 ⟨b, rfl, hm, hch⟩
      have H2 := Lib.hid (H1.out.pure hch)
      have R2 := Lib.hid (R1.out.frame hch)
      have G2 := Lib.hid (G1.out.frame hch (by simp))
      replace y1 := hch.cell y1 (by simp)
      have Hm := Lib.hid hm
      clear hm
      clear hch
      go_wp2_with ((with_reducible refine get2N Tryd.tKnd Hm.out (2147483682 : Int) HND.out ?_ ?_ ?_); exact rfl; exact rfl; refine Hid.out ?_)
      refine Lib.hid ?_
      go_wp2_with fail
      refine (HKN.out W2).mono ?_
      rintro e W3 ⟨rfl, hch⟩
      have H3 := Lib.hid (H2.out.pure hch)
      have R3 := Lib.hid (R2.out.frame hch)
      have G3 := Lib.hid (G2.out.frame hch (by simp))
      replace y1 := hch.cell y1 (by simp)
      clear hch
      go_wp2_with fail
      refine (HKN.out W3).mono ?_
      rintro e W4 ⟨rfl, hch⟩
      have H4 := Lib.hid (H3.out.pure hch)
      have R4 := Lib.hid (R3.out.frame hch)
      have G4 := Lib.hid (G3.out.frame hch (by simp))
      replace y1 := hch.cell y1 (by simp)
      clear hch H1 R1 G1 H2 R2 G2 H3 R3 G3
      have y24 := Tel.c_seen H4.out.box
      rw [H4.out.seen] at y24
      go_wp2_with fail
      refine (once_any 34 w1 base bt bs p t xs W4 H4.out).mono ?_
      rintro e W6 ⟨rfl, hti, hcs⟩
      rw [Hsn.out]
      have H6 := Lib.hid (hti)
      replace y1 := hcs.cell y1 (by have := HBX.out; have := H.out.o1; simp; omega)
      clear hti y24 hcs
      go_wp2
      go_ret
      exact ⟨rfl, H6.out.chg, fun h => absurd h (by decide)⟩
  · have hkk : key = k := by rw [hkey]; unfold keyC; rw [if_neg hk2]
    subst hkk
    have e5 : (key == 2147483682) = false := by rw [beq_eq_false_iff_ne]; exact hk2
    clear hkey
    have Hsn := Lib.hid hsn
    have HSP := Lib.hid hsp
    have Hk2 := Lib.hid hk2
    clear hsn hsp hk2
    cases sn
    · rw [if_neg (by decide)]
      have H := Lib.hid (h)
      have Hg := Lib.hid hg
      have RD := Lib.hid rd
      have Hl := Lib.hid hl
      clear hg rd hl
      clear h
      go_enter Tryd.func14, Tryd.ntmps14
      go_wp2_with ((with_reducible refine Lay.bxL (L := cmrL) 52 x ?_ ?_); exact rfl; intro W0 bx ebx cbx xbx; replace ebx := Lib.hid ebx; replace cbx := Lib.hid cbx; replace xbx := Lib.hid xbx; refine Hid.out ?_)
      refine Lib.hid ?_
      have y1 := Cmr.c_bytes xbx.out
      have H0 := Lib.hid (H.out.pure cbx.out)
      have HBX : Hid (base ≤ bx) := Lib.hid (by rw [ebx.out]; exact H.out.o4)
      go_wp2_with fail
      refine (HOP.out _ W0 (Hg.out.frame cbx.out (by simp)) (RD.out.frame cbx.out)).mono ?_
      rintro e W1 ⟨c, rfl, hlo, hcu, hch⟩
      have H1 := Lib.hid (H0.out.pure hch)
      have R1 := Lib.hid ((RD.out.frame cbx.out).frame hch)
      have G1 := Lib.hid ((Hg.out.frame cbx.out (by simp)).frame hch (by simp))
      replace y1 := hch.cell y1 (by simp)
      clear hlo hcu hch
      go_wp2_with fail
      refine (kinds_any W1).mono ?_
      rintro e W2 ⟨b, rfl, hm, hch⟩
      have H2 := Lib.hid (H1.out.pure hch)
      have R2 := Lib.hid (R1.out.frame hch)
      have G2 := Lib.hid (G1.out.frame hch (by simp))
      replace y1 := hch.cell y1 (by simp)
      have Hm := Lib.hid hm
      clear hm
      clear hch
      go_wp2_with ((with_reducible refine get2N Tryd.tKnd Hm.out key HND.out ?_ ?_ ?_); exact rfl; exact rfl; refine Hid.out ?_)
      refine Lib.hid ?_
      go_wp2_with fail
      refine (HKN.out W2).mono ?_
      rintro e W3 ⟨rfl, hch⟩
      have H3 := Lib.hid (H2.out.pure hch)
      have R3 := Lib.hid (R2.out.frame hch)
      have G3 := Lib.hid (G2.out.frame hch (by simp))
      replace y1 := hch.cell y1 (by simp)
      clear hch
      go_wp2_with fail
      refine (HKN.out W3).mono ?_
      rintro e W4 ⟨rfl, hch⟩
      have H4 := Lib.hid (H3.out.pure hch)
      have R4 := Lib.hid (R3.out.frame hch)
      have G4 := Lib.hid (G3.out.frame hch (by simp))
      replace y1 := hch.cell y1 (by simp)
      clear hch H1 R1 G1 H2 R2 G2 H3 R3 G3
      have y24 := Tel.c_seen H4.out.box
      rw [H4.out.seen] at y24
      go_wp2_with fail
      refine (once_any key w1 base bt bs p t xs W4 H4.out).mono ?_
      rintro e W6 ⟨rfl, hti, hcs⟩
      rw [Hsn.out]
      have H6 := Lib.hid (hti)
      replace y1 := hcs.cell y1 (by have := HBX.out; have := H.out.o1; simp; omega)
      clear hti y24 hcs
      go_wp2_with fail
      refine (HSP.out W6 _ _ H6.out (EG1.out.frame H6.out.chg (by simp)) (ER1.out.frame H6.out.chg)).mono ?_
      rintro e W7 ⟨rfl, hc, ht⟩
      have C7 := Lib.hid hc
      have T7 := Lib.hid ht
      clear hc ht
      go_wp2
      go_ret
      exact ⟨rfl, C7.out, T7.out⟩
    · rw [if_pos rfl]
      have H := Lib.hid (h)
      have Hg := Lib.hid hg
      have RD := Lib.hid rd
      have Hl := Lib.hid hl
      clear hg rd hl
      clear h
      go_enter Tryd.func14, Tryd.ntmps14
      go_wp2_with ((with_reducible refine Lay.bxL (L := cmrL) 52 x ?_ ?_); exact rfl; intro W0 bx ebx cbx xbx; replace ebx := Lib.hid ebx; replace cbx := Lib.hid cbx; replace xbx := Lib.hid xbx; refine Hid.out ?_)
      refine Lib.hid ?_
      have y1 := Cmr.c_bytes xbx.out
      have H0 := Lib.hid (H.out.pure cbx.out)
      have HBX : Hid (base ≤ bx) := Lib.hid (by rw [ebx.out]; exact H.out.o4)
      go_wp2_with fail
      refine (HOP.out _ W0 (Hg.out.frame cbx.out (by simp)) (RD.out.frame cbx.out)).mono ?_
      rintro e W1 ⟨c, rfl, hlo, hcu, hch⟩
      have H1 := Lib.hid (H0.out.pure hch)
      have R1 := Lib.hid ((RD.out.frame cbx.out).frame hch)
      have G1 := Lib.hid ((Hg.out.frame cbx.out (by simp)).frame hch (by simp))
      replace y1 := hch.cell y1 (by simp)
      clear hlo hcu hch
      go_wp2_with fail
      refine (kinds_any W1).mono ?_
      rintro e W2 ⟨b, rfl, hm, hch⟩
      have H2 := Lib.hid (H1.out.pure hch)
      have R2 := Lib.hid (R1.out.frame hch)
      have G2 := Lib.hid (G1.out.frame hch (by simp))
      replace y1 := hch.cell y1 (by simp)
      have Hm := Lib.hid hm
      clear hm
      clear hch
      go_wp2_with ((with_reducible refine get2N Tryd.tKnd Hm.out key HND.out ?_ ?_ ?_); exact rfl; exact rfl; refine Hid.out ?_)
      refine Lib.hid ?_
      go_wp2_with fail
      refine (HKN.out W2).mono ?_
      rintro e W3 ⟨rfl, hch⟩
      have H3 := Lib.hid (H2.out.pure hch)
      have R3 := Lib.hid (R2.out.frame hch)
      have G3 := Lib.hid (G2.out.frame hch (by simp))
      replace y1 := hch.cell y1 (by simp)
      clear hch
      go_wp2_with fail
      refine (HKN.out W3).mono ?_
      rintro e W4 ⟨rfl, hch⟩
      have H4 := Lib.hid (H3.out.pure hch)
      have R4 := Lib.hid (R3.out.frame hch)
      have G4 := Lib.hid (G3.out.frame hch (by simp))
      replace y1 := hch.cell y1 (by simp)
      clear hch H1 R1 G1 H2 R2 G2 H3 R3 G3
      have y24 := Tel.c_seen H4.out.box
      rw [H4.out.seen] at y24
      go_wp2_with fail
      refine (once_any key w1 base bt bs p t xs W4 H4.out).mono ?_
      rintro e W6 ⟨rfl, hti, hcs⟩
      rw [Hsn.out]
      have H6 := Lib.hid (hti)
      replace y1 := hcs.cell y1 (by have := HBX.out; have := H.out.o1; simp; omega)
      clear hti y24 hcs
      go_wp2
      go_ret
      exact ⟨rfl, H6.out.chg, fun h => absurd h (by decide)⟩
theorem tell_trie (x : Cmr) (l : List UInt8) (ho : opE l = 0) (hc : ((n4 l 0 : Nat) : Int) = 2147483699) (hl : l.length ≤ 140737488355328) (w1 : World) (base bt bs : Nat) (p : TP) (t : Tel) (xs : List Seg) (w : World)
    (h : TInv w1 base bt bs p t xs w) (hg1 : Env w1) (rd1 : byteL.Rd w1 (.slice x.bytes.a x.bytes.n x.bytes.cap) l) :
    Calls Tryd.prog 14 #[.pointer (some ⟨bt, 0, none⟩), cmrL.val x] w (TelSays w1 base bt bs (trE p (spAt l 0)) (trQ p (spAt l 0))) := by
  have hg := hg1.frame h.chg (by simp)
  have rd := rd1.frame h.chg
  have EG1 := Lib.hid hg1
  have ER1 := Lib.hid rd1
  clear hg1 rd1
  have hop := fun v w hg rd => open_ok l ho hl v w hg rd
  rw [hc] at hop
  have HSP := Lib.hid (fun w h hg rd => spans_tr l (spAt l 0) (fun v w hg rd => Spans_1 l ho (.inl hc) hl v w hg rd) (.slice x.bytes.a x.bytes.n x.bytes.cap) w1 base bt bs p t xs w h hg rd)
  have HKN := Lib.hid (fun w => Known_yes 2147483699 (by decide) w)
  have HND : Hid (kindsM 2147483699 = none) := Lib.hid (by decide)
  have HOP := Lib.hid hop
  have Ho := Lib.hid ho
  have Hc := Lib.hid hc
  clear hop ho hc
  have H := Lib.hid (h)
  have Hg := Lib.hid hg
  have RD := Lib.hid rd
  have Hl := Lib.hid hl
  clear hg rd hl
  clear h
  go_enter Tryd.func14, Tryd.ntmps14
  go_wp2_with ((with_reducible refine Lay.bxL (L := cmrL) 52 x ?_ ?_); exact rfl; intro W0 bx ebx cbx xbx; replace ebx := Lib.hid ebx; replace cbx := Lib.hid cbx; replace xbx := Lib.hid xbx; refine Hid.out ?_)
  refine Lib.hid ?_
  have y1 := Cmr.c_bytes xbx.out
  have H0 := Lib.hid (H.out.pure cbx.out)
  have HBX : Hid (base ≤ bx) := Lib.hid (by rw [ebx.out]; exact H.out.o4)
  go_wp2_with fail
  refine (HOP.out _ W0 (Hg.out.frame cbx.out (by simp)) (RD.out.frame cbx.out)).mono ?_
  rintro e W1 ⟨c, rfl, hlo, hcu, hch⟩
  have H1 := Lib.hid (H0.out.pure hch)
  have R1 := Lib.hid ((RD.out.frame cbx.out).frame hch)
  have G1 := Lib.hid ((Hg.out.frame cbx.out (by simp)).frame hch (by simp))
  replace y1 := hch.cell y1 (by simp)
  clear hlo hcu hch
  go_wp2_with fail
  refine (kinds_any W1).mono ?_
  rintro e W2 ⟨b, rfl, hm, hch⟩
  have H2 := Lib.hid (H1.out.pure hch)
  have R2 := Lib.hid (R1.out.frame hch)
  have G2 := Lib.hid (G1.out.frame hch (by simp))
  replace y1 := hch.cell y1 (by simp)
  have Hm := Lib.hid hm
  clear hm
  clear hch
  go_wp2_with ((with_reducible refine get2N Tryd.tKnd Hm.out (2147483699 : Int) HND.out ?_ ?_ ?_); exact rfl; exact rfl; refine Hid.out ?_)
  refine Lib.hid ?_
  go_wp2_with fail
  refine (HKN.out W2).mono ?_
  rintro e W3 ⟨rfl, hch⟩
  have H3 := Lib.hid (H2.out.pure hch)
  have R3 := Lib.hid (R2.out.frame hch)
  have G3 := Lib.hid (G2.out.frame hch (by simp))
  replace y1 := hch.cell y1 (by simp)
  clear hch
  go_wp2_with fail
  refine (HKN.out W3).mono ?_
  rintro e W4 ⟨rfl, hch⟩
  have H4 := Lib.hid (H3.out.pure hch)
  have R4 := Lib.hid (R3.out.frame hch)
  have G4 := Lib.hid (G3.out.frame hch (by simp))
  replace y1 := hch.cell y1 (by simp)
  clear hch H1 R1 G1 H2 R2 G2 H3 R3 G3
  go_wp2_with fail
  refine (HSP.out W4 H4.out G4.out R4.out).mono ?_
  rintro e W7 ⟨rfl, hc, ht⟩
  have C7 := Lib.hid hc
  have T7 := Lib.hid ht
  clear hc ht
  go_wp2
  go_ret
  exact ⟨rfl, C7.out, T7.out⟩
/-- tell, whatever the command. -/
theorem tell_any (x : Cmr) (l : List UInt8) (hl : l.length ≤ 140737488355328) (w1 : World) (base bt bs : Nat) (p : TP) (t : Tel) (xs : List Seg) (w : World) (h : TInv w1 base bt bs p t xs w) (hg1 : Env w1) (rd1 : byteL.Rd w1 (.slice x.bytes.a x.bytes.n x.bytes.cap) l) :
    Calls Tryd.prog 14 #[.pointer (some ⟨bt, 0, none⟩), cmrL.val x] w (TelSays w1 base bt bs (tE p l) (tS p l)) := by
  have hg := hg1.frame h.chg (by simp)
  have rd := rd1.frame h.chg
  by_cases ho : opE l = 0
  · by_cases hk : leastF (n4 l 0) = 0
    · have h1 : tE p l = if 2147483648 ≤ n4 l 0 then 7 else 0 := by unfold tE; rw [if_neg (by simp [ho]), if_pos hk]
      have h2 : tS p l = p := by unfold tS; rw [if_pos hk]
      rw [h1, h2]
      exact tell_unk x l ho hk hl w1 base bt bs p t xs w h hg rd
    · have hcs := known_cases hk
      rcases hcs with hc | hc | hc | hc | hc | hc | hc | hc | hc | hc | hc | hc
      · have hn : n4 l 0 = 25 := by omega
        have hE : tE p l = tE p l := rfl
        conv at hE => rhs; unfold tE; rw [if_neg (by simp [ho]), if_neg hk, hn, if_pos rfl]
        have hS : tS p l = tS p l := rfl
        conv at hS => rhs; unfold tS; rw [if_neg hk, hn, if_pos rfl]
        rw [hE, hS]
        exact tell_seg x l ho hc hl w1 base bt bs p t xs w h hg rd
      · have hn : n4 l 0 = 12 := by omega
        have hE : tE p l = tE p l := rfl
        conv at hE => rhs; unfold tE; rw [if_neg (by simp [ho]), if_neg hk, hn, if_neg (by decide), if_pos (by decide)]
        have hS : tS p l = tS p l := rfl
        conv at hS => rhs; unfold tS; rw [if_neg hk, hn, if_neg (by decide), if_pos (by decide)]
        rw [hE, hS]
        exact tell_dep x l 12 1 (by decide) rfl (by decide) ho hc hl w1 base bt bs p t xs w h hg rd
      · have hn : n4 l 0 = 2147483672 := by omega
        have hE : tE p l = tE p l := rfl
        conv at hE => rhs; unfold tE; rw [if_neg (by simp [ho]), if_neg hk, hn, if_neg (by decide), if_pos (by decide)]
        have hS : tS p l = tS p l := rfl
        conv at hS => rhs; unfold tS; rw [if_neg hk, hn, if_neg (by decide), if_pos (by decide)]
        rw [hE, hS]
        exact tell_dep x l 2147483672 2 (by decide) rfl (by decide) ho hc hl w1 base bt bs p t xs w h hg rd
      · have hn : n4 l 0 = 2147483679 := by omega
        have hE : tE p l = tE p l := rfl
        conv at hE => rhs; unfold tE; rw [if_neg (by simp [ho]), if_neg hk, hn, if_neg (by decide), if_pos (by decide)]
        have hS : tS p l = tS p l := rfl
        conv at hS => rhs; unfold tS; rw [if_neg hk, hn, if_neg (by decide), if_pos (by decide)]
        rw [hE, hS]
        exact tell_dep x l 2147483679 3 (by decide) rfl (by decide) ho hc hl w1 base bt bs p t xs w h hg rd
      · have hn : n4 l 0 = 2147483683 := by omega
        have hE : tE p l = tE p l := rfl
        conv at hE => rhs; unfold tE; rw [if_neg (by simp [ho]), if_neg hk, hn, if_neg (by decide), if_pos (by decide)]
        have hS : tS p l = tS p l := rfl
        conv at hS => rhs; unfold tS; rw [if_neg hk, hn, if_neg (by decide), if_pos (by decide)]
        rw [hE, hS]
        exact tell_dep x l 2147483683 4 (by decide) rfl (by decide) ho hc hl w1 base bt bs p t xs w h hg rd
      · have hn : n4 l 0 = 13 := by omega
        have hE : tE p l = tE p l := rfl
        conv at hE => rhs; unfold tE; rw [if_neg (by simp [ho]), if_neg hk, hn, if_neg (by decide), if_neg (by decide), if_pos rfl]
        have hS : tS p l = tS p l := rfl
        conv at hS => rhs; unfold tS; rw [if_neg hk, hn, if_neg (by decide), if_neg (by decide), if_pos rfl]
        rw [hE, hS]
        exact tell_name x l ho hc hl w1 base bt bs p t xs w h hg1 rd1
      · have hn : n4 l 0 = 2147483699 := by omega
        have hE : tE p l = tE p l := rfl
        conv at hE => rhs; unfold tE; rw [if_neg (by simp [ho]), if_neg hk, hn, if_neg (by decide), if_neg (by decide), if_neg (by decide), if_pos rfl]
        have hS : tS p l = tS p l := rfl
        conv at hS => rhs; unfold tS; rw [if_neg hk, hn, if_neg (by decide), if_neg (by decide), if_neg (by decide), if_pos rfl]
        rw [hE, hS]
        exact tell_trie x l ho hc hl w1 base bt bs p t xs w h hg1 rd1
      · have hn : n4 l 0 = 2147483688 := by omega
        have hE : tE p l = tE p l := rfl
        conv at hE => rhs; unfold tE; rw [if_neg (by simp [ho]), if_neg hk, hn, if_neg (by decide), if_neg (by decide), if_neg (by decide), if_neg (by decide), if_neg (by decide : ¬ (2147483688 = 34 ∨ 2147483688 = 2147483682))]
        have hS : tS p l = tS p l := rfl
        conv at hS => rhs; unfold tS; rw [if_neg hk, hn, if_neg (by decide), if_neg (by decide), if_neg (by decide), if_neg (by decide), if_pos rfl]
        rw [hE, hS]
        exact tell_entry x l ho hc hl w1 base bt bs p t xs w h hg1 rd1
      · have hn : n4 l 0 = 2 := by omega
        have hE : tE p l = tE p l := rfl
        conv at hE => rhs; unfold tE; rw [if_neg (by simp [ho]), if_neg hk, hn, if_neg (by decide), if_neg (by decide), if_neg (by decide), if_neg (by decide), if_neg (by decide : ¬ (2 = 34 ∨ 2 = 2147483682))]
        have hS : tS p l = tS p l := rfl
        conv at hS => rhs; unfold tS; rw [if_neg hk, hn, if_neg (by decide), if_neg (by decide), if_neg (by decide), if_neg (by decide), if_neg (by decide), if_pos rfl]
        rw [hE, hS]
        exact tell_once x l 2 2 0 _ (by decide) (by decide) (by decide) (by decide) (by decide) (by decide) rfl ho hc hl w1 base bt bs p t xs w
          (fun w t xs h hg rd => spans_sy l ⟨n4 l 8, (n4 l 12 : Int) * 16⟩ (spAt l 1) (fun v w hg rd => Spans_2 l ho hc hl v w hg rd) _ w1 base bt bs (seeN p 2) t xs w h hg rd) h hg1 rd1
      · have hn : n4 l 0 = 2147483700 := by omega
        have hE : tE p l = tE p l := rfl
        conv at hE => rhs; unfold tE; rw [if_neg (by simp [ho]), if_neg hk, hn, if_neg (by decide), if_neg (by decide), if_neg (by decide), if_neg (by decide), if_neg (by decide : ¬ (2147483700 = 34 ∨ 2147483700 = 2147483682))]
        have hS : tS p l = tS p l := rfl
        conv at hS => rhs; unfold tS; rw [if_neg hk, hn, if_neg (by decide), if_neg (by decide), if_neg (by decide), if_neg (by decide), if_neg (by decide), if_neg (by decide), if_pos rfl]
        rw [hE, hS]
        exact tell_once x l 2147483700 2147483700 0 _ (by decide) (by decide) (by decide) (by decide) (by decide) (by decide) rfl ho hc hl w1 base bt bs p t xs w
          (fun w t xs h hg rd => spans_ch l (spAt l 0) (fun v w hg rd => Spans_1 l ho (.inr hc) hl v w hg rd) _ w1 base bt bs (seeN p 2147483700) t xs w h hg rd) h hg1 rd1
      · have hn : n4 l 0 = 34 := by omega
        have hE : tE p l = tE p l := rfl
        conv at hE => rhs; unfold tE; rw [if_neg (by simp [ho]), if_neg hk, hn, if_neg (by decide), if_neg (by decide), if_neg (by decide), if_neg (by decide), if_pos (by decide : (34 = 34 ∨ 34 = 2147483682))]
        have hS : tS p l = tS p l := rfl
        conv at hS => rhs; unfold tS; rw [if_neg hk, hn, if_neg (by decide), if_neg (by decide), if_neg (by decide), if_neg (by decide), if_neg (by decide), if_neg (by decide), if_neg (by decide)]
        rw [hE, hS]
        exact tell_once x l 34 34 _ _ (by decide) (by decide) (by decide) (by decide) (by decide) (by decide) rfl ho hc hl w1 base bt bs p t xs w
          (fun w t xs h hg rd => spans_5 l 34 (.inl rfl) (spAt l 0) (spAt l 1) (spAt l 2) (spAt l 3) (spAt l 4) (fun v w hg rd => Spans_5 l ho (.inl hc) hl v w hg rd) _ w1 base bt bs (seeN p 34) t xs w h hg rd) h hg1 rd1
      · have hn : n4 l 0 = 2147483682 := by omega
        have hE : tE p l = tE p l := rfl
        conv at hE => rhs; unfold tE; rw [if_neg (by simp [ho]), if_neg hk, hn, if_neg (by decide), if_neg (by decide), if_neg (by decide), if_neg (by decide), if_pos (by decide : (2147483682 = 34 ∨ 2147483682 = 2147483682))]
        have hS : tS p l = tS p l := rfl
        conv at hS => rhs; unfold tS; rw [if_neg hk, hn, if_neg (by decide), if_neg (by decide), if_neg (by decide), if_neg (by decide), if_neg (by decide), if_neg (by decide), if_neg (by decide)]
        rw [hE, hS]
        exact tell_once x l 2147483682 34 _ _ (by decide) (by decide) (by decide) (by decide) (by decide) (by decide) rfl ho hc hl w1 base bt bs p t xs w
          (fun w t xs h hg rd => spans_5 l 2147483682 (.inr rfl) (spAt l 0) (spAt l 1) (spAt l 2) (spAt l 3) (spAt l 4) (fun v w hg rd => Spans_5 l ho (.inr hc) hl v w hg rd) _ w1 base bt bs (seeN p 34) t xs w h hg rd) h hg1 rd1
  · have h1 : tE p l = 3 := by unfold tE; rw [if_pos ho]
    rw [h1]
    exact tell_bad x l ho hl w1 base bt bs p _ t xs w h hg rd
end Go.Proofs.YtgjlgamlmmjdpaaDoor
