/- Lemmas, laid together: part 18 of 43. Conditions: none but each lemma's own. -/
import Derived.Test.YtgjlgamlmmjdpaaGreatDoorJ17
import Derived.Test.YtgjlgamlmmjdpaaGreatDoorJ1
import Derived.Maps.AppendAt
import Derived.Test.YtgjlgamlmmjdpaaGreatDoorJ10
import Derived.Handy
/- load: tell, spans; whatever the command. -/
namespace Go.Proofs.YtgjlgamlmmjdpaaGreatDoor
open Go.RowKit
set_option maxRecDepth 100000

/-- A command of spans that may stand once. -/
theorem tell_once (x : Cmr) (l : List UInt8) (k key : Int) (E : Int) (q : TP) (hk : ¬ leastF k = 0) (hdk : depK k = 0) (h25 : ¬ k = 25) (h13 : ¬ k = 13) (htr : ¬ k = 2147483699) (hen : ¬ k = 2147483688) (hkey : key = keyC k) (ho : opE l = 0) (hc : ((n4 l 0 : Nat) : Int) = k) (hl : l.length ≤ 140737488355328) (w1 : World) (base bt bs : Nat) (p : TP) (t : Tel) (xs : List Seg) (w : World)
    (hsp : ∀ w t xs, TInv w1 base bt bs (seeN p key) t xs w → Env w → byteL.Rd w (.slice x.bytes.a x.bytes.n x.bytes.cap) l → Calls Tryz.prog 45 #[.pointer (some ⟨bt, 0, none⟩), .int .u32 k, .slice x.bytes.a x.bytes.n x.bytes.cap] w (TelSays w1 base bt bs E q))
    (h : TInv w1 base bt bs p t xs w) (hg1 : Env w1) (rd1 : byteL.Rd w1 (.slice x.bytes.a x.bytes.n x.bytes.cap) l) :
    Calls Tryz.prog 23 #[.pointer (some ⟨bt, 0, none⟩), cmrL.val x] w (TelSays w1 base bt bs (if p.seen key = true then 21 else E) q) := by
  have hg := hg1.frame h.chg (by simp)
  have rd := rd1.frame h.chg
  have EG1 := Lib.hid hg1
  have ER1 := Lib.hid rd1
  clear hg1 rd1
  have hop := fun v w hg rd => open_ok l ho hl v w hg rd
  rw [hc] at hop
  have HKN := Lib.hid (fun w => Known_yes k hk w)
  have HND : Hid (kindsM k = none) := Lib.hid (by unfold kindsM; rw [if_pos hdk])
  have e1 : (k == 25) = false := by rw [beq_eq_false_iff_ne]; exact h25
  have e2 : (k == 13) = false := by rw [beq_eq_false_iff_ne]; exact h13
  have e3 : (k == 2147483688) = false := by rw [beq_eq_false_iff_ne]; exact hen
  have e4 : (k != 2147483699) = true := by rw [bne_iff_ne]; exact htr
  have HOP := Lib.hid hop
  have Ho := Lib.hid ho
  have Hc := Lib.hid hc
  have Hk := Lib.hid hk
  have Hdk := Lib.hid hdk
  have H25 := Lib.hid h25
  have H13 := Lib.hid h13
  have Htr := Lib.hid htr
  have Hen := Lib.hid hen
  clear hop ho hc hk hdk h25 h13 htr hen
  obtain ⟨sn, hsn⟩ : ∃ sn, p.seen key = sn := ⟨_, rfl⟩
  rw [hsn]
  by_cases hk2 : k = 2147483682
  · have hkk : key = 34 := by rw [hkey, hk2]; rfl
    subst hk2
    subst hkk
    clear hkey e1 e2 e3 e4
    have Hsn := Lib.hid hsn
    have HSP := Lib.hid hsp
    clear hsn hsp
    cases sn
    · rw [if_neg (by decide)]
      have H := Lib.hid (h)
      have Hg := Lib.hid hg
      have RD := Lib.hid rd
      have Hl := Lib.hid hl
      clear hg rd hl
      clear h
      go_enter Tryz.func23, Tryz.ntmps23
      go_wp2_with ((with_reducible refine Lay.bxL (L := cmrL) 67 x ?_ ?_); exact rfl; intro W0 bx ebx cbx xbx; replace ebx := Lib.hid ebx; replace cbx := Lib.hid cbx; replace xbx := Lib.hid xbx; refine Hid.out ?_)
      refine Lib.hid ?_
      have y1 := Cmr.c_bytes xbx.out
      have H0 := Lib.hid (H.out.pure cbx.out)
      have HBX : Hid (base ≤ bx) := Lib.hid (by rw [ebx.out]; exact H.out.o4)
      go_wp2_with fail
      refine (HOP.out _ W0 (Hg.out.frame cbx.out (by simp)) (RD.out.frame cbx.out)).mono ?_
      rintro e W1 ⟨c, rfl, hlo, hcu, hch⟩
      have H1 := Lib.hid (H0.out.pure hch)
      have R1 := Lib.hid ((RD.out.frame cbx.out).frame hch)
      have G1 := Lib.hid ((Hg.out.frame cbx.out (by simp)).frame hch (by simp))
      replace y1 := hch.cell y1 (by simp)
      clear hlo hcu hch
      go_wp2_with fail
      refine (kinds_any W1).mono ?_
      rintro e W2 ⟨b, rfl, hm, hch⟩
      have H2 := Lib.hid (H1.out.pure hch)
      have R2 := Lib.hid (R1.out.frame hch)
      have G2 := Lib.hid (G1.out.frame hch (by simp))
      replace y1 := hch.cell y1 (by simp)
      have Hm := Lib.hid hm
      clear hm
      clear hch
      go_wp2_with ((with_reducible refine get2N Tryz.tKnd Hm.out (2147483682 : Int) HND.out ?_ ?_ ?_); exact rfl; exact rfl; refine Hid.out ?_)
      refine Lib.hid ?_
      go_wp2_with fail
      refine (HKN.out W2).mono ?_
      rintro e W3 ⟨rfl, hch⟩
      have H3 := Lib.hid (H2.out.pure hch)
      have R3 := Lib.hid (R2.out.frame hch)
      have G3 := Lib.hid (G2.out.frame hch (by simp))
      replace y1 := hch.cell y1 (by simp)
      clear hch
      go_wp2_with fail
      refine (HKN.out W3).mono ?_
      rintro e W4 ⟨rfl, hch⟩
      have H4 := Lib.hid (H3.out.pure hch)
      have R4 := Lib.hid (R3.out.frame hch)
      have G4 := Lib.hid (G3.out.frame hch (by simp))
      replace y1 := hch.cell y1 (by simp)
      clear hch H1 R1 G1 H2 R2 G2 H3 R3 G3
      have y24 := Tel.c_seen H4.out.box
      rw [H4.out.seen] at y24
      go_wp2_with fail
      refine (once_any 34 w1 base bt bs p t xs W4 H4.out).mono ?_
      rintro e W6 ⟨rfl, hti, hcs⟩
      rw [Hsn.out]
      have H6 := Lib.hid (hti)
      replace y1 := hcs.cell y1 (by have := HBX.out; have := H.out.o1; simp; omega)
      clear hti y24 hcs
      go_wp2_with fail
      refine (HSP.out W6 _ _ H6.out (EG1.out.frame H6.out.chg (by simp)) (ER1.out.frame H6.out.chg)).mono ?_
      rintro e W7 ⟨rfl, hc, ht⟩
      have C7 := Lib.hid hc
      have T7 := Lib.hid ht
      clear hc ht
      go_wp2
      go_ret
      exact ⟨rfl, C7.out, T7.out⟩
    · rw [if_pos rfl]
      have H := Lib.hid (h)
      have Hg := Lib.hid hg
      have RD := Lib.hid rd
      have Hl := Lib.hid hl
      clear hg rd hl
      clear h
      go_enter Tryz.func23, Tryz.ntmps23
      go_wp2_with ((with_reducible refine Lay.bxL (L := cmrL) 67 x ?_ ?_); exact rfl; intro W0 bx ebx cbx xbx; replace ebx := Lib.hid ebx; replace cbx := Lib.hid cbx; replace xbx := Lib.hid xbx; refine Hid.out ?_)
      refine Lib.hid ?_
      have y1 := Cmr.c_bytes xbx.out
      have H0 := Lib.hid (H.out.pure cbx.out)
      have HBX : Hid (base ≤ bx) := Lib.hid (by rw [ebx.out]; exact H.out.o4)
      go_wp2_with fail
      refine (HOP.out _ W0 (Hg.out.frame cbx.out (by simp)) (RD.out.frame cbx.out)).mono ?_
      rintro e W1 ⟨c, rfl, hlo, hcu, hch⟩
      have H1 := Lib.hid (H0.out.pure hch)
      have R1 := Lib.hid ((RD.out.frame cbx.out).frame hch)
      have G1 := Lib.hid ((Hg.out.frame cbx.out (by simp)).frame hch (by simp))
      replace y1 := hch.cell y1 (by simp)
      clear hlo hcu hch
      go_wp2_with fail
      refine (kinds_any W1).mono ?_
      rintro e W2 ⟨b, rfl, hm, hch⟩
      have H2 := Lib.hid (H1.out.pure hch)
      have R2 := Lib.hid (R1.out.frame hch)
      have G2 := Lib.hid (G1.out.frame hch (by simp))
      replace y1 := hch.cell y1 (by simp)
      have Hm := Lib.hid hm
      clear hm
      clear hch
      go_wp2_with ((with_reducible refine get2N Tryz.tKnd Hm.out (2147483682 : Int) HND.out ?_ ?_ ?_); exact rfl; exact rfl; refine Hid.out ?_)
      refine Lib.hid ?_
      go_wp2_with fail
      refine (HKN.out W2).mono ?_
      rintro e W3 ⟨rfl, hch⟩
      have H3 := Lib.hid (H2.out.pure hch)
      have R3 := Lib.hid (R2.out.frame hch)
      have G3 := Lib.hid (G2.out.frame hch (by simp))
      replace y1 := hch.cell y1 (by simp)
      clear hch
      go_wp2_with fail
      refine (HKN.out W3).mono ?_
      rintro e W4 ⟨rfl, hch⟩
      have H4 := Lib.hid (H3.out.pure hch)
      have R4 := Lib.hid (R3.out.frame hch)
      have G4 := Lib.hid (G3.out.frame hch (by simp))
      replace y1 := hch.cell y1 (by simp)
      clear hch H1 R1 G1 H2 R2 G2 H3 R3 G3
      have y24 := Tel.c_seen H4.out.box
      rw [H4.out.seen] at y24
      go_wp2_with fail
      refine (once_any 34 w1 base bt bs p t xs W4 H4.out).mono ?_
      rintro e W6 ⟨rfl, hti, hcs⟩
      rw [Hsn.out]
      have H6 := Lib.hid (hti)
      replace y1 := hcs.cell y1 (by have := HBX.out; have := H.out.o1; simp; omega)
      clear hti y24 hcs
      go_wp2
      go_ret
      exact ⟨rfl, H6.out.chg, fun h => absurd h (by decide)⟩
  · have hkk : key = k := by rw [hkey]; unfold keyC; rw [if_neg hk2]
    subst hkk
    have e5 : (key == 2147483682) = false := by rw [beq_eq_false_iff_ne]; exact hk2
    clear hkey
    have Hsn := Lib.hid hsn
    have HSP := Lib.hid hsp
    have Hk2 := Lib.hid hk2
    clear hsn hsp hk2
    cases sn
    · rw [if_neg (by decide)]
      have H := Lib.hid (h)
      have Hg := Lib.hid hg
      have RD := Lib.hid rd
      have Hl := Lib.hid hl
      clear hg rd hl
      clear h
      go_enter Tryz.func23, Tryz.ntmps23
      go_wp2_with ((with_reducible refine Lay.bxL (L := cmrL) 67 x ?_ ?_); exact rfl; intro W0 bx ebx cbx xbx; replace ebx := Lib.hid ebx; replace cbx := Lib.hid cbx; replace xbx := Lib.hid xbx; refine Hid.out ?_)
      refine Lib.hid ?_
      have y1 := Cmr.c_bytes xbx.out
      have H0 := Lib.hid (H.out.pure cbx.out)
      have HBX : Hid (base ≤ bx) := Lib.hid (by rw [ebx.out]; exact H.out.o4)
      go_wp2_with fail
      refine (HOP.out _ W0 (Hg.out.frame cbx.out (by simp)) (RD.out.frame cbx.out)).mono ?_
      rintro e W1 ⟨c, rfl, hlo, hcu, hch⟩
      have H1 := Lib.hid (H0.out.pure hch)
      have R1 := Lib.hid ((RD.out.frame cbx.out).frame hch)
      have G1 := Lib.hid ((Hg.out.frame cbx.out (by simp)).frame hch (by simp))
      replace y1 := hch.cell y1 (by simp)
      clear hlo hcu hch
      go_wp2_with fail
      refine (kinds_any W1).mono ?_
      rintro e W2 ⟨b, rfl, hm, hch⟩
      have H2 := Lib.hid (H1.out.pure hch)
      have R2 := Lib.hid (R1.out.frame hch)
      have G2 := Lib.hid (G1.out.frame hch (by simp))
      replace y1 := hch.cell y1 (by simp)
      have Hm := Lib.hid hm
      clear hm
      clear hch
      go_wp2_with ((with_reducible refine get2N Tryz.tKnd Hm.out key HND.out ?_ ?_ ?_); exact rfl; exact rfl; refine Hid.out ?_)
      refine Lib.hid ?_
      go_wp2_with fail
      refine (HKN.out W2).mono ?_
      rintro e W3 ⟨rfl, hch⟩
      have H3 := Lib.hid (H2.out.pure hch)
      have R3 := Lib.hid (R2.out.frame hch)
      have G3 := Lib.hid (G2.out.frame hch (by simp))
      replace y1 := hch.cell y1 (by simp)
      clear hch
      go_wp2_with fail
      refine (HKN.out W3).mono ?_
      rintro e W4 ⟨rfl, hch⟩
      have H4 := Lib.hid (H3.out.pure hch)
      have R4 := Lib.hid (R3.out.frame hch)
      have G4 := Lib.hid (G3.out.frame hch (by simp))
      replace y1 := hch.cell y1 (by simp)
      clear hch H1 R1 G1 H2 R2 G2 H3 R3 G3
      have y24 := Tel.c_seen H4.out.box
      rw [H4.out.seen] at y24
      go_wp2_with fail
      refine (once_any key w1 base bt bs p t xs W4 H4.out).mono ?_
      rintro e W6 ⟨rfl, hti, hcs⟩
      rw [Hsn.out]
      have H6 := Lib.hid (hti)
      replace y1 := hcs.cell y1 (by have := HBX.out; have := H.out.o1; simp; omega)
      clear hti y24 hcs
      go_wp2_with fail
      refine (HSP.out W6 _ _ H6.out (EG1.out.frame H6.out.chg (by simp)) (ER1.out.frame H6.out.chg)).mono ?_
      rintro e W7 ⟨rfl, hc, ht⟩
      have C7 := Lib.hid hc
      have T7 := Lib.hid ht
      clear hc ht
      go_wp2
      go_ret
      exact ⟨rfl, C7.out, T7.out⟩
    · rw [if_pos rfl]
      have H := Lib.hid (h)
      have Hg := Lib.hid hg
      have RD := Lib.hid rd
      have Hl := Lib.hid hl
      clear hg rd hl
      clear h
      go_enter Tryz.func23, Tryz.ntmps23
      go_wp2_with ((with_reducible refine Lay.bxL (L := cmrL) 67 x ?_ ?_); exact rfl; intro W0 bx ebx cbx xbx; replace ebx := Lib.hid ebx; replace cbx := Lib.hid cbx; replace xbx := Lib.hid xbx; refine Hid.out ?_)
      refine Lib.hid ?_
      have y1 := Cmr.c_bytes xbx.out
      have H0 := Lib.hid (H.out.pure cbx.out)
      have HBX : Hid (base ≤ bx) := Lib.hid (by rw [ebx.out]; exact H.out.o4)
      go_wp2_with fail
      refine (HOP.out _ W0 (Hg.out.frame cbx.out (by simp)) (RD.out.frame cbx.out)).mono ?_
      rintro e W1 ⟨c, rfl, hlo, hcu, hch⟩
      have H1 := Lib.hid (H0.out.pure hch)
      have R1 := Lib.hid ((RD.out.frame cbx.out).frame hch)
      have G1 := Lib.hid ((Hg.out.frame cbx.out (by simp)).frame hch (by simp))
      replace y1 := hch.cell y1 (by simp)
      clear hlo hcu hch
      go_wp2_with fail
      refine (kinds_any W1).mono ?_
      rintro e W2 ⟨b, rfl, hm, hch⟩
      have H2 := Lib.hid (H1.out.pure hch)
      have R2 := Lib.hid (R1.out.frame hch)
      have G2 := Lib.hid (G1.out.frame hch (by simp))
      replace y1 := hch.cell y1 (by simp)
      have Hm := Lib.hid hm
      clear hm
      clear hch
      go_wp2_with ((with_reducible refine get2N Tryz.tKnd Hm.out key HND.out ?_ ?_ ?_); exact rfl; exact rfl; refine Hid.out ?_)
      refine Lib.hid ?_
      go_wp2_with fail
      refine (HKN.out W2).mono ?_
      rintro e W3 ⟨rfl, hch⟩
      have H3 := Lib.hid (H2.out.pure hch)
      have R3 := Lib.hid (R2.out.frame hch)
      have G3 := Lib.hid (G2.out.frame hch (by simp))
      replace y1 := hch.cell y1 (by simp)
      clear hch
      go_wp2_with fail
      refine (HKN.out W3).mono ?_
      rintro e W4 ⟨rfl, hch⟩
      have H4 := Lib.hid (H3.out.pure hch)
      have R4 := Lib.hid (R3.out.frame hch)
      have G4 := Lib.hid (G3.out.frame hch (by simp))
      replace y1 := hch.cell y1 (by simp)
      clear hch H1 R1 G1 H2 R2 G2 H3 R3 G3
      have y24 := Tel.c_seen H4.out.box
      rw [H4.out.seen] at y24
      go_wp2_with fail
      refine (once_any key w1 base bt bs p t xs W4 H4.out).mono ?_
      rintro e W6 ⟨rfl, hti, hcs⟩
      rw [Hsn.out]
      have H6 := Lib.hid (hti)
      replace y1 := hcs.cell y1 (by have := HBX.out; have := H.out.o1; simp; omega)
      clear hti y24 hcs
      go_wp2
      go_ret
      exact ⟨rfl, H6.out.chg, fun h => absurd h (by decide)⟩
theorem tell_trie (x : Cmr) (l : List UInt8) (ho : opE l = 0) (hc : ((n4 l 0 : Nat) : Int) = 2147483699) (hl : l.length ≤ 140737488355328) (w1 : World) (base bt bs : Nat) (p : TP) (t : Tel) (xs : List Seg) (w : World)
    (h : TInv w1 base bt bs p t xs w) (hg1 : Env w1) (rd1 : byteL.Rd w1 (.slice x.bytes.a x.bytes.n x.bytes.cap) l) :
    Calls Tryz.prog 23 #[.pointer (some ⟨bt, 0, none⟩), cmrL.val x] w (TelSays w1 base bt bs (trE p (spAt l 0)) (trQ p (spAt l 0))) := by
  have hg := hg1.frame h.chg (by simp)
  have rd := rd1.frame h.chg
  have EG1 := Lib.hid hg1
  have ER1 := Lib.hid rd1
  clear hg1 rd1
  have hop := fun v w hg rd => open_ok l ho hl v w hg rd
  rw [hc] at hop
  have HSP := Lib.hid (fun w h hg rd => spans_tr l (spAt l 0) (fun v w hg rd => Spans_1 l ho (.inl hc) hl v w hg rd) (.slice x.bytes.a x.bytes.n x.bytes.cap) w1 base bt bs p t xs w h hg rd)
  have HKN := Lib.hid (fun w => Known_yes 2147483699 (by decide) w)
  have HND : Hid (kindsM 2147483699 = none) := Lib.hid (by decide)
  have HOP := Lib.hid hop
  have Ho := Lib.hid ho
  have Hc := Lib.hid hc
  clear hop ho hc
  have H := Lib.hid (h)
  have Hg := Lib.hid hg
  have RD := Lib.hid rd
  have Hl := Lib.hid hl
  clear hg rd hl
  clear h
  go_enter Tryz.func23, Tryz.ntmps23
  go_wp2_with ((with_reducible refine Lay.bxL (L := cmrL) 67 x ?_ ?_); exact rfl; intro W0 bx ebx cbx xbx; replace ebx := Lib.hid ebx; replace cbx := Lib.hid cbx; replace xbx := Lib.hid xbx; refine Hid.out ?_)
  refine Lib.hid ?_
  have y1 := Cmr.c_bytes xbx.out
  have H0 := Lib.hid (H.out.pure cbx.out)
  have HBX : Hid (base ≤ bx) := Lib.hid (by rw [ebx.out]; exact H.out.o4)
  go_wp2_with fail
  refine (HOP.out _ W0 (Hg.out.frame cbx.out (by simp)) (RD.out.frame cbx.out)).mono ?_
  rintro e W1 ⟨c, rfl, hlo, hcu, hch⟩
  have H1 := Lib.hid (H0.out.pure hch)
  have R1 := Lib.hid ((RD.out.frame cbx.out).frame hch)
  have G1 := Lib.hid ((Hg.out.frame cbx.out (by simp)).frame hch (by simp))
  replace y1 := hch.cell y1 (by simp)
  clear hlo hcu hch
  go_wp2_with fail
  refine (kinds_any W1).mono ?_
  rintro e W2 ⟨b, rfl, hm, hch⟩
  have H2 := Lib.hid (H1.out.pure hch)
  have R2 := Lib.hid (R1.out.frame hch)
  have G2 := Lib.hid (G1.out.frame hch (by simp))
  replace y1 := hch.cell y1 (by simp)
  have Hm := Lib.hid hm
  clear hm
  clear hch
  go_wp2_with ((with_reducible refine get2N Tryz.tKnd Hm.out (2147483699 : Int) HND.out ?_ ?_ ?_); exact rfl; exact rfl; refine Hid.out ?_)
  refine Lib.hid ?_
  go_wp2_with fail
  refine (HKN.out W2).mono ?_
  rintro e W3 ⟨rfl, hch⟩
  have H3 := Lib.hid (H2.out.pure hch)
  have R3 := Lib.hid (R2.out.frame hch)
  have G3 := Lib.hid (G2.out.frame hch (by simp))
  replace y1 := hch.cell y1 (by simp)
  clear hch
  go_wp2_with fail
  refine (HKN.out W3).mono ?_
  rintro e W4 ⟨rfl, hch⟩
  have H4 := Lib.hid (H3.out.pure hch)
  have R4 := Lib.hid (R3.out.frame hch)
  have G4 := Lib.hid (G3.out.frame hch (by simp))
  replace y1 := hch.cell y1 (by simp)
  clear hch H1 R1 G1 H2 R2 G2 H3 R3 G3
  go_wp2_with fail
  refine (HSP.out W4 H4.out G4.out R4.out).mono ?_
  rintro e W7 ⟨rfl, hc, ht⟩
  have C7 := Lib.hid hc
  have T7 := Lib.hid ht
  clear hc ht
  go_wp2
  go_ret
  exact ⟨rfl, C7.out, T7.out⟩
/-- tell, whatever the command. -/
theorem tell_any (x : Cmr) (l : List UInt8) (hl : l.length ≤ 140737488355328) (w1 : World) (base bt bs : Nat) (p : TP) (t : Tel) (xs : List Seg) (w : World) (h : TInv w1 base bt bs p t xs w) (hg1 : Env w1) (rd1 : byteL.Rd w1 (.slice x.bytes.a x.bytes.n x.bytes.cap) l) :
    Calls Tryz.prog 23 #[.pointer (some ⟨bt, 0, none⟩), cmrL.val x] w (TelSays w1 base bt bs (tE p l) (tS p l)) := by
  have hg := hg1.frame h.chg (by simp)
  have rd := rd1.frame h.chg
  by_cases ho : opE l = 0
  · by_cases hk : leastF (n4 l 0) = 0
    · have h1 : tE p l = if 2147483648 ≤ n4 l 0 then 7 else 0 := by unfold tE; rw [if_neg (by simp [ho]), if_pos hk]
      have h2 : tS p l = p := by unfold tS; rw [if_pos hk]
      rw [h1, h2]
      exact tell_unk x l ho hk hl w1 base bt bs p t xs w h hg rd
    · have hcs := known_cases hk
      rcases hcs with hc | hc | hc | hc | hc | hc | hc | hc | hc | hc | hc | hc
      · have hn : n4 l 0 = 25 := by omega
        have hE : tE p l = tE p l := rfl
        conv at hE => rhs; unfold tE; rw [if_neg (by simp [ho]), if_neg hk, hn, if_pos rfl]
        have hS : tS p l = tS p l := rfl
        conv at hS => rhs; unfold tS; rw [if_neg hk, hn, if_pos rfl]
        rw [hE, hS]
        exact tell_seg x l ho hc hl w1 base bt bs p t xs w h hg rd
      · have hn : n4 l 0 = 12 := by omega
        have hE : tE p l = tE p l := rfl
        conv at hE => rhs; unfold tE; rw [if_neg (by simp [ho]), if_neg hk, hn, if_neg (by decide), if_pos (by decide)]
        have hS : tS p l = tS p l := rfl
        conv at hS => rhs; unfold tS; rw [if_neg hk, hn, if_neg (by decide), if_pos (by decide)]
        rw [hE, hS]
        exact tell_dep x l 12 1 (by decide) rfl (by decide) ho hc hl w1 base bt bs p t xs w h hg rd
      · have hn : n4 l 0 = 2147483672 := by omega
        have hE : tE p l = tE p l := rfl
        conv at hE => rhs; unfold tE; rw [if_neg (by simp [ho]), if_neg hk, hn, if_neg (by decide), if_pos (by decide)]
        have hS : tS p l = tS p l := rfl
        conv at hS => rhs; unfold tS; rw [if_neg hk, hn, if_neg (by decide), if_pos (by decide)]
        rw [hE, hS]
        exact tell_dep x l 2147483672 2 (by decide) rfl (by decide) ho hc hl w1 base bt bs p t xs w h hg rd
      · have hn : n4 l 0 = 2147483679 := by omega
        have hE : tE p l = tE p l := rfl
        conv at hE => rhs; unfold tE; rw [if_neg (by simp [ho]), if_neg hk, hn, if_neg (by decide), if_pos (by decide)]
        have hS : tS p l = tS p l := rfl
        conv at hS => rhs; unfold tS; rw [if_neg hk, hn, if_neg (by decide), if_pos (by decide)]
        rw [hE, hS]
        exact tell_dep x l 2147483679 3 (by decide) rfl (by decide) ho hc hl w1 base bt bs p t xs w h hg rd
      · have hn : n4 l 0 = 2147483683 := by omega
        have hE : tE p l = tE p l := rfl
        conv at hE => rhs; unfold tE; rw [if_neg (by simp [ho]), if_neg hk, hn, if_neg (by decide), if_pos (by decide)]
        have hS : tS p l = tS p l := rfl
        conv at hS => rhs; unfold tS; rw [if_neg hk, hn, if_neg (by decide), if_pos (by decide)]
        rw [hE, hS]
        exact tell_dep x l 2147483683 4 (by decide) rfl (by decide) ho hc hl w1 base bt bs p t xs w h hg rd
      · have hn : n4 l 0 = 13 := by omega
        have hE : tE p l = tE p l := rfl
        conv at hE => rhs; unfold tE; rw [if_neg (by simp [ho]), if_neg hk, hn, if_neg (by decide), if_neg (by decide), if_pos rfl]
        have hS : tS p l = tS p l := rfl
        conv at hS => rhs; unfold tS; rw [if_neg hk, hn, if_neg (by decide), if_neg (by decide), if_pos rfl]
        rw [hE, hS]
        exact tell_name x l ho hc hl w1 base bt bs p t xs w h hg1 rd1
      · have hn : n4 l 0 = 2147483699 := by omega
        have hE : tE p l = tE p l := rfl
        conv at hE => rhs; unfold tE; rw [if_neg (by simp [ho]), if_neg hk, hn, if_neg (by decide), if_neg (by decide), if_neg (by decide), if_pos rfl]
        have hS : tS p l = tS p l := rfl
        conv at hS => rhs; unfold tS; rw [if_neg hk, hn, if_neg (by decide), if_neg (by decide), if_neg (by decide), if_pos rfl]
        rw [hE, hS]
        exact tell_trie x l ho hc hl w1 base bt bs p t xs w h hg1 rd1
      · have hn : n4 l 0 = 2147483688 := by omega
        have hE : tE p l = tE p l := rfl
        conv at hE => rhs; unfold tE; rw [if_neg (by simp [ho]), if_neg hk, hn, if_neg (by decide), if_neg (by decide), if_neg (by decide), if_neg (by decide), if_neg (by decide : ¬ (2147483688 = 34 ∨ 2147483688 = 2147483682))]
        have hS : tS p l = tS p l := rfl
        conv at hS => rhs; unfold tS; rw [if_neg hk, hn, if_neg (by decide), if_neg (by decide), if_neg (by decide), if_neg (by decide), if_pos rfl]
        rw [hE, hS]
        exact tell_entry x l ho hc hl w1 base bt bs p t xs w h hg1 rd1
      · have hn : n4 l 0 = 2 := by omega
        have hE : tE p l = tE p l := rfl
        conv at hE => rhs; unfold tE; rw [if_neg (by simp [ho]), if_neg hk, hn, if_neg (by decide), if_neg (by decide), if_neg (by decide), if_neg (by decide), if_neg (by decide : ¬ (2 = 34 ∨ 2 = 2147483682))]
        have hS : tS p l = tS p l := rfl
        conv at hS => rhs; unfold tS; rw [if_neg hk, hn, if_neg (by decide), if_neg (by decide), if_neg (by decide), if_neg (by decide), if_neg (by decide), if_pos rfl]
        rw [hE, hS]
        exact tell_once x l 2 2 0 _ (by decide) (by decide) (by decide) (by decide) (by decide) (by decide) rfl ho hc hl w1 base bt bs p t xs w
          (fun w t xs h hg rd => spans_sy l ⟨n4 l 8, (n4 l 12 : Int) * 16⟩ (spAt l 1) (fun v w hg rd => Spans_2 l ho hc hl v w hg rd) _ w1 base bt bs (seeN p 2) t xs w h hg rd) h hg1 rd1
      · have hn : n4 l 0 = 2147483700 := by omega
        have hE : tE p l = tE p l := rfl
        conv at hE => rhs; unfold tE; rw [if_neg (by simp [ho]), if_neg hk, hn, if_neg (by decide), if_neg (by decide), if_neg (by decide), if_neg (by decide), if_neg (by decide : ¬ (2147483700 = 34 ∨ 2147483700 = 2147483682))]
        have hS : tS p l = tS p l := rfl
        conv at hS => rhs; unfold tS; rw [if_neg hk, hn, if_neg (by decide), if_neg (by decide), if_neg (by decide), if_neg (by decide), if_neg (by decide), if_neg (by decide), if_pos rfl]
        rw [hE, hS]
        exact tell_once x l 2147483700 2147483700 0 _ (by decide) (by decide) (by decide) (by decide) (by decide) (by decide) rfl ho hc hl w1 base bt bs p t xs w
          (fun w t xs h hg rd => spans_ch l (spAt l 0) (fun v w hg rd => Spans_1 l ho (.inr hc) hl v w hg rd) _ w1 base bt bs (seeN p 2147483700) t xs w h hg rd) h hg1 rd1
      · have hn : n4 l 0 = 34 := by omega
        have hE : tE p l = tE p l := rfl
        conv at hE => rhs; unfold tE; rw [if_neg (by simp [ho]), if_neg hk, hn, if_neg (by decide), if_neg (by decide), if_neg (by decide), if_neg (by decide), if_pos (by decide : (34 = 34 ∨ 34 = 2147483682))]
        have hS : tS p l = tS p l := rfl
        conv at hS => rhs; unfold tS; rw [if_neg hk, hn, if_neg (by decide), if_neg (by decide), if_neg (by decide), if_neg (by decide), if_neg (by decide), if_neg (by decide), if_neg (by decide)]
        rw [hE, hS]
        exact tell_once x l 34 34 _ _ (by decide) (by decide) (by decide) (by decide) (by decide) (by decide) rfl ho hc hl w1 base bt bs p t xs w
          (fun w t xs h hg rd => spans_5 l 34 (.inl rfl) (spAt l 0) (spAt l 1) (spAt l 2) (spAt l 3) (spAt l 4) (fun v w hg rd => Spans_5 l ho (.inl hc) hl v w hg rd) _ w1 base bt bs (seeN p 34) t xs w h hg rd) h hg1 rd1
      · have hn : n4 l 0 = 2147483682 := by omega
        have hE : tE p l = tE p l := rfl
        conv at hE => rhs; unfold tE; rw [if_neg (by simp [ho]), if_neg hk, hn, if_neg (by decide), if_neg (by decide), if_neg (by decide), if_neg (by decide), if_pos (by decide : (2147483682 = 34 ∨ 2147483682 = 2147483682))]
        have hS : tS p l = tS p l := rfl
        conv at hS => rhs; unfold tS; rw [if_neg hk, hn, if_neg (by decide), if_neg (by decide), if_neg (by decide), if_neg (by decide), if_neg (by decide), if_neg (by decide), if_neg (by decide)]
        rw [hE, hS]
        exact tell_once x l 2147483682 34 _ _ (by decide) (by decide) (by decide) (by decide) (by decide) (by decide) rfl ho hc hl w1 base bt bs p t xs w
          (fun w t xs h hg rd => spans_5 l 2147483682 (.inr rfl) (spAt l 0) (spAt l 1) (spAt l 2) (spAt l 3) (spAt l 4) (fun v w hg rd => Spans_5 l ho (.inr hc) hl v w hg rd) _ w1 base bt bs (seeN p 34) t xs w h hg rd) h hg1 rd1
  · have h1 : tE p l = 3 := by unfold tE; rw [if_pos ho]
    rw [h1]
    exact tell_bad x l ho hl w1 base bt bs p _ t xs w h hg rd
end Go.Proofs.YtgjlgamlmmjdpaaGreatDoor
/- append(b, make([]byte, m)...), as the program has it: so many noughts behind a row of bytes of the call's own. No program in sight. -/
namespace Go.Proofs.YtgjlgamlmmjdpaaGreatDoor
open Go.RowKit

section
variable {P : Program}
theorem zeroCells_one (z : Value) (m : Nat) : Builtin.zeroCells #[z] m = (List.replicate m z).toArray := by
  unfold Builtin.zeroCells
  apply Array.ext'
  simp only [Array.toList_map, Array.toList_range, List.size_toArray, List.length_cons, List.length_nil, Nat.zero_add, Nat.mul_one, Nat.mod_one]
  apply List.ext_getElem?
  intro j
  by_cases hj : j < m <;> simp [hj]
theorem Addr_add' (b j : Nat) : (⟨b, 0, none⟩ : Addr).add j = ⟨b, j, none⟩ := by unfold Addr.add; split <;> simp_all
theorem run_append_zeros (w : World) (base : Nat) (t tx ty e : TypeId) (i : TypeInfo) (K : IntKind) (ht : P.underlying t = some (.slice e)) (hx : P.underlying tx = some (.int K)) (hi : P.info? e = some i) (hz : i.zero = some (.int .u8 0)) (hs : i.size = 1) (hby : i.bytes = 1)
    (v : Value) (n : Nat) (xs : List Value) (hown : w.ownsRow base e 1 v n xs) (m : Nat) (hle : n + m ≤ 140737488355328) (hbase : base ≤ w.heap.size) :
    ∃ v' w', (Builtin.append_ #[t, tx] ty #[v, .int .i64 m]).run P w = .ok v' w' ∧ w'.ownsRow base e 1 v' (n + m) (xs ++ List.replicate m (.int .u8 0)) ∧ w.grownBy w' v.ownBlock ∧
      (v'.ownBlock = v.ownBlock ∨ v'.ownBlock = some w.heap.size) := by
  have hwr : IntKind.i64.wrap (m : Int) = m := by rw [IntKind.wrap_i64]; omega
  have h0 : ¬ ((m : Int) < 0) := by omega
  have h48 : ¬ (281474976710656 < (m : Int)) := by omega
  have ha : ∀ w : World, (asInt (.int .i64 (m : Int))).run P w = .ok (m : Int) w := fun _ => rfl
  have hone : ∀ u ∈ List.replicate m (Value.int .u8 0), u.oneCell' = true := by
    intro u hu; rw [(List.mem_replicate.1 hu).2]; rfl
  rcases hown.2 with ⟨rfl, rfl⟩ | ⟨g, cap, cur, rfl, hbg, hg, hnc, hcm, hcs, htake⟩
  · have hxs : xs = [] := List.eq_nil_of_length_eq_zero (by simpa using hown.1)
    subst hxs
    rcases Nat.eq_zero_or_pos m with rfl | hm
    · refine ⟨.slice none 0 0, w, ?_, World.ownsRow_nil w base e 1, ⟨rfl, rfl, rfl, Nat.le_refl _, fun _ _ _ => rfl⟩, .inl rfl⟩
      have ha := ha
      have hw0 : IntKind.i64.wrap 0 = 0 := by decide
      simp at ha
      simp [Builtin.append_, run_underlying ht, run_underlying hx, sizeOf, typeInfo, hi, ha, hw0]
    · have hne : ¬ m = 0 := by omega
      have h63 : ¬ (9223372036854775807 < (m : Int)) := by omega
      have hnx : ¬ (281474976710656 < Builtin.nextslicecap m 0) := by rw [nextslicecap_zero hm]; omega
      simp [Builtin.append_, run_underlying ht, run_underlying hx, sizeOf, typeInfo, zeroValue, hi, hz, hs, hby, ha, hwr, h48, hne, h63, hnx, Question.forced, run_firstCells_none, newRow]
      rw [if_neg h0]
      have hge := grownCap_ge w m 0 e
      have hcm : grownCap w m 0 e ≤ maxLen := grownCap_le_maxLen w m 0 e (by unfold maxLen; omega)
      rw [show (Value.int .u8 0).cells = #[Value.int .u8 0] from rfl, zeroCells_one, zeroCells_one]
      refine ⟨_, _, rfl, ⟨by simp, .inr ⟨w.heap.size, _, _, rfl, hbase, heap_alloc_new w.drew _, hge, hcm, ?_, ?_⟩⟩, ⟨rfl, rfl, rfl, by simp, fun k hk _ => heap_alloc_lt (w := w.drew) hk _⟩, .inr rfl⟩
      · unfold grownCap at hge
        simp
        omega
      · simp
  · by_cases hroom : n + m ≤ cap
    · simp [Builtin.append_, run_underlying ht, run_underlying hx, sizeOf, typeInfo, zeroValue, hi, hz, hs, hby, ha, hwr, h48, hroom]
      rw [if_neg h0]
      have hst := run_storeCells_at P g n e (List.replicate m (Value.int .u8 0)) 0 cur w hg (by simp; omega) hone
      simp only [Nat.add_zero] at hst
      have e1 : (⟨g, 0, none⟩ : Addr).add n = ⟨g, n, none⟩ := Addr_add' g n
      have hst2 : (if m = 0 then (storeCells ((⟨g, 0, none⟩ : Addr).add n) []).run P w else (storeCells ((⟨g, 0, none⟩ : Addr).add n) (Builtin.zeroCells (Value.int .u8 0).cells m).toList).run P w) = .ok () (w.setRow g (cur.toList.take n ++ List.replicate m (Value.int .u8 0) ++ cur.toList.drop (n + (List.replicate m (Value.int .u8 0)).length)).toArray) := by
        rw [e1, ← hst]
        split
        · next h => subst h; rfl
        · rw [show (Value.int .u8 0).cells = #[Value.int .u8 0] from rfl, zeroCells_one]
      have hrun : (if m = 0 then ((storeCells ((⟨g, 0, none⟩ : Addr).add n) []).run P w).andThen fun _ w' => Result.ok (Value.slice (some ⟨g, 0, none⟩) (n + m) cap) w' else ((storeCells ((⟨g, 0, none⟩ : Addr).add n) (Builtin.zeroCells (Value.int .u8 0).cells m).toList).run P w).andThen fun _ w' => Result.ok (Value.slice (some ⟨g, 0, none⟩) (n + m) cap) w') =
          .ok (Value.slice (some ⟨g, 0, none⟩) (n + m) cap) (w.setRow g (cur.toList.take n ++ List.replicate m (Value.int .u8 0) ++ cur.toList.drop (n + (List.replicate m (Value.int .u8 0)).length)).toArray) := by
        split at hst2 <;> simp_all
      refine ⟨_, _, hrun, ⟨by simp [hown.1], .inr ⟨g, cap, _, rfl, hbg, setRow_heap w g cur _ e _ hg, hroom, hcm, ?_, ?_⟩⟩, ⟨rfl, rfl, rfl, by simp, fun k _ hk => setRow_other w g k _ (fun e => hk (by simp [Value.ownBlock, e]))⟩, .inl rfl⟩
      · simp; omega
      · rw [Nat.mul_one] at htake ⊢
        rw [htake]
        have hl : xs.length = n := by rw [hown.1, Nat.mul_one]
        simp [List.take_append, hl]
        exact List.take_of_length_le (by omega)
    · have h63 : ¬ (9223372036854775807 < (n : Int) + (m : Int)) := by omega
      have hnx : ¬ (281474976710656 < Builtin.nextslicecap (n + m) cap) := by have := growslice_fits (old := cap) (need := n + m) (bytes := 1) (by omega) (by omega); omega
      simp [Builtin.append_, run_underlying ht, run_underlying hx, sizeOf, typeInfo, zeroValue, hi, hz, hs, hby, ha, hwr, h48, hroom, h63, hnx, Question.forced, newRow]
      rw [if_neg h0]
      have hne : ¬ m = 0 := by omega
      have holds : ∀ j u, xs[j]? = some u → w.cell? ((⟨g, 0, none⟩ : Addr).add j) = some u := hown.cells (g := g) rfl
      have hf := run_firstCells_some (P := P) w.drew 1 n ⟨g, 0, none⟩ n cap xs hown.1 (by simpa using holds)
      have hge := grownCap_ge w (n + m) cap e
      have hcm2 : grownCap w (n + m) cap e ≤ maxLen := grownCap_le_maxLen w (n + m) cap e (by unfold maxLen; omega)
      rw [hf]
      simp only [Result.andThen_ok, if_neg hne]
      rw [show (Value.int .u8 0).cells = #[Value.int .u8 0] from rfl, zeroCells_one, zeroCells_one]
      have hl : xs.length = n := by rw [hown.1, Nat.mul_one]
      refine ⟨_, _, rfl, ⟨by simp [hl], .inr ⟨w.heap.size, _, _, rfl, hbase, heap_alloc_new w.drew _, hge, hcm2, ?_, ?_⟩⟩, ⟨rfl, rfl, rfl, by simp, fun k hk _ => heap_alloc_lt (w := w.drew) hk _⟩, .inr rfl⟩
      · unfold grownCap at hge
        simp [hl]
        omega
      · simp [List.take_append, hl]
        exact List.take_of_length_le (by omega)
end
end Go.Proofs.YtgjlgamlmmjdpaaGreatDoor
/- command.put: four bytes, the lowest first; append of noughts at this program. -/
namespace Go.Proofs.YtgjlgamlmmjdpaaGreatDoor
open Go.RowKit
set_option maxRecDepth 100000

/-- A buffer of the call's own has grown by some bytes. -/
structure Grew (w : World) (base : Nat) (v : Value) (l : List UInt8) (w' : World) (v' : Value) (new : List UInt8) : Prop where
  buf : Buf w' base v' (l ++ new)
  chg : Chg v.ownBlock.toList w w'
  own : v'.ownBlock = v.ownBlock ∨ ∃ k, v'.ownBlock = some k ∧ w.heap.size ≤ k
theorem Grew.pure0 {w w0 w' : World} {base : Nat} {v v' : Value} {l new : List UInt8} (h : Grew w base v l w' v' new) (hb : Buf w base v l) (k : Chg [] w0 w) (hbase : w0.heap.size ≤ base) : Chg [] w0 w' :=
  k.trans h.chg (fun i hm hi => by have := (World.ownsRow.lt hb i (by simpa using hm)).1; omega)
theorem Grew.trans {w w1 w2 : World} {base : Nat} {v v1 v2 : Value} {l n1 n2 : List UInt8} (h : Grew w base v l w1 v1 n1) (k : Grew w1 base v1 (l ++ n1) w2 v2 n2) : Grew w base v l w2 v2 (n1 ++ n2) := by
  refine ⟨by rw [← List.append_assoc]; exact k.buf, h.chg.trans k.chg (fun i hm hi => ?_), ?_⟩
  · rcases h.own with e | ⟨j, e, hj⟩
    · rw [e] at hm; exact hm
    · rw [e] at hm; simp at hm; omega
  · rcases k.own with e | ⟨j, e, hj⟩
    · rcases h.own with e' | ⟨j, e', hj⟩
      · exact .inl (e.trans e')
      · exact .inr ⟨j, e.trans e', hj⟩
    · exact .inr ⟨j, e, Nat.le_trans h.chg.size hj⟩
theorem Grew.mk' {w w0 w' : World} {base : Nat} {v v' : Value} {l new : List UInt8} (hg : Chg [] w w0) (hb : Buf w' base v' (l ++ new)) (hc : w0.grownBy w' v.ownBlock) (ho : v'.ownBlock = v.ownBlock ∨ v'.ownBlock = some w0.heap.size) : Grew w base v l w' v' new :=
  ⟨hb, hg.add.same (Chg.of_grown hc), ho.imp id fun h => ⟨_, h, hg.size⟩⟩

def le4 (n : Nat) : List UInt8 := [UInt8.ofNat (n % 256), UInt8.ofNat (n / 256 % 256), UInt8.ofNat (n / 65536 % 256), UInt8.ofNat (n / 16777216)]
theorem byteV_nat (x : Nat) (h : x < 256) : byteV (UInt8.ofNat x) = .int .u8 x := by
  have e : (UInt8.ofNat x).toNat = x := by simp; omega
  simp [byteV, e]
theorem bytesV_le4 (n : Nat) (hn : n < 4294967296) : bytesV (le4 n) = [.int .u8 ((n : Int) % 256), .int .u8 ((n : Int) / 256 % 256), .int .u8 ((n : Int) / 65536 % 256), .int .u8 ((n : Int) / 16777216)] := by
  unfold le4 bytesV
  simp only [List.map_cons, List.map_nil]
  rw [byteV_nat _ (by omega), byteV_nat _ (by omega), byteV_nat _ (by omega), byteV_nat _ (by omega)]
  simp
theorem bytesV_zeros (m : Nat) : bytesV (List.replicate m 0) = List.replicate m (.int .u8 0) := by simp [bytesV, byteV]
theorem app_zeros {w : World} {ops : Array Oper} {rest : List Oper} {o : Oper} {a : Act} {Q : Exit → Act → World → Prop} (hgd : o.guard = none) (s x : Operand)
    (ho : o.op = .call { callee := .builtin .append, args := #[s, x], argTypes := #[22, 3] })
    (base : Nat) (v : Value) (l : List UInt8) (hs : a.eval s = v) (hown : Buf w base v l) (m : Nat) (hx : a.eval x = .int .i64 m) (hle : l.length + m ≤ 140737488355328) (hbase : base ≤ w.heap.size)
    (h : ∀ v' w', Buf w' base v' (l ++ List.replicate m 0) → w.grownBy w' v.ownBlock → (v'.ownBlock = v.ownBlock ∨ v'.ownBlock = some w.heap.size) → wpList Tryz.prog ops Q rest (a.put o.dst v') w') :
    wpList Tryz.prog ops Q (o :: rest) a w := by
  obtain ⟨i0, hi, hz0, hz1, hz2⟩ := info_parts Tryz.infoU8
  obtain ⟨v', w', hrun, h1, h2, h3⟩ := run_append_zeros (P := Tryz.prog) w base 22 3 o.type 5 i0 .i64 Tryz.underlying22 Tryz.underlying3 hi hz0 hz1 hz2 v l.length (bytesV l) hown m hle hbase
  refine wpList_plain hgd fun K hK => ?_
  unfold Oper.wp
  simp [execOp, ho, resolve, invoke, builtin, hs, hx, hrun, Result.andThen]
  refine hK _ _ (h v' w' ?_ h2 h3)
  unfold Buf
  rw [bytesV_append, bytesV_zeros, List.length_append, List.length_replicate]
  exact h1

/-- append(b, x...), b a buffer of the call's own. -/
theorem app_buf {w : World} {ops : Array Oper} {rest : List Oper} {o : Oper} {a : Act} {Q : Exit → Act → World → Prop} (hgd : o.guard = none) (s x : Operand)
    (ho : o.op = .call { callee := .builtin .append, args := #[s, x], argTypes := #[22, 22] })
    (base : Nat) (v : Value) (l : List UInt8) (hs : a.eval s = v) (hown : Buf w base v l) (xv : Value) (hx : a.eval x = xv) (new : List UInt8) (hrd : Rd w xv (bytesV new)) (hle : l.length + new.length ≤ 140737488355328) (hbase : base ≤ w.heap.size)
    (h : ∀ v' w', Buf w' base v' (l ++ new) → w.grownBy w' v.ownBlock → (v'.ownBlock = v.ownBlock ∨ v'.ownBlock = some w.heap.size) → wpList Tryz.prog ops Q rest (a.put o.dst v') w') :
    wpList Tryz.prog ops Q (o :: rest) a w :=
  app_bytes_at hgd s x ho base v l.length (bytesV l) hs hown xv hx new hrd hle hbase (fun v' w' h1 h2 h3 => h v' w' (Buf.app h1) h2 h3)
end Go.Proofs.YtgjlgamlmmjdpaaGreatDoor
/- command.One and command.kind, walked. -/
namespace Go.Proofs.YtgjlgamlmmjdpaaGreatDoor
open Go.RowKit
set_option maxRecDepth 100000

def oneN (k : Nat) : Nat := (8 + k + 7) / 8 * 8
def oneL (cmd : Nat) (says : List UInt8) : List UInt8 := (le4 cmd ++ le4 (oneN says.length)) ++ says ++ List.replicate (oneN says.length - 8 - says.length) 0
theorem oneL_len (cmd : Nat) (says : List UInt8) : (oneL cmd says).length = oneN says.length := by
  unfold oneL oneN le4; simp; omega

theorem Buf.form {w : World} {base : Nat} {v : Value} {l : List UInt8} (h : Buf w base v l) : ∃ a cap, v = .slice a l.length cap := by
  obtain ⟨a, n, cap, rfl, hn, _⟩ := h.rd
  rw [bytesV_length] at hn
  subst hn
  exact ⟨a, cap, rfl⟩
theorem Buf.mono {w : World} {base base' : Nat} {v : Value} {l : List UInt8} (h : Buf w base v l) (hb : base' ≤ base) : Buf w base' v l := owned_base h hb


/-- What command.kind says of a subtype and a kind: nil, or an errno. -/
def kindB (sub kind : Int) : Bool := (sub = 0 ∨ sub = 2) ∧ (kind = 2 ∨ kind = 6)
theorem kind_ok (sub kind : Int) (fl : Value) (w : World) (h : kindB sub kind = true) :
    Calls Tryz.prog 73 #[.agg #[.int .i64 sub, .int .i64 kind, fl]] w fun e w' => e = .returned .nilIface ∧ Chg [] w w' := by
  have h' : (sub = 0 ∨ sub = 2) ∧ (kind = 2 ∨ kind = 6) := by simpa [kindB] using h
  clear h
  obtain ⟨rfl | rfl, rfl | rfl⟩ := h'
  all_goals
    go_enter Tryz.func73, Tryz.ntmps73
    go_wp2
    go_ret
    exact ⟨rfl, (Chg.refl _ _).alloc _⟩
theorem kind_no (sub kind : Int) (fl : Value) (w : World) (h : kindB sub kind = false) :
    Calls Tryz.prog 73 #[.agg #[.int .i64 sub, .int .i64 kind, fl]] w fun e w' => e = .returned (.iface 33 (.int .i64 (if sub = 0 ∨ sub = 2 then 7 else 6))) ∧ Chg [] w w' := by
  by_cases hs : sub = 0 ∨ sub = 2
  · have hk : ¬ (kind = 2 ∨ kind = 6) := fun hk => by simp [kindB, hs, hk] at h
    rw [if_pos hs]
    have k1 : (kind != 2) = true := by rw [bne_iff_ne]; omega
    have k2 : (kind != 6) = true := by rw [bne_iff_ne]; omega
    clear h hk
    rcases hs with rfl | rfl
    all_goals
      go_enter Tryz.func73, Tryz.ntmps73
      go_wp2
      go_ret
      exact ⟨rfl, (Chg.refl _ _).alloc _⟩
  · rw [if_neg hs]
    have k1 : (sub != 0) = true := by rw [bne_iff_ne]; omega
    have k2 : (sub != 2) = true := by rw [bne_iff_ne]; omega
    clear h hs
    go_enter Tryz.func73, Tryz.ntmps73
    go_wp2
    go_ret
    exact ⟨rfl, (Chg.refl _ _).alloc _⟩
end Go.Proofs.YtgjlgamlmmjdpaaGreatDoor
