/- Lemmas, laid together: part 38 of 38. Conditions: none but each lemma's own. -/
import Derived.Test.YtgjlgamlmmjdpaaDoorJ34
import Derived.Test.YtgjlgamlmmjdpaaDoorJ37
/- clevislaw05.LoadAhead, walked. -/
namespace Go.Proofs.YtgjlgamlmmjdpaaDoor
open Go.RowKit
set_option maxRecDepth 100000

set_option maxHeartbeats 4000000 in
theorem LoadAhead_big (w : World) (hg : Env w) (l : List UInt8) (a : Option Addr) (cap : Nat) (mo : List UInt8) (a2 : Option Addr) (cap2 : Nat) (h : 20000 < l.length) :
    Calls Tryd.prog 3 #[.slice a l.length cap, .slice a2 mo.length cap2] w fun e w' => e = .returned (.bool true) ∧ Chg [] w w' := by
  have d1 : decide ((20000 : Int) < (l.length : Int)) = true := decide_eq_true (by omega)
  have d1' : decide (20000 < l.length) = true := decide_eq_true h
  have Hg := Lib.hid hg
  have H := Lib.hid h
  clear hg h
  go_enter Tryd.func3, Tryd.ntmps3
  go_wp2_with fail
  refine (known5_any _ (Hg.out)).mono ?_
  rintro e WK ⟨rfl, hk⟩
  have Hk := Lib.hid hk
  clear hk
  go_wp2
  go_ret
  exact ⟨rfl, Hk.out⟩
set_option maxHeartbeats 4000000 in
theorem LoadAhead_more (w : World) (hg : Env w) (l : List UInt8) (a : Option Addr) (cap : Nat) (mo : List UInt8) (a2 : Option Addr) (cap2 : Nat) (h : ¬ 20000 < l.length) (h5 : 5000 < mo.length) :
    Calls Tryd.prog 3 #[.slice a l.length cap, .slice a2 mo.length cap2] w fun e w' => e = .returned (.bool true) ∧ Chg [] w w' := by
  have d1 : decide ((20000 : Int) < (l.length : Int)) = false := decide_eq_false (by omega)
  have d1' : decide (20000 < l.length) = false := decide_eq_false h
  have d2 : decide ((5000 : Int) < (mo.length : Int)) = true := decide_eq_true (by omega)
  have d2' : decide (5000 < mo.length) = true := decide_eq_true h5
  have Hg := Lib.hid hg
  have H := Lib.hid h
  have H5 := Lib.hid h5
  clear hg h h5
  go_enter Tryd.func3, Tryd.ntmps3
  go_wp2_with fail
  refine (known5_any _ (Hg.out)).mono ?_
  rintro e WK ⟨rfl, hk⟩
  have Hk := Lib.hid hk
  clear hk
  go_wp2
  go_ret
  exact ⟨rfl, Hk.out⟩
set_option maxHeartbeats 8000000 in
theorem LoadAhead_bad (w : World) (hg : Env w) (l : List UInt8) (a : Option Addr) (cap : Nat) (mo : List UInt8) (a2 : Option Addr) (cap2 : Nat) (rd : byteL.Rd w (.slice a l.length cap) l) (h : ¬ 20000 < l.length) (h5 : ¬ 5000 < mo.length) (hE : ¬ readE l = 0) :
    Calls Tryd.prog 3 #[.slice a l.length cap, .slice a2 mo.length cap2] w fun e w' => e = .returned (.bool true) ∧ Chg [] w w' := by
  have d1 : decide ((20000 : Int) < (l.length : Int)) = false := decide_eq_false (by omega)
  have d1' : decide (20000 < l.length) = false := decide_eq_false h
  have d2 : decide ((5000 : Int) < (mo.length : Int)) = false := decide_eq_false (by omega)
  have d2' : decide (5000 < mo.length) = false := decide_eq_false h5
  have hrr := fun w rd => RRead_any l a cap w rd (by omega)
  unfold RReadsAll at hrr
  have hrn : ∀ n, rN l n = 0 := fun n => by unfold rN; rw [if_neg hE]
  simp only [hrn] at hrr
  obtain ⟨E, hEE⟩ : ∃ E, E = readE l := ⟨_, rfl⟩
  rw [← hEE] at hE hrr
  have d0 : (E != 0) = true := by rw [bne_iff_ne]; exact hE
  have Hg := Lib.hid hg
  have H := Lib.hid h
  have H5 := Lib.hid h5
  have RD := Lib.hid rd
  have HRR := Lib.hid hrr
  have HE := Lib.hid hE
  have HEE := Lib.hid hEE
  have Hrn := Lib.hid hrn
  clear hg h h5 rd hrr hE hEE hrn
  go_enter Tryd.func3, Tryd.ntmps3
  go_wp2_with fail
  refine (HRR.out w (Rd_of_byte RD.out)).mono ?_
  rintro e W1 ⟨v, ps, base, rfl, hown, heach, hmap, hch⟩
  obtain ⟨va, vn, vc, rfl⟩ := own_form hown
  have C1 := Lib.hid (hch)
  clear hown heach hmap hch
  go_wp2_with ((with_reducible refine Lay.alL Tryd.tHdr ?_); intro W2 bh ebh cbh xbh; replace ebh := Lib.hid ebh; replace cbh := Lib.hid cbh; replace xbh := Lib.hid xbh; refine Hid.out ?_)
  refine Lib.hid ?_
  go_wp2_with ((with_reducible refine Lay.stL Tryd.tHdr (⟨((0 : Nat) : Int), ((0 : Nat) : Int), ((0 : Nat) : Int)⟩ : Hdr) (xbh.out) ?_ ?_ ?_); exact rfl; exact rfl; intro W3 cW3 xW3; replace cW3 := Lib.hid cW3; replace xW3 := Lib.hid xW3; refine Hid.out ?_)
  refine Lib.hid ?_
  have C3 := Lib.hid (C1.out.then (cbh.out.new cW3.out (by rw [ebh.out]; exact Nat.le_refl _)))
  go_wp2_with fail
  refine (known5_any _ ((Hg.out.frame C3.out (by simp)))).mono ?_
  rintro e WK ⟨rfl, hk⟩
  have Hk := Lib.hid hk
  clear hk
  go_wp2
  go_ret
  exact ⟨rfl, C3.out.then Hk.out⟩
set_option maxHeartbeats 1500000 in
theorem LoadAhead_good (w : World) (hg : Env w) (l : List UInt8) (a : Option Addr) (cap : Nat) (mo : List UInt8) (a2 : Option Addr) (cap2 : Nat) (rd : byteL.Rd w (.slice a l.length cap) l) (rd2 : byteL.Rd w (.slice a2 mo.length cap2) mo) (h : ¬ 20000 < l.length) (h5 : ¬ 5000 < mo.length) (hE : readE l = 0) :
    Calls Tryd.prog 3 #[.slice a l.length cap, .slice a2 mo.length cap2] w fun e w' => e = .returned (.bool true) ∧ Chg [] w w' := by
  have d1 : decide ((20000 : Int) < (l.length : Int)) = false := decide_eq_false (by omega)
  have d1' : decide (20000 < l.length) = false := decide_eq_false h
  have d2 : decide ((5000 : Int) < (mo.length : Int)) = false := decide_eq_false (by omega)
  have d2' : decide (5000 < mo.length) = false := decide_eq_false h5
  have hrr := fun w rd => RRead_any l a cap w rd (by omega)
  unfold RReadsAll at hrr
  have hrn : ∀ n, rN l n = n := fun n => by unfold rN; rw [if_pos hE]
  simp only [hrn, hE] at hrr
  have hlen := headE_len (readE_0 hE).1
  have hah := image_ahead l mo hE
  obtain ⟨n, hn⟩ : ∃ n : Nat, n = 32 + nL l 20 := ⟨_, rfl⟩
  rw [← hn] at hrr hlen hah
  have hn0 : ¬ n = 0 := by omega
  obtain ⟨b, off, rfl, hbw⟩ := rd.at (by omega)
  clear hbw
  obtain ⟨hcl, hcm⟩ : l.length ≤ cap ∧ cap ≤ 9223372036854775807 := by
    obtain ⟨_, _, he, q1, q2⟩ := rd.shape
    injection he with _ _ he3
    subst he3
    exact ⟨q1, q2⟩
  have him := fun w hg rd => Image_any l (by omega) (some ⟨b, off, none⟩) cap w hg rd
  have him2 := fun (v : Option Addr) (c : Nat) w hg rd => Image_any (l.take n ++ mo) (by rw [List.length_append, List.length_take]; omega) v c w hg rd
  unfold ImgSays at him him2
  rw [hah.1, hah.2] at him2
  obtain ⟨E, hEE⟩ : ∃ E, E = imgE l := ⟨_, rfl⟩
  rw [← hEE] at him him2
  obtain ⟨P, hP⟩ : ∃ P, P = imgP l := ⟨_, rfl⟩
  rw [← hP] at him him2
  obtain ⟨K, hK⟩ : ∃ K : Nat, K = nL l 12 := ⟨_, rfl⟩
  obtain ⟨S, hS⟩ : ∃ S : Nat, S = hdSub l := ⟨_, rfl⟩
  obtain ⟨F, hF⟩ : ∃ F : Nat, F = nL l 24 := ⟨_, rfl⟩
  rw [← hK, ← hS, ← hF] at hrr
  obtain ⟨r, hr⟩ : ∃ r, r = l.take n ++ mo := ⟨_, rfl⟩
  rw [← hr] at him2
  have hlt : (l.take n).length = n := by rw [List.length_take]; omega
  have htn : ([] : List UInt8) ++ l.take n = l.take n := rfl
  have Hg := Lib.hid hg
  have H := Lib.hid h
  have H5 := Lib.hid h5
  have RD := Lib.hid rd
  have RD2 := Lib.hid rd2
  have HRR := Lib.hid hrr
  have HE := Lib.hid hE
  have HEE := Lib.hid hEE
  have Hrn := Lib.hid hrn
  have HIM := Lib.hid him
  have HIM2 := Lib.hid him2
  have HP := Lib.hid hP
  have HK := Lib.hid hK
  have HS := Lib.hid hS
  have HF := Lib.hid hF
  have Hn := Lib.hid hn
  have Hah := Lib.hid hah
  have HRW := Lib.hid hr
  have Hlt := Lib.hid hlt
  have Htn := Lib.hid htn
  clear hg h h5 rd rd2 hrr hE hEE hrn him him2 hP hK hS hF hn hah hr hlt htn
  go_enter Tryd.func3, Tryd.ntmps3
  go_wp2_with fail
  refine (HRR.out w (Rd_of_byte RD.out)).mono ?_
  rintro e W1 ⟨v, ps, base, rfl, hown, heach, hmap, hch⟩
  obtain ⟨va, vn, vc, rfl⟩ := own_form hown
  have C1 := Lib.hid (hch)
  clear hown heach hmap hch
  go_wp2_with ((with_reducible refine Lay.alL Tryd.tHdr ?_); intro W2 bh ebh cbh xbh; replace ebh := Lib.hid ebh; replace cbh := Lib.hid cbh; replace xbh := Lib.hid xbh; refine Hid.out ?_)
  refine Lib.hid ?_
  go_wp2_with ((with_reducible refine Lay.stL Tryd.tHdr (⟨(S : Nat), (K : Nat), (F : Nat)⟩ : Hdr) (xbh.out) ?_ ?_ ?_); exact rfl; exact rfl; intro W3 cW3 xW3; replace cW3 := Lib.hid cW3; replace xW3 := Lib.hid xW3; refine Hid.out ?_)
  refine Lib.hid ?_
  have C3 := Lib.hid (C1.out.then (cbh.out.new cW3.out (by rw [ebh.out]; exact Nat.le_refl _)))
  go_wp2_with fail
  refine (HIM.out W3 (Hg.out.frame C3.out (by simp)) (RD.out.frame C3.out)).mono ?_
  rintro e W4 ⟨m, rfl, hch, hd, hz⟩
  have C4 := Lib.hid (C3.out.then hch)
  have DM : Hid (DRd W4 m (if E = 0 then P else ⟨Img.zero, [], [], fun _ => false, 0⟩)) := by
    refine Lib.hid ?_
    by_cases h0 : E = 0
    · rw [if_pos h0]; exact (hd h0).rd
    · rw [if_neg h0, hz h0]; exact DRd.zero _ _ _
  clear hch hd hz
  go_wp2_with ((with_reducible refine Lay.alL Tryd.tIm ?_); intro W5 bm ebm cbm xbm; replace ebm := Lib.hid ebm; replace cbm := Lib.hid cbm; replace xbm := Lib.hid xbm; refine Hid.out ?_)
  refine Lib.hid ?_
  go_wp2_with ((with_reducible refine Lay.stL Tryd.tIm m (xbm.out) ?_ ?_ ?_); exact rfl; exact rfl; intro W6 cW6 xW6; replace cW6 := Lib.hid cW6; replace xW6 := Lib.hid xW6; refine Hid.out ?_)
  refine Lib.hid ?_
  have c46 := cbm.out.new cW6.out (by rw [ebm.out]; exact Nat.le_refl _)
  have C6 := Lib.hid (C4.out.then c46)
  have DM6 := Lib.hid (DM.out.frame c46)
  have XM6 := Lib.hid (xW6.out)
  clear c46 DM
  have B0 : Hid (Buf W6 W6.heap.size (.slice none 0 0) []) := Lib.hid (World.ownsRow_nil W6 _ _ 1)
  have RT := Lib.hid (Rd_takeG (Rd_of_byte (RD.out.frame C6.out)) hlen)
  go_wp2_with (at_builtin; refine app_buf rfl _ _ rfl W6.heap.size (.slice none 0 0) [] rfl B0.out _ rfl (l.take n) RT.out (by have h2 := H.out; rw [Hlt.out]; simp; omega) (Nat.le_refl _) ?_; intro v7 W7 hoa hga haa; replace hoa := Lib.hid hoa; replace hga := Lib.hid hga; clear haa; refine Hid.out ?_)
  refine Lib.hid ?_
  have c67 : Chg [] W6 W7 := Lay.chg_grown hga.out
  have HK67 := Lib.hid (c67)
  have hoa := hoa.out
  rw [Htn.out] at hoa
  have B7 := Lib.hid (hoa)
  have C7 := Lib.hid (C6.out.then c67)
  have DM7 := Lib.hid (DM6.out.frame c67)
  have XM7 := Lib.hid (XM6.out.frame c67)
  have hs67 := c67.size
  clear hga hoa c67
  have RM7 := Lib.hid (Rd_of_byte (RD2.out.frame C7.out))
  go_wp2_with (at_builtin; refine app_buf rfl _ _ rfl W6.heap.size v7 (l.take n) rfl B7.out _ rfl mo RM7.out (by have h2 := H.out; have h3 := H5.out; rw [Hlt.out]; omega) hs67 ?_; intro v8 W8 hoa hga haa; replace hoa := Lib.hid hoa; replace hga := Lib.hid hga; clear haa; refine Hid.out ?_)
  refine Lib.hid ?_
  have hoa := hoa.out
  rw [← HRW.out] at hoa
  have B8 := Lib.hid (Rd_to_byte (Rd.owned hoa))
  have C8 := Lib.hid (C7.out.trans (Lay.chg_grown hga.out) (fun i hm hi => by have := (World.ownsRow.lt B7.out i (by simpa using hm)).1; have := C6.out.size; omega))
  have C68 : Hid (Chg [] W6 W8) := by
    refine Lib.hid ?_
    have k67 : Chg [] W6 W7 := HK67.out
    exact k67.trans (Lay.chg_grown hga.out) (fun i hm hi => by have := (World.ownsRow.lt B7.out i (by simpa using hm)).1; omega)
  have DM8 := Lib.hid (DM6.out.frame C68.out)
  have XM8 := Lib.hid (XM6.out.frame C68.out)
  obtain ⟨a8, c8, hv8, _, _⟩ := B8.out.shape
  subst hv8
  clear hoa hga hs67 DM7 XM7 RM7 B7 B0 RT
  go_wp2_with fail
  refine (HIM2.out a8 c8 W8 (Hg.out.frame C8.out (by simp)) B8.out).mono ?_
  rintro e W9 ⟨o, rfl, hch, hd, hz⟩
  have C9 := Lib.hid (C8.out.then hch)
  have DO : Hid (DRd W9 o (if E = 0 then P else ⟨Img.zero, [], [], fun _ => false, 0⟩)) := by
    refine Lib.hid ?_
    by_cases h0 : E = 0
    · rw [if_pos h0]; exact (hd h0).rd
    · rw [if_neg h0, hz h0]; exact DRd.zero _ _ _
  have DM9 := Lib.hid (DM8.out.frame hch)
  have XM9 := Lib.hid (XM8.out.frame hch)
  clear hch hd hz
  go_wp2_with ((with_reducible refine Lay.alL Tryd.tIm ?_); intro WA bo ebo cbo xbo; replace ebo := Lib.hid ebo; replace cbo := Lib.hid cbo; replace xbo := Lib.hid xbo; refine Hid.out ?_)
  refine Lib.hid ?_
  go_wp2_with ((with_reducible refine Lay.stL Tryd.tIm o (xbo.out) ?_ ?_ ?_); exact rfl; exact rfl; intro WB cWB xWB; replace cWB := Lib.hid cWB; replace xWB := Lib.hid xWB; refine Hid.out ?_)
  refine Lib.hid ?_
  have cAB := cbo.out.new cWB.out (by rw [ebo.out]; exact Nat.le_refl _)
  have CB := Lib.hid (C9.out.then cAB)
  have DMB := Lib.hid (DM9.out.frame cAB)
  have DOB := Lib.hid (DO.out.frame cAB)
  have XMB := Lib.hid (XM9.out.frame cAB)
  clear cAB
  have hee : (E == E) = true := by simp
  go_wp2_with ((with_reducible refine ldG Tryd.tIm m (XMB.out.in) ?_ ?_ ?_); exact rfl; exact rfl; refine Hid.out ?_)
  refine Lib.hid ?_
  go_wp2_with ((with_reducible refine ldG Tryd.tIm o (xWB.out.in) ?_ ?_ ?_); exact rfl; exact rfl; refine Hid.out ?_)
  refine Lib.hid ?_
  go_wp2_with fail
  refine (Same05 m o _ WB DMB.out DOB.out).mono ?_
  rintro e WC ⟨rfl, hch⟩
  have CC := Lib.hid (CB.out.then hch)
  clear hch
  go_wp2_with fail
  refine (known5_any _ ((Hg.out.frame CC.out (by simp)))).mono ?_
  rintro e WK ⟨rfl, hk⟩
  have Hk := Lib.hid hk
  clear hk
  go_wp2
  go_ret
  exact ⟨rfl, CC.out.then Hk.out⟩
theorem LoadAhead_walk (w : World) (hg : Env w) (l : List UInt8) (a : Option Addr) (cap : Nat) (rd : Rd w (.slice a l.length cap) (bytesV l)) (mo : List UInt8) (a2 : Option Addr) (cap2 : Nat) (rd2 : Rd w (.slice a2 mo.length cap2) (bytesV mo)) :
    Calls Tryd.prog 3 #[.slice a l.length cap, .slice a2 mo.length cap2] w fun e w' => e = .returned (.bool true) ∧ Chg [] w w' := by
  by_cases h : 20000 < l.length
  · exact LoadAhead_big w hg l a cap mo a2 cap2 h
  · by_cases h5 : 5000 < mo.length
    · exact LoadAhead_more w hg l a cap mo a2 cap2 h h5
    · by_cases hE : readE l = 0
      · exact LoadAhead_good w hg l a cap mo a2 cap2 (Rd_to_byte rd) (Rd_to_byte rd2) h h5 hE
      · exact LoadAhead_bad w hg l a cap mo a2 cap2 (Rd_to_byte rd) h h5 hE
end Go.Proofs.YtgjlgamlmmjdpaaDoor
