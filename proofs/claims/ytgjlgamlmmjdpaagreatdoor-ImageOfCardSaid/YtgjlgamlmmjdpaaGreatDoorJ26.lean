/- Lemmas, laid together: part 26 of 43. Conditions: none but each lemma's own. -/
import Derived.Test.YtgjlgamlmmjdpaaGreatDoorJ24
import Derived.Test.YtgjlgamlmmjdpaaGreatDoorJ25
import Derived.Test.YtgjlgamlmmjdpaaGreatDoorJ14
import Derived.BigQuiet
import Derived.Deep.QuietTactic
/- The document's Same (of layer 5): two images of the same plain data are the same. -/
namespace Go.Proofs.YtgjlgamlmmjdpaaGreatDoor
open Go.RowKit
set_option maxRecDepth 100000

/-- An image in memory reads as plain data. -/
def DRd (w : World) (m : Img) (p : TP) : Prop := ∃ xs, m.bare = p.m ∧ segL.Rd w (.slice m.segs.a m.segs.n m.segs.cap) xs ∧ xs.length = p.segs.length ∧ (∀ i, i < xs.length → SegRd w (xs.getD i .zero) (p.segs.getD i .zero)) ∧ depL.Rd w (.slice m.deps.a m.deps.n m.deps.cap) p.deps
theorem DRd.frame {w w' : World} {m : Img} {p : TP} (h : DRd w m p) (k : Chg [] w w') : DRd w' m p := by
  obtain ⟨xs, h1, h2, h3, h4, h5⟩ := h
  exact ⟨xs, h1, h2.frame k, h3, fun i hi => (h4 i hi).frame k, h5.frame k⟩
theorem DImg.rd {w : World} {base : Nat} {m : Img} {p : TP} (h : DImg w base m p) : DRd w m p := by
  obtain ⟨xs, h1, h2, h3, h4⟩ := h
  exact ⟨xs, h1, h2.rd, h3.1, fun i hi => ⟨(h3.2 i hi).1, (h3.2 i hi).2.rd⟩, h4.rd⟩
theorem DRd.zero (w : World) (s : Int → Bool) (n : Nat) : DRd w .zero ⟨Img.zero, [], [], s, n⟩ := ⟨[], rfl, Lay.Rd.nil _, rfl, fun i hi => absurd hi (by simp), Lay.Rd.nil _⟩
theorem spn_same (a b : Int) (W : World) : (binOp .neq 30 (.agg #[.int .u64 a, .int .u64 b]) (.agg #[.int .u64 a, .int .u64 b])).run Tryz.prog W = .ok (.bool false) W := by
  have h := Spn.neq ⟨a, b⟩ ⟨a, b⟩ W
  rw [decide_eq_true rfl] at h
  exact h
set_option maxHeartbeats 8000000 in
theorem Same05 (m1 m2 : Img) (P : TP) (w : World) (h1 : DRd w m1 P) (h2 : DRd w m2 P) :
    Calls Tryz.prog 7 #[imgL.val m1, imgL.val m2] w fun e w' => e = .returned (.bool true) ∧ Chg [] w w' := by
  obtain ⟨xs, hb1, hs1, hl1, hk1, hd1⟩ := h1
  obtain ⟨ys, hb2, hs2, hl2, hk2, hd2⟩ := h2
  have hb := hb1.trans hb2.symm
  have e0 : m1.kind = m2.kind := (congrArg Img.kind hb : m1.bare.kind = m2.bare.kind)
  have e1 : m1.sub = m2.sub := (congrArg Img.sub hb : m1.bare.sub = m2.bare.sub)
  have e2 : m1.flags = m2.flags := (congrArg Img.flags hb : m1.bare.flags = m2.bare.flags)
  have e3 : m1.name = m2.name := (congrArg Img.name hb : m1.bare.name = m2.bare.name)
  have e4 : m1.rbO = m2.rbO := (congrArg Img.rbO hb : m1.bare.rbO = m2.bare.rbO)
  have e5 : m1.rbS = m2.rbS := (congrArg Img.rbS hb : m1.bare.rbS = m2.bare.rbS)
  have e6 : m1.bdO = m2.bdO := (congrArg Img.bdO hb : m1.bare.bdO = m2.bare.bdO)
  have e7 : m1.bdS = m2.bdS := (congrArg Img.bdS hb : m1.bare.bdS = m2.bare.bdS)
  have e8 : m1.wkO = m2.wkO := (congrArg Img.wkO hb : m1.bare.wkO = m2.bare.wkO)
  have e9 : m1.wkS = m2.wkS := (congrArg Img.wkS hb : m1.bare.wkS = m2.bare.wkS)
  have e10 : m1.lzO = m2.lzO := (congrArg Img.lzO hb : m1.bare.lzO = m2.bare.lzO)
  have e11 : m1.lzS = m2.lzS := (congrArg Img.lzS hb : m1.bare.lzS = m2.bare.lzS)
  have e12 : m1.trO = m2.trO := (congrArg Img.trO hb : m1.bare.trO = m2.bare.trO)
  have e13 : m1.trS = m2.trS := (congrArg Img.trS hb : m1.bare.trS = m2.bare.trS)
  have e14 : m1.chO = m2.chO := (congrArg Img.chO hb : m1.bare.chO = m2.bare.chO)
  have e15 : m1.chS = m2.chS := (congrArg Img.chS hb : m1.bare.chS = m2.bare.chS)
  have e16 : m1.syO = m2.syO := (congrArg Img.syO hb : m1.bare.syO = m2.bare.syO)
  have e17 : m1.syS = m2.syS := (congrArg Img.syS hb : m1.bare.syS = m2.bare.syS)
  have e18 : m1.stO = m2.stO := (congrArg Img.stO hb : m1.bare.stO = m2.bare.stO)
  have e19 : m1.stS = m2.stS := (congrArg Img.stS hb : m1.bare.stS = m2.bare.stS)
  have e20 : m1.entry = m2.entry := (congrArg Img.entry hb : m1.bare.entry = m2.bare.entry)
  have e21 : m1.has = m2.has := (congrArg Img.has hb : m1.bare.has = m2.bare.has)
  have n1 : m1.segs.n = P.segs.length := by
    obtain ⟨_, _, he, _, _⟩ := hs1.shape
    injection he with _ he2 _
    rw [he2, hl1]
  have n2 : m2.segs.n = P.segs.length := by
    obtain ⟨_, _, he, _, _⟩ := hs2.shape
    injection he with _ he2 _
    rw [he2, hl2]
  have n3 : m1.deps.n = P.deps.length := by
    obtain ⟨_, _, he, _, _⟩ := hd1.shape
    injection he
  have n4' : m2.deps.n = P.deps.length := by
    obtain ⟨_, _, he, _, _⟩ := hd2.shape
    injection he
  have hnm : P.segs.length ≤ 9223372036854775807 ∧ P.deps.length ≤ 9223372036854775807 := by
    obtain ⟨_, _, _, q1, q2⟩ := hs1.shape
    obtain ⟨_, _, _, q3, q4⟩ := hd1.shape
    omega
  have S0 := Lib.hid hs1
  have T0 := Lib.hid hs2
  have D0 := Lib.hid hd1
  have E0' := Lib.hid hd2
  have SK := Lib.hid hk1
  have TK := Lib.hid hk2
  have SL := Lib.hid hl1
  have TL := Lib.hid hl2
  have HNM := Lib.hid hnm
  clear hs1 hs2 hd1 hd2 hk1 hk2 hl1 hl2 hnm
  clear hb hb1 hb2
  have hsp := spn_same
  go_enter Tryz.func7, Tryz.ntmps7
  go_wp2_with ((with_reducible refine Lay.bxL (L := imgL) 32 m1 ?_ ?_); exact rfl; intro W1 b1 eb1 cb1 xb1; replace eb1 := Lib.hid eb1; replace cb1 := Lib.hid cb1; replace xb1 := Lib.hid xb1; refine Hid.out ?_)
  refine Lib.hid ?_
  go_wp2_with ((with_reducible refine Lay.bxL (L := imgL) 32 m2 ?_ ?_); exact rfl; intro W2 b2 eb2 cb2 xb2; replace eb2 := Lib.hid eb2; replace cb2 := Lib.hid cb2; replace xb2 := Lib.hid xb2; refine Hid.out ?_)
  refine Lib.hid ?_
  have c12 : Chg [] w W2 := cb1.out.then cb2.out
  have x1 := xb1.out.frame cb2.out
  have x2 := xb2.out
  have X1 := Lib.hid (x1)
  have X2 := Lib.hid (x2)
  have C12 := Lib.hid (c12)
  have y0 := Img.c_kind x1
  have z0 := Img.c_kind x2
  rw [e0] at y0
  have y1 := Img.c_sub x1
  have z1 := Img.c_sub x2
  rw [e1] at y1
  have y2 := Img.c_flags x1
  have z2 := Img.c_flags x2
  rw [e2] at y2
  have y3 := Img.c_name x1
  have z3 := Img.c_name x2
  rw [e3] at y3
  have y4 := Img.c_rbO x1
  have z4 := Img.c_rbO x2
  rw [e4] at y4
  have y5 := Img.c_rbS x1
  have z5 := Img.c_rbS x2
  rw [e5] at y5
  have y6 := Img.c_bdO x1
  have z6 := Img.c_bdO x2
  rw [e6] at y6
  have y7 := Img.c_bdS x1
  have z7 := Img.c_bdS x2
  rw [e7] at y7
  have y8 := Img.c_wkO x1
  have z8 := Img.c_wkO x2
  rw [e8] at y8
  have y9 := Img.c_wkS x1
  have z9 := Img.c_wkS x2
  rw [e9] at y9
  have y10 := Img.c_lzO x1
  have z10 := Img.c_lzO x2
  rw [e10] at y10
  have y11 := Img.c_lzS x1
  have z11 := Img.c_lzS x2
  rw [e11] at y11
  have y12 := Img.c_trO x1
  have z12 := Img.c_trO x2
  rw [e12] at y12
  have y13 := Img.c_trS x1
  have z13 := Img.c_trS x2
  rw [e13] at y13
  have y14 := Img.c_chO x1
  have z14 := Img.c_chO x2
  rw [e14] at y14
  have y15 := Img.c_chS x1
  have z15 := Img.c_chS x2
  rw [e15] at y15
  have y16 := Img.c_syO x1
  have z16 := Img.c_syO x2
  rw [e16] at y16
  have y17 := Img.c_syS x1
  have z17 := Img.c_syS x2
  rw [e17] at y17
  have y18 := Img.c_stO x1
  have z18 := Img.c_stO x2
  rw [e18] at y18
  have y19 := Img.c_stS x1
  have z19 := Img.c_stS x2
  rw [e19] at y19
  have y20 := Img.c_entry x1
  have z20 := Img.c_entry x2
  rw [e20] at y20
  have y21 := Img.c_has x1
  have z21 := Img.c_has x2
  rw [e21] at y21
  have ys1 := Img.c_segs x1
  have zs1 := Img.c_segs x2
  have yd1 := Img.c_deps x1
  have zd1 := Img.c_deps x2
  rw [n1] at ys1
  rw [n2] at zs1
  rw [n3] at yd1
  rw [n4'] at zd1
  have Q1 := Lib.hid x1
  have Q2 := Lib.hid x2
  have Q3 := Lib.hid c12
  have M1 := Lib.hid n1
  have M2 := Lib.hid n2
  have M3 := Lib.hid n3
  have M4 := Lib.hid n4'
  have EE0 := Lib.hid e0
  have EE1 := Lib.hid e1
  have EE2 := Lib.hid e2
  have EE3 := Lib.hid e3
  have EE4 := Lib.hid e4
  have EE5 := Lib.hid e5
  have EE6 := Lib.hid e6
  have EE7 := Lib.hid e7
  have EE8 := Lib.hid e8
  have EE9 := Lib.hid e9
  have EE10 := Lib.hid e10
  have EE11 := Lib.hid e11
  have EE12 := Lib.hid e12
  have EE13 := Lib.hid e13
  have EE14 := Lib.hid e14
  have EE15 := Lib.hid e15
  have EE16 := Lib.hid e16
  have EE17 := Lib.hid e17
  have EE18 := Lib.hid e18
  have EE19 := Lib.hid e19
  have EE20 := Lib.hid e20
  have EE21 := Lib.hid e21
  clear x1 x2 c12 n1 n2 n3 n4' e0 e1 e2 e3 e4 e5 e6 e7 e8 e9 e10 e11 e12 e13 e14 e15 e16 e17 e18 e19 e20 e21
  go_wp2_with fail
  go_loopw [5] (fun s5 wr => ∃ k : Nat, k ≤ P.segs.length ∧ s5 = .int .i64 (k : Int) ∧ Chg [] W2 wr) (fun s5 _ => P.segs.length - (intOf s5).toNat)
  case atStart => exact ⟨0, Nat.zero_le _, rfl, Chg.refl _ _⟩
  case round =>
    obtain ⟨k, hk, rfl, hc⟩ := hrel
    clear y0 z0 y1 z1 y2 z2 y3 z3 y4 z4 y5 z5 y6 z6 y7 z7 y8 z8 y9 z9 y10 z10 y11 z11 y12 z12 y13 z13 y14 z14 y15 z15 y16 z16 y17 z17 y18 z18 y19 z19 y20 z20 y21 z21 ys1 zs1 yd1 zd1
    have ys1 := Img.c_segs (X1.out.frame hc)
    have zs1 := Img.c_segs (X2.out.frame hc)
    have yd1 := Img.c_deps (X1.out.frame hc)
    have zd1 := Img.c_deps (X2.out.frame hc)
    rw [M1.out] at ys1
    rw [M2.out] at zs1
    rw [M3.out] at yd1
    rw [M4.out] at zd1
    have CW := Lib.hid (hc)
    clear hc
    by_cases hlt : k < P.segs.length
    · have dlt : decide ((k : Int) < (P.segs.length : Int)) = true := decide_eq_true (by omega)
      have hw1 : wrap64 ((k : Int) + 1) = (k : Int) + 1 := by have := HNM.out; unfold wrap64; omega
      obtain ⟨g, o, h1, _, hin1⟩ := S0.out.at (by rw [SL.out]; omega)
      obtain ⟨g', o', h2, _, hin2⟩ := T0.out.at (by rw [TL.out]; omega)
      have i1 := (hin1 k (by rw [SL.out]; exact hlt)).frame (C12.out.then CW.out)
      have i2 := (hin2 k (by rw [TL.out]; exact hlt)).frame (C12.out.then CW.out)
      rw [h1] at ys1
      rw [h2] at zs1
      have q1 := (SK.out k (by rw [SL.out]; exact hlt)).frame (C12.out.then CW.out)
      have q2 := (TK.out k (by rw [TL.out]; exact hlt)).frame (C12.out.then CW.out)
      rw [show segL.d = Seg.zero from rfl] at i1 i2
      rw [show segL.n = 7 from rfl] at i1 i2
      obtain ⟨A, hA⟩ : ∃ A, A = xs.getD k .zero := ⟨_, rfl⟩
      obtain ⟨B, hB⟩ : ∃ B, B = ys.getD k .zero := ⟨_, rfl⟩
      obtain ⟨Q, hQ⟩ : ∃ Q, Q = P.segs.getD k .zero := ⟨_, rfl⟩
      rw [← hA, ← hQ] at q1
      rw [← hB, ← hQ] at q2
      rw [← hA] at i1
      rw [← hB] at i2
      have I1 := Lib.hid i1
      have I2 := Lib.hid i2
      have QA := Lib.hid q1
      have QB := Lib.hid q2
      have Hin1 := Lib.hid hin1
      have Hin2 := Lib.hid hin2
      have H1 := Lib.hid h1
      have H2 := Lib.hid h2
      have HA := Lib.hid hA
      have HB := Lib.hid hB
      have HQ := Lib.hid hQ
      clear i1 i2 q1 q2 hin1 hin2 h1 h2 hA hB hQ
      go_upto_region 8 with fail
      refine wp_region_noPanic ?_
      refine wp_region_held_drew (S := fun w' => Chg [] wr w') (by kernel_rfl) ((Chg.refl _ _).drew) (fun hHeld => ?_)
      refine take_read (i := 0) (v := ?_) (by simp only [List.getElem?_toArray, List.getElem?_cons_zero]; rfl) (by kernel_rfl) (by kernel_rfl) (by kernel_rfl) (fun _ _ _ h => h) hHeld ?_ ?_
      rotate_left
      · intro w hSw
        go_simp
        try with_reducible rfl
      try simp only [Act.put, List.setIfInBounds_toArray, List.set_cons_zero, List.set_cons_succ]
      refine take_read (i := 1) (v := ?_) (by simp only [List.getElem?_toArray, List.getElem?_cons_succ, List.getElem?_cons_zero]; rfl) (by kernel_rfl) (by kernel_rfl) (by kernel_rfl) (fun _ _ _ h => h) hHeld ?_ ?_
      rotate_left
      · intro w hSw
        have ys1 := hSw.cell ys1 (by simp)
        go_simp
        try with_reducible rfl
      try simp only [Act.put, List.setIfInBounds_toArray, List.set_cons_zero, List.set_cons_succ]
      refine take_read (i := 2) (v := ?_) (by simp only [List.getElem?_toArray, List.getElem?_cons_succ, List.getElem?_cons_zero]; rfl) (by kernel_rfl) (by kernel_rfl) (by kernel_rfl) (fun _ _ _ h => h) hHeld ?_ ?_
      rotate_left
      · intro w hSw
        go_simp
        try with_reducible rfl
      try simp only [Act.put, List.setIfInBounds_toArray, List.set_cons_zero, List.set_cons_succ]
      refine take_read (i := 3) (v := ?_) (by simp only [List.getElem?_toArray, List.getElem?_cons_succ, List.getElem?_cons_zero]; rfl) (by kernel_rfl) (by kernel_rfl) (by kernel_rfl) (fun _ _ _ h => h) hHeld ?_ ?_
      rotate_left
      · intro w hSw
        go_simp
        try with_reducible rfl
      try simp only [Act.put, List.setIfInBounds_toArray, List.set_cons_zero, List.set_cons_succ]
      refine take_read (i := 4) (v := ?_) (by simp only [List.getElem?_toArray, List.getElem?_cons_succ, List.getElem?_cons_zero]; rfl) (by kernel_rfl) (by kernel_rfl) (by kernel_rfl) (fun _ _ _ h => h) hHeld ?_ ?_
      rotate_left
      · intro w hSw
        refine Lay.read_ld Tryz.tSg (I1.out.frame hSw) ?_ ?_
        exact rfl
        exact rfl
      try simp only [Act.put, List.setIfInBounds_toArray, List.set_cons_zero, List.set_cons_succ]
      refine take_read (i := 5) (v := ?_) (by simp only [List.getElem?_toArray, List.getElem?_cons_succ, List.getElem?_cons_zero]; rfl) (by kernel_rfl) (by kernel_rfl) (by kernel_rfl) (fun _ _ _ h => h) hHeld ?_ ?_
      rotate_left
      · intro w hSw
        go_simp
        try with_reducible rfl
      try simp only [Act.put, List.setIfInBounds_toArray, List.set_cons_zero, List.set_cons_succ]
      refine take_read (i := 6) (v := ?_) (by simp only [List.getElem?_toArray, List.getElem?_cons_succ, List.getElem?_cons_zero]; rfl) (by kernel_rfl) (by kernel_rfl) (by kernel_rfl) (fun _ _ _ h => h) hHeld ?_ ?_
      rotate_left
      · intro w hSw
        have zs1 := hSw.cell zs1 (by simp)
        go_simp
        try with_reducible rfl
      try simp only [Act.put, List.setIfInBounds_toArray, List.set_cons_zero, List.set_cons_succ]
      refine take_read (i := 7) (v := ?_) (by simp only [List.getElem?_toArray, List.getElem?_cons_succ, List.getElem?_cons_zero]; rfl) (by kernel_rfl) (by kernel_rfl) (by kernel_rfl) (fun _ _ _ h => h) hHeld ?_ ?_
      rotate_left
      · intro w hSw
        go_simp
        try with_reducible rfl
      try simp only [Act.put, List.setIfInBounds_toArray, List.set_cons_zero, List.set_cons_succ]
      refine take_read (i := 8) (v := ?_) (by simp only [List.getElem?_toArray, List.getElem?_cons_succ, List.getElem?_cons_zero]; rfl) (by kernel_rfl) (by kernel_rfl) (by kernel_rfl) (fun _ _ _ h => h) hHeld ?_ ?_
      rotate_left
      · intro w hSw
        go_simp
        try with_reducible rfl
      try simp only [Act.put, List.setIfInBounds_toArray, List.set_cons_zero, List.set_cons_succ]
      refine take_read (i := 9) (v := ?_) (by simp only [List.getElem?_toArray, List.getElem?_cons_succ, List.getElem?_cons_zero]; rfl) (by kernel_rfl) (by kernel_rfl) (by kernel_rfl) (fun _ _ _ h => h) hHeld ?_ ?_
      rotate_left
      · intro w hSw
        refine Lay.read_ld Tryz.tSg (I2.out.frame hSw) ?_ ?_
        exact rfl
        exact rfl
      try simp only [Act.put, List.setIfInBounds_toArray, List.set_cons_zero, List.set_cons_succ]
      refine wpAnyH_ready (rs := [10]) (by kernel_rfl) (by simp) ?_
      refine AllReadyH.cons rfl (fun K hK => ?_) AllReadyH.nil
      go_simp
      refine (SameSeg A B Q _ (QA.out.frame hHeld) (QB.out.frame hHeld)).mono ?_
      rintro e WQ ⟨rfl, hch⟩
      have C9 : Hid (Chg [] wr WQ) := Lib.hid (hHeld.then hch)
      clear hch
      refine hK.out _ _ C9.out (fun hHeld2 => ?_)
      clear hK hHeld K
      have hHeld := hHeld2
      clear hHeld2
      try (unfold Act.put; simp only [List.setIfInBounds_toArray, List.set_cons_zero, List.set_cons_succ])
      refine take_read (i := 11) (v := ?_) (by simp only [List.getElem?_toArray, List.getElem?_cons_succ, List.getElem?_cons_zero]; rfl) (by kernel_rfl) (by kernel_rfl) (by kernel_rfl) (fun _ _ _ h => h) hHeld ?_ ?_
      rotate_left
      · intro w hSw
        go_simp
        try with_reducible rfl
      try simp only [Act.put, List.setIfInBounds_toArray, List.set_cons_zero, List.set_cons_succ]
      refine wpAnyH_done (by kernel_rfl) ?_ _
      refine NoPanic.normal ?_
      go_wp2
      go_roundw
      case rel => exact ⟨k + 1, hlt, (congrArg (Value.int .i64) hw1).trans rfl, CW.out.then C9.out⟩
      case measure =>
        rw [hw1]
        show P.segs.length - ((k : Int) + 1).toNat < P.segs.length - (k : Int).toNat
        omega
    · obtain rfl : k = P.segs.length := by omega
      have dlt : decide ((P.segs.length : Int) < (P.segs.length : Int)) = false := decide_eq_false (by omega)
      have CU := Lib.hid (CW.out)
      obtain ⟨wz, hwz⟩ : ∃ wz, wz = wr := ⟨_, rfl⟩
      rw [← hwz] at ys1 zs1 yd1 zd1 CU
      rw [← hwz]
      clear CW hwz
      go_wp2_with fail
      go_loopw [6] (fun s6 wr => ∃ k : Nat, k ≤ P.deps.length ∧ s6 = .int .i64 (k : Int) ∧ Chg [] wz wr) (fun s6 _ => P.deps.length - (intOf s6).toNat)
      case atStart => exact ⟨0, Nat.zero_le _, rfl, Chg.refl _ _⟩
      case round =>
        obtain ⟨k, hk, rfl, hc⟩ := hrel
        replace yd1 := hc.cell yd1 (by simp)
        replace zd1 := hc.cell zd1 (by simp)
        have CV := Lib.hid (hc)
        clear hc ys1 zs1
        by_cases hlt : k < P.deps.length
        · have dlt : decide ((k : Int) < (P.deps.length : Int)) = true := decide_eq_true (by omega)
          have hw1 : wrap64 ((k : Int) + 1) = (k : Int) + 1 := by have := HNM.out; unfold wrap64; omega
          obtain ⟨g, o, h1, _, hin1⟩ := D0.out.at (by omega)
          obtain ⟨g', o', h2, _, hin2⟩ := E0'.out.at (by omega)
          have i1 := (hin1 k hlt).frame (C12.out.then (CU.out.then CV.out))
          have i2 := (hin2 k hlt).frame (C12.out.then (CU.out.then CV.out))
          rw [h1] at yd1
          rw [h2] at zd1
          obtain ⟨X, hX⟩ : ∃ X, X = P.deps.getD k depL.d := ⟨_, rfl⟩
          rw [← hX] at i1 i2
          rw [show depL.n = 2 from rfl] at i1 i2
          obtain ⟨a0, a1⟩ := Dep.at i1
          obtain ⟨b0', b1'⟩ := Dep.at i2
          have hneq := Dep.neq X X
          rw [decide_eq_true rfl] at hneq
          have I1 := Lib.hid i1
          have I2 := Lib.hid i2
          have HX := Lib.hid hX
          have Hin1 := Lib.hid hin1
          have Hin2 := Lib.hid hin2
          have H1 := Lib.hid h1
          have H2 := Lib.hid h2
          clear i1 i2 hX hin1 hin2 h1 h2
          go_upto_region 13 with fail
          go_quiet (fail)
          go_wp2
          go_roundw
          case rel => exact ⟨k + 1, hlt, (congrArg (Value.int .i64) hw1).trans rfl, CV.out.then ((Chg.refl _ _).drewN _)⟩
          case measure =>
            rw [hw1]
            show P.deps.length - ((k : Int) + 1).toNat < P.deps.length - (k : Int).toNat
            omega
        · obtain rfl : k = P.deps.length := by omega
          have dlt : decide ((P.deps.length : Int) < (P.deps.length : Int)) = false := decide_eq_false (by omega)
          go_wp2
          go_ret
          exact ⟨rfl, C12.out.then (CU.out.then CV.out)⟩
end Go.Proofs.YtgjlgamlmmjdpaaGreatDoor
