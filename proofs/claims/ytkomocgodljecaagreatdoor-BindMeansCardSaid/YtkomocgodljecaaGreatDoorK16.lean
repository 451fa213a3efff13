/- Lemmas, laid together: part 16 of 41. Conditions: none but each lemma's own. -/
import Derived.Test.YtkomocgodljecaaGreatDoorK15
import Derived.Shelf.LaysM
import Derived.Shelf.Bytes.SlIndexAt
import Derived.Shelf.Bytes.IndexByte
import Derived.Test.YtkomocgodljecaaGreatDoorProg
/- bind: binds, where they may be. -/
namespace Go.Proofs.YtkomocgodljecaaGreatDoor
open Go.RowKit
set_option maxRecDepth 100000

set_option linter.unusedSimpArgs false in
set_option maxHeartbeats 8000000 in
theorem binds_ok (b base : Nat) (r : Brd) (A n : Nat) (hA : r.f.at_ = A) (hA2 : A + 8 * n < 18446744073709551616) (sy : ByteArray) (hsy : ¬ sy.toList = []) (hs : r.f.sym = sy) (hi : r.is_ = true) (ht : r.typ = 1) (ls : List Seg) (hls : SegsB ls) (hwr : ∀ j, j < n → writS ls ((A + 8 * j : Nat) : Int) 8 = true) (fs : List Fx) (hfs : fs.length + n ≤ 20000) (w : World)
    (hb : brdL.Box w b r) (hrd : segL.Rd w r.m.segs.v ls) (hfb : FB w base r.out.v fs) (hbb : b < base) (hbw : base ≤ w.heap.size) (hs1 : ∀ k, r.m.segs.v.ownBlock = some k → k < b) :
    Calls Tryz.prog 75 #[.pointer (some ⟨b, 0, none⟩), .int .u64 n, .int .u64 0] w fun e w' => e = .returned (.tuple #[]) ∧ BnP b base r (A + 8 * n) (fs ++ bndW r.f A n) w w' := by
  have x1 := Brd.c_is hb
  rw [hi] at x1
  have x2 := Brd.c_sym hb
  rw [hs] at x2
  have x3 := Brd.c_typ hb
  rw [ht] at x3
  have hsy2 : (sy.toList == []) = false := by simpa using hsy
  have hsy3 : decide (sy.toList = []) = false := by simpa using hsy
  have x6 := Brd.c_out hb
  have hno : r.out.n = fs.length := by
    obtain ⟨a, c, he, _, _⟩ := hfb.rd.shape
    unfold SlV.v at he
    injection he
  rw [hno] at x6
  have hw1 : IntKind.i64.wrap (20000 - (fs.length : Int)) = 20000 - (fs.length : Int) := by rw [IntKind.wrap_i64]; omega
  have hw2 : IntKind.u64.wrap (20000 - (fs.length : Int)) = 20000 - (fs.length : Int) := by rw [IntKind.wrap_u64]; omega
  have hw3 : IntKind.i64.wrap (n : Int) = (n : Int) := by rw [IntKind.wrap_i64]; omega
  have d1 : decide (20000 - (fs.length : Int) < (n : Int)) = false := by simp; omega
  have hob : ∀ k, r.out.v.ownBlock = some k → base ≤ k := fun k hk => (hfb.lt k hk).1
  have HON := Lib.hid (fun (A' n' : Nat) (r' : Brd) w h1 h2 hb => on_ok b r' A' n' h1 h2 w hb)
  have hx2 : r.f.at_ = ((A + 8 * 0 : Nat) : Int) := by rw [hA]; rfl
  have Hb := Lib.hid hb
  have HRD := Lib.hid hrd
  have HFB := Lib.hid hfb
  have Hls := Lib.hid hls
  have HA2 := Lib.hid hA2
  have Hwr := Lib.hid hwr
  have HA := Lib.hid hA
  have Hob := Lib.hid hob
  have Hno := Lib.hid hno
  have Hx2 := Lib.hid hx2
  have Hs1 := Lib.hid hs1
  have Hs := Lib.hid hs
  have Hi := Lib.hid hi
  have Ht := Lib.hid ht
  clear hb hrd hfb hls hA2 hwr hA hob hno hx2 hs1 hs hi ht
  go_enter Tryz.func75, Tryz.ntmps75
  go_wp2_with fail
  refine (refuse_ok 14 _).mono ?_
  rintro e W0 ⟨rfl, rfl⟩
  go_wp2_with fail
  refine (refuse_ok 11 _).mono ?_
  rintro e W0 ⟨rfl, rfl⟩
  clear x1 x2 x3 x6
  go_wp2_with fail
  go_loopw [39] (fun s39 wr => ∃ (k : Nat) (so : SlV), k ≤ n ∧ s39 = .int .i64 (k : Int) ∧ brdL.Box wr b { r with f := { r.f with at_ := ((A + 8 * k : Nat) : Int) }, out := so } ∧ FB wr base so.v (fs ++ bndW r.f A k) ∧ Chg (b :: r.out.v.ownBlock.toList) W0 wr ∧ (so.v.ownBlock = r.out.v.ownBlock ∨ ∃ g, so.v.ownBlock = some g ∧ W0.heap.size ≤ g)) (fun s39 _ => n - (intOf s39).toNat)
  case atStart => exact ⟨0, r.out, Nat.zero_le _, rfl, by rw [← Hx2.out]; exact Hb.out, by simpa [bndW] using HFB.out, Chg.refl _ _, .inl rfl⟩
  case round =>
    obtain ⟨k, so, hk, rfl, h1, h2, h3, h4⟩ := hrel
    have C := Lib.hid h3
    have OW := Lib.hid h4
    clear h3 h4
    by_cases hlt : k < n
    · have hsa : segL.Rd wr r.m.segs.v ls := HRD.out.frameS C.out (fun i hi hm => by
        have := Hs1.out i hi
        rcases List.mem_cons.1 hm with h | h
        · omega
        · have := Hob.out i (by simpa using h); omega)
      have HWR := Lib.hid (fun w rd => Writable_any r.m ls Hls.out ((A + 8 * k : Nat) : Int) 8 (by have := HA2.out; omega) w rd)
      rw [Hwr.out k hlt] at HWR
      obtain ⟨r1, hr1⟩ : ∃ r1, r1 = { r with f := { r.f with at_ := ((A + 8 * k : Nat) : Int) }, out := so } := ⟨_, rfl⟩
      have hat1 : r1.f.at_ = ((A + 8 * k : Nat) : Int) := by rw [hr1]
      have hm1 : r1.m = r.m := by rw [hr1]
      have ho1 : r1.out = so := by rw [hr1]
      rw [← hr1] at h1
      obtain ⟨fs1, hf1⟩ : ∃ fs1, fs1 = fs ++ bndW r.f A k := ⟨_, rfl⟩
      rw [← hf1, ← ho1] at h2
      rw [← hm1] at hsa HWR
      have hl1 : fs1.length + 1 ≤ 100000 := by rw [hf1, List.length_append, bndW_len]; omega
      have hob1 : ∀ i, r1.out.v.ownBlock = some i → base ≤ i := fun i hi => (h2.lt i hi).1
      have x27 := Brd.c_at h1
      rw [hat1] at x27
      have hbn : b < wr.heap.size := h1.lt
      have HSA := Lib.hid hsa
      have HR0 := Lib.hid hr1
      have HR1 := Lib.hid hat1
      have HF1 := Lib.hid hf1
      have B := Lib.hid h1
      have F := Lib.hid h2
      have Hm1 := Lib.hid hm1
      have Ho1 := Lib.hid ho1
      have HOB1 := Lib.hid hob1
      clear hsa hr1 hat1 hf1 h1 h2 hm1 ho1 hob1
      go_upto_region 4 with fail
      refine wp_region_noPanic ?_
      refine wp_region_held_drew (S := fun w' => Chg [] wr w') (by kernel_rfl) ((Chg.refl _ _).drew) (fun hHeld => ?_)
      refine take_read (i := 0) (v := ?_) (by simp only [List.getElem?_toArray, List.getElem?_cons_zero]; rfl) (by kernel_rfl) (by kernel_rfl) (by kernel_rfl) (fun _ _ _ h => h) hHeld ?_ ?_
      rotate_left
      · intro w hSw
        go_simp
        try with_reducible rfl
      try simp only [Act.put, List.setIfInBounds_toArray, List.set_cons_zero, List.set_cons_succ]
      refine take_read (i := 1) (v := ?_) (by simp only [List.getElem?_toArray, List.getElem?_cons_succ, List.getElem?_cons_zero]; rfl) (by kernel_rfl) (by kernel_rfl) (by kernel_rfl) (fun _ _ _ h => h) hHeld ?_ ?_
      rotate_left
      · intro w hSw
        go_simp
        try with_reducible rfl
      try simp only [Act.put, List.setIfInBounds_toArray, List.set_cons_zero, List.set_cons_succ]
      refine take_read (i := 2) (v := ?_) (by simp only [List.getElem?_toArray, List.getElem?_cons_succ, List.getElem?_cons_zero]; rfl) (by kernel_rfl) (by kernel_rfl) (by kernel_rfl) (fun _ _ _ h => h) hHeld ?_ ?_
      rotate_left
      · intro w hSw
        go_simp
        try with_reducible rfl
      try simp only [Act.put, List.setIfInBounds_toArray, List.set_cons_zero, List.set_cons_succ]
      refine take_read (i := 3) (v := ?_) (by simp only [List.getElem?_toArray, List.getElem?_cons_succ, List.getElem?_cons_zero]; rfl) (by kernel_rfl) (by kernel_rfl) (by kernel_rfl) (fun _ _ _ h => h) hHeld ?_ ?_
      rotate_left
      · intro w hSw
        refine Lay.read_ld Tryz.tImg ((Brd.i_m (B.out.frame hSw))) ?_ ?_
        exact rfl
        exact rfl
      try simp only [Act.put, List.setIfInBounds_toArray, List.set_cons_zero, List.set_cons_succ]
      refine take_read (i := 4) (v := ?_) (by simp only [List.getElem?_toArray, List.getElem?_cons_succ, List.getElem?_cons_zero]; rfl) (by kernel_rfl) (by kernel_rfl) (by kernel_rfl) (fun _ _ _ h => h) hHeld ?_ ?_
      rotate_left
      · intro w hSw
        go_simp
        try with_reducible rfl
      try simp only [Act.put, List.setIfInBounds_toArray, List.set_cons_zero, List.set_cons_succ]
      refine take_read (i := 5) (v := ?_) (by simp only [List.getElem?_toArray, List.getElem?_cons_succ, List.getElem?_cons_zero]; rfl) (by kernel_rfl) (by kernel_rfl) (by kernel_rfl) (fun _ _ _ h => h) hHeld ?_ ?_
      rotate_left
      · intro w hSw
        go_simp
        try with_reducible rfl
      try simp only [Act.put, List.setIfInBounds_toArray, List.set_cons_zero, List.set_cons_succ]
      refine take_read (i := 6) (v := ?_) (by simp only [List.getElem?_toArray, List.getElem?_cons_succ, List.getElem?_cons_zero]; rfl) (by kernel_rfl) (by kernel_rfl) (by kernel_rfl) (fun _ _ _ h => h) hHeld ?_ ?_
      rotate_left
      · intro w hSw
        go_simp
        try with_reducible rfl
      try simp only [Act.put, List.setIfInBounds_toArray, List.set_cons_zero, List.set_cons_succ]
      refine take_read (i := 7) (v := ?_) (by simp only [List.getElem?_toArray, List.getElem?_cons_succ, List.getElem?_cons_zero]; rfl) (by kernel_rfl) (by kernel_rfl) (by kernel_rfl) (fun _ _ _ h => h) hHeld ?_ ?_
      rotate_left
      · intro w hSw
        go_simp
        try with_reducible rfl
      try simp only [Act.put, List.setIfInBounds_toArray, List.set_cons_zero, List.set_cons_succ]
      refine take_read (i := 8) (v := ?_) (by simp only [List.getElem?_toArray, List.getElem?_cons_succ, List.getElem?_cons_zero]; rfl) (by kernel_rfl) (by kernel_rfl) (by kernel_rfl) (fun _ _ _ h => h) hHeld ?_ ?_
      rotate_left
      · intro w hSw
        have x27 := hSw.cell x27 (by simp)
        go_simp
        try with_reducible rfl
      try simp only [Act.put, List.setIfInBounds_toArray, List.set_cons_zero, List.set_cons_succ]
      refine wpAnyH_ready (rs := [9]) (by kernel_rfl) (by simp) ?_
      refine AllReadyH.cons rfl (fun K hK => ?_) AllReadyH.nil
      go_simp
      refine (HWR.out _ (HSA.out.frame hHeld)).mono ?_
      rintro e W1 ⟨rfl, hc⟩
      have C1 : Hid (Chg [] wr W1) := Lib.hid (hHeld.then hc)
      clear hc
      refine hK.out _ _ C1.out (fun hHeld2 => ?_)
      clear hK hHeld K
      have hHeld := hHeld2
      clear hHeld2
      try (unfold Act.put; simp only [List.setIfInBounds_toArray, List.set_cons_zero, List.set_cons_succ])
      refine take_read (i := 10) (v := ?_) (by simp only [List.getElem?_toArray, List.getElem?_cons_succ, List.getElem?_cons_zero]; rfl) (by kernel_rfl) (by kernel_rfl) (by kernel_rfl) (fun _ _ _ h => h) hHeld ?_ ?_
      rotate_left
      · intro w hSw
        go_simp
        try with_reducible rfl
      try simp only [Act.put, List.setIfInBounds_toArray, List.set_cons_zero, List.set_cons_succ]
      refine wpAnyH_ready (rs := [11]) (by kernel_rfl) (by simp) ?_
      refine AllReadyH.cons rfl (fun K hK => ?_) AllReadyH.nil
      go_simp
      refine (refuse_ok 19 _).mono ?_
      rintro e W2 ⟨rfl, hw⟩
      subst hw
      have C2 : Hid (Chg [] wr W2) := Lib.hid (C1.out)
      refine hK.out _ _ C2.out (fun hHeld2 => ?_)
      clear hK hHeld K
      have hHeld := hHeld2
      clear hHeld2
      try (unfold Act.put; simp only [List.setIfInBounds_toArray, List.set_cons_zero, List.set_cons_succ])
      refine wpAnyH_done (by kernel_rfl) ?_ _
      refine NoPanic.normal ?_
      clear hHeld C1 x27
      have B2 := Lib.hid (B.out.frame C2.out)
      have F2 := Lib.hid (F.out.pure C2.out)
      clear B F HWR HSA
      go_upto_region 5 with fail
      have y29 := Brd.c_out (Lay.Box.drew B2.out)
      refine wp_region_noPanic ?_
      refine wp_region_held_drew (S := fun w' => Chg (b :: r1.out.v.ownBlock.toList) W2 w' ∧ fxl.In w' b 27 r1.f) (by kernel_rfl) ⟨(Chg.refl _ _).drew, Brd.i_f (Lay.Box.drew B2.out)⟩ (fun hHeld => ?_)
      refine take_read (i := 0) (v := ?_) (by simp only [List.getElem?_toArray, List.getElem?_cons_zero]; rfl) (by kernel_rfl) (by kernel_rfl) (by kernel_rfl) (fun _ _ _ h => h) hHeld ?_ ?_
      rotate_left
      · intro w hSw
        go_simp
        try with_reducible rfl
      try simp only [Act.put, List.setIfInBounds_toArray, List.set_cons_zero, List.set_cons_succ]
      refine take_read (i := 1) (v := ?_) (by simp only [List.getElem?_toArray, List.getElem?_cons_succ, List.getElem?_cons_zero]; rfl) (by kernel_rfl) (by kernel_rfl) (by kernel_rfl) (fun _ _ _ h => h) hHeld ?_ ?_
      rotate_left
      · intro w hSw
        go_simp
        try with_reducible rfl
      try simp only [Act.put, List.setIfInBounds_toArray, List.set_cons_zero, List.set_cons_succ]
      refine take_read (i := 2) (v := ?_) (by simp only [List.getElem?_toArray, List.getElem?_cons_succ, List.getElem?_cons_zero]; rfl) (by kernel_rfl) (by kernel_rfl) (by kernel_rfl) (fun _ _ _ h => h) hHeld ?_ ?_
      rotate_left
      · intro w hSw
        go_simp
        try with_reducible rfl
      try simp only [Act.put, List.setIfInBounds_toArray, List.set_cons_zero, List.set_cons_succ]
      refine take_read (i := 3) (v := ?_) (by simp only [List.getElem?_toArray, List.getElem?_cons_succ, List.getElem?_cons_zero]; rfl) (by kernel_rfl) (by kernel_rfl) (by kernel_rfl) (fun _ _ _ h => h) hHeld ?_ ?_
      rotate_left
      · intro w hSw
        go_simp
        try with_reducible rfl
      try simp only [Act.put, List.setIfInBounds_toArray, List.set_cons_zero, List.set_cons_succ]
      refine take_read (i := 5) (v := ?_) (by simp only [List.getElem?_toArray, List.getElem?_cons_succ, List.getElem?_cons_zero]; rfl) (by kernel_rfl) (by kernel_rfl) (by kernel_rfl) (fun _ _ _ h => h) hHeld ?_ ?_
      rotate_left
      · intro w hSw
        go_simp
        try with_reducible rfl
      try simp only [Act.put, List.setIfInBounds_toArray, List.set_cons_zero, List.set_cons_succ]
      refine take_read (i := 6) (v := ?_) (by simp only [List.getElem?_toArray, List.getElem?_cons_succ, List.getElem?_cons_zero]; rfl) (by kernel_rfl) (by kernel_rfl) (by kernel_rfl) (fun _ _ _ h => h) hHeld ?_ ?_
      rotate_left
      · intro w hSw
        go_simp
        try with_reducible rfl
      try simp only [Act.put, List.setIfInBounds_toArray, List.set_cons_zero, List.set_cons_succ]
      refine take_read (i := 7) (v := ?_) (by simp only [List.getElem?_toArray, List.getElem?_cons_succ, List.getElem?_cons_zero]; rfl) (by kernel_rfl) (by kernel_rfl) (by kernel_rfl) (fun _ _ _ h => h) hHeld ?_ ?_
      rotate_left
      · intro w hSw
        go_simp
        try with_reducible rfl
      try simp only [Act.put, List.setIfInBounds_toArray, List.set_cons_zero, List.set_cons_succ]
      refine take_read (i := 8) (v := ?_) (by simp only [List.getElem?_toArray, List.getElem?_cons_succ, List.getElem?_cons_zero]; rfl) (by kernel_rfl) (by kernel_rfl) (by kernel_rfl) (fun _ _ _ h => h) hHeld ?_ ?_
      rotate_left
      · intro w hSw
        refine Lay.read_ld Tryz.tFx hSw.2 ?_ ?_
        exact rfl
        exact rfl
      try simp only [Act.put, List.setIfInBounds_toArray, List.set_cons_zero, List.set_cons_succ]
      refine wpAnyH_ready (rs := [4, 9]) (by kernel_rfl) (by simp) ?_
      refine AllReadyH.cons rfl (fun K hK => ?_) (AllReadyH.cons rfl (fun K hK => ?_) AllReadyH.nil)
      · go_simp
        refine hK.out _ _ hHeld (fun hHeld2 => ?_)
        clear hK hHeld K
        have hHeld := hHeld2
        clear hHeld2
        try (unfold Act.put; simp only [List.setIfInBounds_toArray, List.set_cons_zero, List.set_cons_succ])
        refine wpAnyH_ready (rs := [9]) (by kernel_rfl) (by simp) ?_
        refine AllReadyH.cons (by simp only [List.getElem?_toArray, List.getElem?_cons_succ, List.getElem?_cons_zero]; rfl) (fun K hK => ?_) AllReadyH.nil
        refine Lay.armBs1 rfl _ rfl r1.f (fx_builtB _) rfl (fun wj g hcj hrj => ?_)
        have J1 := Lib.hid hcj
        have JR := Lib.hid hrj
        clear hcj hrj
        replace y29 := J1.out.cell y29 (by simp)
        refine hK.out _ _ ⟨hHeld.1.then J1.out, hHeld.2.frame J1.out⟩ (fun hHeld2 => ?_)
        clear hK hHeld K
        have hHeld := hHeld2
        clear hHeld2
        try (unfold Act.put; simp only [List.setIfInBounds_toArray, List.set_cons_zero, List.set_cons_succ])
        refine wpAnyH_ready (rs := [10]) (by kernel_rfl) (by simp) ?_
        refine AllReadyH.cons (by simp only [List.getElem?_toArray, List.getElem?_cons_succ, List.getElem?_cons_zero]; rfl) (fun K hK => ?_) AllReadyH.nil
        have DJ : Hid (Chg [] W2 wj) := Lib.hid (((Chg.refl [] W2).drew).then J1.out)
        refine Lay.armApp (L := fxl) Tryz.infoFxL rfl _ _ rfl base r1.out.v fs1 rfl (F2.out.pure DJ.out) ⟨g, 0, none⟩ 1 1 rfl [r1.f] JR.out (by simp; omega) (by simp; omega) (by have := C.out.size; have := C2.out.size; have := DJ.out.size; omega) (fun vk wk hok hgr hlc => ?_)
        obtain ⟨a9, c9, rfl, _, _⟩ := hok.rd.shape
        rw [show (fs1 ++ [r1.f]).length = fs1.length + 1 by simp] at hok hlc
        have hnb : b ∉ r1.out.v.ownBlock.toList := fun hm => by have := HOB1.out b (by simpa using hm); omega
        have GR := Lib.hid (Lay.chg_grown hgr)
        have C12 : Hid (Chg (b :: r1.out.v.ownBlock.toList) W2 wk) := Lib.hid (hHeld.1.same (GR.out.mono (fun i hi _ => List.mem_cons_of_mem _ hi)))
        have BK : Hid (brdL.Box wk b r1) := Lib.hid ((B2.out.frame DJ.out).frameS GR.out hnb)
        have IF9 := Lib.hid (Brd.i_f BK.out)
        have OK := Lib.hid hok
        have LC := Lib.hid hlc
        clear hok hlc
        clear hgr y29
        have y29 := Brd.c_out BK.out
        have z29 := BK.out.frozen 36
        have BZ := Lib.hid (Brd.set_out BK.out ⟨a9, fs1.length + 1, c9⟩)
        have IZ := Lib.hid (Brd.i_f BZ.out)
        refine hK.out _ _ ⟨C12.out, IF9.out⟩ (fun hHeld2 => ?_)
        clear hK hHeld K
        have hHeld := hHeld2
        clear hHeld2
        try (unfold Act.put; simp only [List.setIfInBounds_toArray, List.set_cons_zero, List.set_cons_succ])
        refine take_read (i := 11) (v := ?_) (by simp only [List.getElem?_toArray, List.getElem?_cons_succ, List.getElem?_cons_zero]; rfl) (by kernel_rfl) (by kernel_rfl) (by kernel_rfl) (fun _ _ _ h => h) hHeld ?_ ?_
        rotate_left
        · intro w hSw
          go_simp
          try with_reducible rfl
        try simp only [Act.put, List.setIfInBounds_toArray, List.set_cons_zero, List.set_cons_succ]
        refine take_read (i := 12) (v := ?_) (by simp only [List.getElem?_toArray, List.getElem?_cons_succ, List.getElem?_cons_zero]; rfl) (by kernel_rfl) (by kernel_rfl) (by kernel_rfl) (fun _ _ _ h => h) hHeld ?_ ?_
        rotate_left
        · intro w hSw
          go_simp
          try with_reducible rfl
        try simp only [Act.put, List.setIfInBounds_toArray, List.set_cons_zero, List.set_cons_succ]
        refine wpAnyH_ready (rs := [13]) (by kernel_rfl) (by simp) ?_
        refine AllReadyH.cons rfl (fun K hK => ?_) AllReadyH.nil
        go_simp
        refine hK.out _ _ ⟨C12.out.setCell _ _ (.inl (by simp)), IZ.out⟩ (fun hHeld2 => ?_)
        clear hK hHeld K
        have hHeld := hHeld2
        clear hHeld2
        try (unfold Act.put; simp only [List.setIfInBounds_toArray, List.set_cons_zero, List.set_cons_succ])
        refine wpAnyH_done (by kernel_rfl) ?_ _
        refine NoPanic.normal ?_
        refine with_exitB (Q := Exit.then _ _ _ _) (fun W => brdL.Box W b { r1 with out := ⟨a9, fs1.length + 1, c9⟩ } ∧ FB W base (.slice a9 (fs1.length + 1) c9) (fs1 ++ [r1.f]) ∧ Chg (b :: r1.out.v.ownBlock.toList) W2 W) ⟨BZ.out, OK.out.frame (S := [b]) ((Chg.refl _ _).setCell _ _ (.inl (by simp))) (fun k hk hm => by have := (OK.out.lt k hk).1; simp at hm; omega), hHeld.1⟩ (fun W3 hW => ?_)
        obtain ⟨h1, h2, h3⟩ := hW
        have B3 := Lib.hid h1
        have F3 := Lib.hid h2
        have C3 := Lib.hid h3
        clear h1 h2 h3
        have hwj : W2.heap.size ≤ wj.heap.size := DJ.out.size
        clear hHeld BZ y29 z29
        go_wp2_with fail
        refine (HON.out (A + 8 * k) 8 { r1 with out := ⟨a9, fs1.length + 1, c9⟩ } _ HR1.out (by have := HA2.out; omega) B3.out).mono ?_
        rintro e W4 ⟨rfl, hb4, hc4⟩
        have B4 := Lib.hid hb4
        have C4 := Lib.hid hc4
        clear hb4 hc4
        go_wp2_with fail
        refine (HON.out (A + 8 * k + 8) 0 _ _ rfl (by have := HA2.out; omega) B4.out).mono ?_
        rintro e W5 ⟨rfl, hb5, hc5⟩
        have B5 := Lib.hid hb5
        have C5 := Lib.hid hc5
        clear hb5 hc5
        go_wp2
        go_roundw
        case rel =>
          have hl1 : fs1.length + 1 = (fs ++ bndW r.f A (k + 1)).length := by rw [HF1.out, List.length_append, List.length_append, bndW_len, bndW_len]; omega
          refine ⟨k + 1, ⟨a9, fs1.length + 1, c9⟩, hlt, by go_num, ?_, ?_, ?_, ?_⟩
          · have h := B5.out
            rw [HR0.out] at h
            exact h
          · have h := (F3.out.frame C4.out (fun i hi hm => by have := (F3.out.lt i hi).1; simp at hm; omega)).frame C5.out (fun i hi hm => by have := (F3.out.lt i hi).1; simp at hm; omega)
            have e : fs1 ++ [r1.f] = fs ++ bndW r.f A (k + 1) := by rw [HF1.out, HR0.out, bndW_snoc, List.append_assoc]
            rw [e] at h
            exact h
          · refine (C.out.trans ((C2.out.add.same C3.out).trans (C4.out.trans C5.out (fun i hi _ => hi)) (fun i hi _ => by simp at hi; subst hi; exact List.mem_cons_self ..))) (fun i hi hw => ?_)
            rcases List.mem_cons.1 hi with h | h
            · subst h; exact List.mem_cons_self ..
            · rw [HR0.out] at h
              rcases OW.out with e | ⟨g', e, hg'⟩
              · rw [e] at h; exact List.mem_cons_of_mem _ h
              · rw [e] at h; simp at h; omega
          · rcases LC.out with h | h
            · rw [HR0.out] at h
              have h : (SlV.v ⟨a9, fs1.length + 1, c9⟩).ownBlock = so.v.ownBlock := h
              rw [h]
              exact OW.out
            · exact .inr ⟨_, h, by have := C.out.size; have := C2.out.size; omega⟩
        case measure => simp [intOf]; omega
      · refine Lay.armBs1 rfl _ rfl r1.f (fx_builtB _) rfl (fun wj g hcj hrj => ?_)
        have J1 := Lib.hid hcj
        have JR := Lib.hid hrj
        clear hcj hrj
        replace y29 := J1.out.cell y29 (by simp)
        refine hK.out _ _ ⟨hHeld.1.then J1.out, hHeld.2.frame J1.out⟩ (fun hHeld2 => ?_)
        clear hK hHeld K
        have hHeld := hHeld2
        clear hHeld2
        try (unfold Act.put; simp only [List.setIfInBounds_toArray, List.set_cons_zero, List.set_cons_succ])
        refine wpAnyH_ready (rs := [4]) (by kernel_rfl) (by simp) ?_
        refine AllReadyH.cons rfl (fun K hK => ?_) AllReadyH.nil
        go_simp
        refine hK.out _ _ hHeld (fun hHeld2 => ?_)
        clear hK hHeld K
        have hHeld := hHeld2
        clear hHeld2
        try (unfold Act.put; simp only [List.setIfInBounds_toArray, List.set_cons_zero, List.set_cons_succ])
        refine wpAnyH_ready (rs := [10]) (by kernel_rfl) (by simp) ?_
        refine AllReadyH.cons (by simp only [List.getElem?_toArray, List.getElem?_cons_succ, List.getElem?_cons_zero]; rfl) (fun K hK => ?_) AllReadyH.nil
        have DJ : Hid (Chg [] W2 wj) := Lib.hid (((Chg.refl [] W2).drew).then J1.out)
        refine Lay.armApp (L := fxl) Tryz.infoFxL rfl _ _ rfl base r1.out.v fs1 rfl (F2.out.pure DJ.out) ⟨g, 0, none⟩ 1 1 rfl [r1.f] JR.out (by simp; omega) (by simp; omega) (by have := C.out.size; have := C2.out.size; have := DJ.out.size; omega) (fun vk wk hok hgr hlc => ?_)
        obtain ⟨a9, c9, rfl, _, _⟩ := hok.rd.shape
        rw [show (fs1 ++ [r1.f]).length = fs1.length + 1 by simp] at hok hlc
        have hnb : b ∉ r1.out.v.ownBlock.toList := fun hm => by have := HOB1.out b (by simpa using hm); omega
        have GR := Lib.hid (Lay.chg_grown hgr)
        have C12 : Hid (Chg (b :: r1.out.v.ownBlock.toList) W2 wk) := Lib.hid (hHeld.1.same (GR.out.mono (fun i hi _ => List.mem_cons_of_mem _ hi)))
        have BK : Hid (brdL.Box wk b r1) := Lib.hid ((B2.out.frame DJ.out).frameS GR.out hnb)
        have IF9 := Lib.hid (Brd.i_f BK.out)
        have OK := Lib.hid hok
        have LC := Lib.hid hlc
        clear hok hlc
        clear hgr y29
        have y29 := Brd.c_out BK.out
        have z29 := BK.out.frozen 36
        have BZ := Lib.hid (Brd.set_out BK.out ⟨a9, fs1.length + 1, c9⟩)
        have IZ := Lib.hid (Brd.i_f BZ.out)
        refine hK.out _ _ ⟨C12.out, IF9.out⟩ (fun hHeld2 => ?_)
        clear hK hHeld K
        have hHeld := hHeld2
        clear hHeld2
        try (unfold Act.put; simp only [List.setIfInBounds_toArray, List.set_cons_zero, List.set_cons_succ])
        refine take_read (i := 11) (v := ?_) (by simp only [List.getElem?_toArray, List.getElem?_cons_succ, List.getElem?_cons_zero]; rfl) (by kernel_rfl) (by kernel_rfl) (by kernel_rfl) (fun _ _ _ h => h) hHeld ?_ ?_
        rotate_left
        · intro w hSw
          go_simp
          try with_reducible rfl
        try simp only [Act.put, List.setIfInBounds_toArray, List.set_cons_zero, List.set_cons_succ]
        refine take_read (i := 12) (v := ?_) (by simp only [List.getElem?_toArray, List.getElem?_cons_succ, List.getElem?_cons_zero]; rfl) (by kernel_rfl) (by kernel_rfl) (by kernel_rfl) (fun _ _ _ h => h) hHeld ?_ ?_
        rotate_left
        · intro w hSw
          go_simp
          try with_reducible rfl
        try simp only [Act.put, List.setIfInBounds_toArray, List.set_cons_zero, List.set_cons_succ]
        refine wpAnyH_ready (rs := [13]) (by kernel_rfl) (by simp) ?_
        refine AllReadyH.cons rfl (fun K hK => ?_) AllReadyH.nil
        go_simp
        refine hK.out _ _ ⟨C12.out.setCell _ _ (.inl (by simp)), IZ.out⟩ (fun hHeld2 => ?_)
        clear hK hHeld K
        have hHeld := hHeld2
        clear hHeld2
        try (unfold Act.put; simp only [List.setIfInBounds_toArray, List.set_cons_zero, List.set_cons_succ])
        refine wpAnyH_done (by kernel_rfl) ?_ _
        refine NoPanic.normal ?_
        refine with_exitB (Q := Exit.then _ _ _ _) (fun W => brdL.Box W b { r1 with out := ⟨a9, fs1.length + 1, c9⟩ } ∧ FB W base (.slice a9 (fs1.length + 1) c9) (fs1 ++ [r1.f]) ∧ Chg (b :: r1.out.v.ownBlock.toList) W2 W) ⟨BZ.out, OK.out.frame (S := [b]) ((Chg.refl _ _).setCell _ _ (.inl (by simp))) (fun k hk hm => by have := (OK.out.lt k hk).1; simp at hm; omega), hHeld.1⟩ (fun W3 hW => ?_)
        obtain ⟨h1, h2, h3⟩ := hW
        have B3 := Lib.hid h1
        have F3 := Lib.hid h2
        have C3 := Lib.hid h3
        clear h1 h2 h3
        have hwj : W2.heap.size ≤ wj.heap.size := DJ.out.size
        clear hHeld BZ y29 z29
        go_wp2_with fail
        refine (HON.out (A + 8 * k) 8 { r1 with out := ⟨a9, fs1.length + 1, c9⟩ } _ HR1.out (by have := HA2.out; omega) B3.out).mono ?_
        rintro e W4 ⟨rfl, hb4, hc4⟩
        have B4 := Lib.hid hb4
        have C4 := Lib.hid hc4
        clear hb4 hc4
        go_wp2_with fail
        refine (HON.out (A + 8 * k + 8) 0 _ _ rfl (by have := HA2.out; omega) B4.out).mono ?_
        rintro e W5 ⟨rfl, hb5, hc5⟩
        have B5 := Lib.hid hb5
        have C5 := Lib.hid hc5
        clear hb5 hc5
        go_wp2
        go_roundw
        case rel =>
          have hl1 : fs1.length + 1 = (fs ++ bndW r.f A (k + 1)).length := by rw [HF1.out, List.length_append, List.length_append, bndW_len, bndW_len]; omega
          refine ⟨k + 1, ⟨a9, fs1.length + 1, c9⟩, hlt, by go_num, ?_, ?_, ?_, ?_⟩
          · have h := B5.out
            rw [HR0.out] at h
            exact h
          · have h := (F3.out.frame C4.out (fun i hi hm => by have := (F3.out.lt i hi).1; simp at hm; omega)).frame C5.out (fun i hi hm => by have := (F3.out.lt i hi).1; simp at hm; omega)
            have e : fs1 ++ [r1.f] = fs ++ bndW r.f A (k + 1) := by rw [HF1.out, HR0.out, bndW_snoc, List.append_assoc]
            rw [e] at h
            exact h
          · refine (C.out.trans ((C2.out.add.same C3.out).trans (C4.out.trans C5.out (fun i hi _ => hi)) (fun i hi _ => by simp at hi; subst hi; exact List.mem_cons_self ..))) (fun i hi hw => ?_)
            rcases List.mem_cons.1 hi with h | h
            · subst h; exact List.mem_cons_self ..
            · rw [HR0.out] at h
              rcases OW.out with e | ⟨g', e, hg'⟩
              · rw [e] at h; exact List.mem_cons_of_mem _ h
              · rw [e] at h; simp at h; omega
          · rcases LC.out with h | h
            · rw [HR0.out] at h
              have h : (SlV.v ⟨a9, fs1.length + 1, c9⟩).ownBlock = so.v.ownBlock := h
              rw [h]
              exact OW.out
            · exact .inr ⟨_, h, by have := C.out.size; have := C2.out.size; omega⟩
        case measure => simp [intOf]; omega
    · obtain rfl : n = k := by omega
      have B := Lib.hid h1
      have F := Lib.hid h2
      clear h1 h2
      go_wp2
      go_end0
      exact ⟨rfl, so, B.out, F.out, C.out, OW.out⟩
end Go.Proofs.YtkomocgodljecaaGreatDoor
/- Contracts of the library, proved once in the kit, laid at this seat's program (made by the kit's tools lay-shelf and lay-plain). -/
namespace Go.Proofs
open Go.Shelf
def Tryz.lays187_ren : Go.Shelf.Ren := ⟨fun | 187 => 94 | 255 => 117 | n => n, fun | 37 => 34 | 5 => 5 | 3 => 3 | n => n, fun | n => n⟩
theorem Tryz.lays187 : Go.Proofs.Lays.n187 Tryz.prog Tryz.lays187_ren := {
  mixed := by kernel_rfl
  f187 := Tryz.func94.trans (congrArg some (by kernel_rfl))
  f255 := Tryz.func117.trans (congrArg some (by kernel_rfl))
  t3 := Tryz.underlying3
  a3 := Tryz.isAgg3
  z3 := Tryz.sizeOf3
  v3 := Tryz.zeroValue3
  t5 := Tryz.underlying5
  a5 := Tryz.isAgg5
  z5 := Tryz.sizeOf5
  v5 := Tryz.zeroValue5
  t37 := Tryz.underlying34
  a37 := Tryz.isAgg34
  z37 := Tryz.sizeOf34
  v37 := Tryz.zeroValue34 }
open Go.RowKit Go.Lib in
theorem Tryz.bytes_IndexByte_at (a : Addr) (n c : Nat) (xs : List Int) (cv : Int) (w : World) (hx : xs.length = n) (hc : ∀ i, i < n → w.cell? (a.add i) = some (.int .u8 (xs.getD i 0))) :
    Calls Tryz.prog 94 #[.slice (some a) n c, .int .u8 cv] w fun e w' => e = .returned (.int .i64 (Lib.indexByte (Lib.bytesOf xs) cv.toNat.toUInt8)) ∧ w' = w := Any.bytes_IndexByte_at Tryz.lays187 a n c xs cv w hx hc
end Go.Proofs
