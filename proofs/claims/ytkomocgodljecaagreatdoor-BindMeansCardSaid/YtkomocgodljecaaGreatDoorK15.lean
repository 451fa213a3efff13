/- Lemmas, laid together: part 15 of 41. Conditions: none but each lemma's own. -/
import Derived.Test.YtkomocgodljecaaGreatDoorK14
import Derived.Test.YtkomocgodljecaaGreatDoorK12
import Derived.Test.YtkomocgodljecaaGreatDoorK2
/- bind: the place. -/
namespace Go.Proofs.YtkomocgodljecaaGreatDoor
open Go.RowKit
set_option maxRecDepth 100000

set_option maxHeartbeats 2000000 in
theorem place_ok (b bc imm n : Nat) (r : Brd) (s : CS) (hi : r.imm = imm) (hi2 : imm < 256) (hc : r.c = some ⟨bc, 0, none⟩) (hlt : bc < b) (hf : (lebS ulebR s).failed = false) (hv : lebV ulebR s = n) (w : World) (hg : Env w) (hcur : CurB w bc s) (hb : brdL.Box w b r)
    (ls : List Seg) (hrd : segL.Rd w r.m.segs.v ls) (hoo : ∀ k, r.m.segs.v.ownBlock = some k → k ∉ [bc]) (A : Int) (hA : placeS ls imm n = (A, 0)) :
    Calls Tryz.prog 55 #[.pointer (some ⟨b, 0, none⟩)] w fun e w' => e = .returned (.tuple #[]) ∧ brdL.Box w' b { r with f := { r.f with at_ := A }, is_ := true } ∧ CurB w' bc (lebS ulebR s) ∧ Chg [b, bc] w w' := by
  have HPL := Lib.hid (fun w rd => Place_any r.m ls (imm : Int) (by omega) (n : Int) w rd)
  rw [hA] at HPL
  have HNB := Lib.hid (fun w hg hcur hb => number_ok b bc n r s hc hlt hf hv w hg hcur hb)
  have hwi : IntKind.u64.wrap (imm : Int) = (imm : Int) := by rw [IntKind.wrap_u64]; omega
  have x4 := Brd.c_imm hb
  rw [hi] at x4
  have hbc : b ∉ [bc] := by simp; omega
  have Hcur := Lib.hid hcur
  have Hb := Lib.hid hb
  have Hg := Lib.hid hg
  have Hf := Lib.hid hf
  have Hv := Lib.hid hv
  have Hrd := Lib.hid hrd
  have Hoo := Lib.hid hoo
  have HA := Lib.hid hA
  have Hi := Lib.hid hi
  clear hcur hb hg hf hv hrd hoo hA hi
  go_enter Tryz.func55, Tryz.ntmps55
  go_upto_region 0 with fail
  refine wp_region_noPanic ?_
  refine wp_region_held_drew (S := fun w' => Chg [bc] w w') (by kernel_rfl) ((Chg.refl [] w).drew).add (fun hHeld => ?_)
  refine take_read (i := 0) (v := ?_) (by simp only [List.getElem?_toArray, List.getElem?_cons_zero]; rfl) (by kernel_rfl) (by kernel_rfl) (by kernel_rfl) (fun _ _ _ h => h) hHeld ?_ ?_
  rotate_left
  · intro w hSw
    go_simp
    try with_reducible rfl
  try simp only [Act.put, List.setIfInBounds_toArray, List.set_cons_zero, List.set_cons_succ]
  refine take_read (i := 1) (v := ?_) (by simp only [List.getElem?_toArray, List.getElem?_cons_succ, List.getElem?_cons_zero]; rfl) (by kernel_rfl) (by kernel_rfl) (by kernel_rfl) (fun _ _ _ h => h) hHeld ?_ ?_
  rotate_left
  · intro w hSw
    go_simp
    try with_reducible rfl
  try simp only [Act.put, List.setIfInBounds_toArray, List.set_cons_zero, List.set_cons_succ]
  refine take_read (i := 2) (v := ?_) (by simp only [List.getElem?_toArray, List.getElem?_cons_succ, List.getElem?_cons_zero]; rfl) (by kernel_rfl) (by kernel_rfl) (by kernel_rfl) (fun _ _ _ h => h) hHeld ?_ ?_
  rotate_left
  · intro w hSw
    go_simp
    try with_reducible rfl
  try simp only [Act.put, List.setIfInBounds_toArray, List.set_cons_zero, List.set_cons_succ]
  refine take_read (i := 3) (v := ?_) (by simp only [List.getElem?_toArray, List.getElem?_cons_succ, List.getElem?_cons_zero]; rfl) (by kernel_rfl) (by kernel_rfl) (by kernel_rfl) (fun _ _ _ h => h) hHeld ?_ ?_
  rotate_left
  · intro w hSw
    refine Lay.read_ld Tryz.tImg ((Brd.i_m (Hb.out.frameS hSw hbc))) ?_ ?_
    exact rfl
    exact rfl
  try simp only [Act.put, List.setIfInBounds_toArray, List.set_cons_zero, List.set_cons_succ]
  refine take_read (i := 4) (v := ?_) (by simp only [List.getElem?_toArray, List.getElem?_cons_succ, List.getElem?_cons_zero]; rfl) (by kernel_rfl) (by kernel_rfl) (by kernel_rfl) (fun _ _ _ h => h) hHeld ?_ ?_
  rotate_left
  · intro w hSw
    go_simp
    try with_reducible rfl
  try simp only [Act.put, List.setIfInBounds_toArray, List.set_cons_zero, List.set_cons_succ]
  refine take_read (i := 5) (v := ?_) (by simp only [List.getElem?_toArray, List.getElem?_cons_succ, List.getElem?_cons_zero]; rfl) (by kernel_rfl) (by kernel_rfl) (by kernel_rfl) (fun _ _ _ h => h) hHeld ?_ ?_
  rotate_left
  · intro w hSw
    go_simp
    try with_reducible rfl
  try simp only [Act.put, List.setIfInBounds_toArray, List.set_cons_zero, List.set_cons_succ]
  refine take_read (i := 6) (v := ?_) (by simp only [List.getElem?_toArray, List.getElem?_cons_succ, List.getElem?_cons_zero]; rfl) (by kernel_rfl) (by kernel_rfl) (by kernel_rfl) (fun _ _ _ h => h) hHeld ?_ ?_
  rotate_left
  · intro w hSw
    go_simp
    try with_reducible rfl
  try simp only [Act.put, List.setIfInBounds_toArray, List.set_cons_zero, List.set_cons_succ]
  refine take_read (i := 7) (v := ?_) (by simp only [List.getElem?_toArray, List.getElem?_cons_succ, List.getElem?_cons_zero]; rfl) (by kernel_rfl) (by kernel_rfl) (by kernel_rfl) (fun _ _ _ h => h) hHeld ?_ ?_
  rotate_left
  · intro w hSw
    have x4 := hSw.cell x4 hbc
    go_simp
    try with_reducible rfl
  try simp only [Act.put, List.setIfInBounds_toArray, List.set_cons_zero, List.set_cons_succ]
  refine take_read (i := 8) (v := ?_) (by simp only [List.getElem?_toArray, List.getElem?_cons_succ, List.getElem?_cons_zero]; rfl) (by kernel_rfl) (by kernel_rfl) (by kernel_rfl) (fun _ _ _ h => h) hHeld ?_ ?_
  rotate_left
  · intro w hSw
    go_simp
    try with_reducible rfl
  try simp only [Act.put, List.setIfInBounds_toArray, List.set_cons_zero, List.set_cons_succ]
  refine take_read (i := 9) (v := ?_) (by simp only [List.getElem?_toArray, List.getElem?_cons_succ, List.getElem?_cons_zero]; rfl) (by kernel_rfl) (by kernel_rfl) (by kernel_rfl) (fun _ _ _ h => h) hHeld ?_ ?_
  rotate_left
  · intro w hSw
    go_simp
    try with_reducible rfl
  try simp only [Act.put, List.setIfInBounds_toArray, List.set_cons_zero, List.set_cons_succ]
  refine wpAnyH_ready (rs := [10]) (by kernel_rfl) (by simp) ?_
  refine AllReadyH.cons rfl (fun K hK => ?_) AllReadyH.nil
  go_simp
  refine (HNB.out _ (Hg.out.frame ((Chg.refl [] w).drew) (by simp)) (Hcur.out.frame ((Chg.refl [] w).drew)) (Hb.out.frame ((Chg.refl [] w).drew))).mono ?_
  rintro e W1 ⟨rfl, hc1, h1⟩
  have C1 : Hid (Chg [bc] w W1) := Lib.hid (((Chg.refl [] w).drew).add.same h1)
  have CU1 := Lib.hid hc1
  clear hc1
  clear h1
  refine hK.out _ _ C1.out (fun hHeld2 => ?_)
  clear hK hHeld K
  have hHeld := hHeld2
  clear hHeld2
  try (unfold Act.put; simp only [List.setIfInBounds_toArray, List.set_cons_zero, List.set_cons_succ])
  refine wpAnyH_ready (rs := [11]) (by kernel_rfl) (by simp) ?_
  refine AllReadyH.cons rfl (fun K hK => ?_) AllReadyH.nil
  go_simp
  refine (HPL.out _ (Hrd.out.frameS C1.out Hoo.out)).mono ?_
  rintro e W2 ⟨rfl, h2⟩
  have C2 : Hid (Chg [bc] w W2) := Lib.hid (C1.out.then h2)
  have CU2 := Lib.hid (CU1.out.frame h2)
  clear h2
  refine hK.out _ _ C2.out (fun hHeld2 => ?_)
  clear hK hHeld K
  have hHeld := hHeld2
  clear hHeld2
  try (unfold Act.put; simp only [List.setIfInBounds_toArray, List.set_cons_zero, List.set_cons_succ])
  refine take_read (i := 12) (v := ?_) (by simp only [List.getElem?_toArray, List.getElem?_cons_succ, List.getElem?_cons_zero]; rfl) (by kernel_rfl) (by kernel_rfl) (by kernel_rfl) (fun _ _ _ h => h) hHeld ?_ ?_
  rotate_left
  · intro w hSw
    go_simp
    try with_reducible rfl
  try simp only [Act.put, List.setIfInBounds_toArray, List.set_cons_zero, List.set_cons_succ]
  refine take_read (i := 13) (v := ?_) (by simp only [List.getElem?_toArray, List.getElem?_cons_succ, List.getElem?_cons_zero]; rfl) (by kernel_rfl) (by kernel_rfl) (by kernel_rfl) (fun _ _ _ h => h) hHeld ?_ ?_
  rotate_left
  · intro w hSw
    go_simp
    try with_reducible rfl
  try simp only [Act.put, List.setIfInBounds_toArray, List.set_cons_zero, List.set_cons_succ]
  refine take_read (i := 14) (v := ?_) (by simp only [List.getElem?_toArray, List.getElem?_cons_succ, List.getElem?_cons_zero]; rfl) (by kernel_rfl) (by kernel_rfl) (by kernel_rfl) (fun _ _ _ h => h) hHeld ?_ ?_
  rotate_left
  · intro w hSw
    go_simp
    try with_reducible rfl
  try simp only [Act.put, List.setIfInBounds_toArray, List.set_cons_zero, List.set_cons_succ]
  refine take_read (i := 15) (v := ?_) (by simp only [List.getElem?_toArray, List.getElem?_cons_succ, List.getElem?_cons_zero]; rfl) (by kernel_rfl) (by kernel_rfl) (by kernel_rfl) (fun _ _ _ h => h) hHeld ?_ ?_
  rotate_left
  · intro w hSw
    go_simp
    try with_reducible rfl
  try simp only [Act.put, List.setIfInBounds_toArray, List.set_cons_zero, List.set_cons_succ]
  refine take_read (i := 16) (v := ?_) (by simp only [List.getElem?_toArray, List.getElem?_cons_succ, List.getElem?_cons_zero]; rfl) (by kernel_rfl) (by kernel_rfl) (by kernel_rfl) (fun _ _ _ h => h) hHeld ?_ ?_
  rotate_left
  · intro w hSw
    go_simp
    try with_reducible rfl
  try simp only [Act.put, List.setIfInBounds_toArray, List.set_cons_zero, List.set_cons_succ]
  refine wpAnyH_done (by kernel_rfl) ?_ _
  refine NoPanic.normal ?_
  have B2 := Lib.hid (Hb.out.frameS C2.out hbc)
  clear hHeld x4
  have x6 := Brd.c_at B2.out
  have x7 := Brd.c_is B2.out
  have z6 := B2.out.frozen 27
  have z7 := B2.out.frozen 34
  go_wp2_with fail
  refine (refuse_ok 0 _).mono ?_
  rintro e W3 ⟨rfl, rfl⟩
  go_wp2
  go_end0
  exact ⟨rfl, Brd.set_is (Brd.set_at B2.out A) true, (CU2.out.far2 (S := [b]) (((Chg.refl _ _).setCell _ _ (.inl (by simp))).setCell _ _ (.inl (by simp))) (by simp; omega)), ((C2.out.mono (by simp)).setCell _ _ (.inl (by simp))).setCell _ _ (.inl (by simp))⟩
end Go.Proofs.YtkomocgodljecaaGreatDoor
/- image.Writable. -/
namespace Go.Proofs.YtkomocgodljecaaGreatDoor
open Go.RowKit
set_option maxRecDepth 100000

theorem idx_true {α : Type} {p : α → Bool} (d : α) : ∀ {l : List α} {k : Nat}, idx p l = some k → p (l.getD k d) = true
  | [], _, h => by cases h
  | x :: r, k, h => by
    unfold idx at h
    split at h
    · cases h; simpa
    · cases hi : idx p r with
      | none => rw [hi] at h; cases h
      | some m =>
        rw [hi] at h
        cases h
        simpa using idx_true d hi
/-- May so many bytes be written there? -/
def protS (p : Int) : Bool := decide (0 ≤ p) && (decide (p ≤ 7) && (bits BinOp.and IntKind.i64 p 2 != 0))
def writS (ls : List Seg) (addr size : Int) : Bool := match atS ls addr with
  | none => false
  | some k => !(size == 0) && (protS (ls.getD k .zero).prot && decide (size ≤ (ls.getD k .zero).size - (addr - (ls.getD k .zero).addr)))
set_option maxHeartbeats 1000000 in
theorem Writable_any (m : Img) (ls : List Seg) (hls : SegsB ls) (addr size : Int) (ha : addr < 18446744073709551616) (w : World) (rd : segL.Rd w m.segs.v ls) :
    Calls Tryz.prog 39 #[imgL.val m, .int .u64 addr, .int .u64 size] w fun e w' => e = .returned (.bool (writS ls addr size)) ∧ Chg [] w w' := by
  have HAT := Lib.hid (At_img m ls hls addr ha)
  obtain ⟨a, cap, hv, hc1, hc2⟩ := rd.shape
  have rd' := rd
  rw [hv] at rd'
  have RD := Lib.hid (rd)
  have RD2 := Lib.hid rd'
  have Hc2 := Lib.hid hc2
  clear rd' hc2
  clear hc1
  cases hat : atS ls addr with
  | none =>
    rw [show writS ls addr size = false by unfold writS; rw [hat]]
    rw [hat] at HAT
    unfold idxI at HAT
    clear hat hls ha rd hv
    go_enter Tryz.func39, Tryz.ntmps39
    go_wp2_with ((with_reducible refine Lay.bxL (L := imgL) 30 m ?_ ?_); exact rfl; intro W1 bm ebm cbm xbm; replace ebm := Lib.hid ebm; replace cbm := Lib.hid cbm; replace xbm := Lib.hid xbm; refine Hid.out ?_)
    refine Lib.hid ?_
    go_wp2_with ((with_reducible refine Lay.ldL Tryz.tImg m (xbm.out.in) ?_ ?_); exact rfl; refine Hid.out ?_)
    refine Lib.hid ?_
    go_wp2_with fail
    refine (HAT.out _ (RD.out.frame cbm.out)).mono ?_
    rintro e W2 ⟨rfl, hc⟩
    have C2 := Lib.hid (cbm.out.then hc)
    have X2 := Lib.hid (xbm.out.frame hc)
    clear hc
    go_wp2
    go_ret
    exact ⟨rfl, C2.out⟩
  | some k =>
    have hk := idx_lt hat
    have hin := idx_true Seg.zero hat
    have hb := hls k hk
    rw [hat] at HAT
    unfold idxI at HAT
    have hwr : writS ls addr size = (!(size == 0) && (protS (ls.getD k .zero).prot && decide (size ≤ (ls.getD k .zero).size - (addr - (ls.getD k .zero).addr)))) := by unfold writS; rw [hat]
    obtain ⟨b, off, rfl, _, hcell⟩ := RD2.out.at (by omega)
    have hI : segL.In w b (off + k * 7) (ls.getD k .zero) := hcell k hk
    generalize ls.getD k .zero = s at *
    unfold SlV.v at hv
    have dk : ¬ (k : Int) < 0 := by omega
    have hi1 : s.addr ≤ addr ∧ addr - s.addr < s.size := by
      unfold inS at hin
      simp only [Bool.and_eq_true, decide_eq_true_eq] at hin
      exact hin.2
    have hw1 : IntKind.u64.wrap (addr - s.addr) = addr - s.addr := by rw [IntKind.wrap_u64]; unfold SegB at hb; omega
    have hw2 : IntKind.u64.wrap (s.size - (addr - s.addr)) = s.size - (addr - s.addr) := by rw [IntKind.wrap_u64]; unfold SegB at hb; omega
    clear hcell hin hat hb hls ha hi1 rd
    have HI := Lib.hid hI
    clear hI
    rw [hwr]
    clear hwr
    cases z : (size == 0) with
    | true =>
      rw [show (!true && (protS s.prot && decide (size ≤ s.size - (addr - s.addr)))) = false from rfl]
      go_enter Tryz.func39, Tryz.ntmps39
      go_wp2_with ((with_reducible refine Lay.bxL (L := imgL) 30 m ?_ ?_); exact rfl; intro W1 bm ebm cbm xbm; replace ebm := Lib.hid ebm; replace cbm := Lib.hid cbm; replace xbm := Lib.hid xbm; refine Hid.out ?_)
      refine Lib.hid ?_
      go_wp2_with ((with_reducible refine Lay.ldL Tryz.tImg m (xbm.out.in) ?_ ?_); exact rfl; refine Hid.out ?_)
      refine Lib.hid ?_
      go_wp2_with fail
      refine (HAT.out _ (RD.out.frame cbm.out)).mono ?_
      rintro e W2 ⟨rfl, hc⟩
      have C2 := Lib.hid (cbm.out.then hc)
      have X2 := Lib.hid (xbm.out.frame hc)
      clear hc
      go_wp2
      go_ret
      exact ⟨rfl, C2.out⟩
    | false =>
      unfold protS
      by_cases p0 : 0 ≤ s.prot
      · have q0 : decide (0 ≤ s.prot) = true := by simpa using p0
        by_cases p7 : s.prot ≤ 7
        · have q7 : decide (s.prot ≤ 7) = true := by simpa using p7
          cases zb : (bits BinOp.and IntKind.i64 s.prot 2 != 0) with
          | true =>
            rw [q0, q7]
            simp only [Bool.not_false, Bool.true_and]
            clear p0 p7
            go_enter Tryz.func39, Tryz.ntmps39
            go_wp2_with ((with_reducible refine Lay.bxL (L := imgL) 30 m ?_ ?_); exact rfl; intro W1 bm ebm cbm xbm; replace ebm := Lib.hid ebm; replace cbm := Lib.hid cbm; replace xbm := Lib.hid xbm; refine Hid.out ?_)
            refine Lib.hid ?_
            go_wp2_with ((with_reducible refine Lay.ldL Tryz.tImg m (xbm.out.in) ?_ ?_); exact rfl; refine Hid.out ?_)
            refine Lib.hid ?_
            go_wp2_with fail
            refine (HAT.out _ (RD.out.frame cbm.out)).mono ?_
            rintro e W2 ⟨rfl, hc⟩
            have C2 := Lib.hid (cbm.out.then hc)
            have X2 := Lib.hid (xbm.out.frame hc)
            clear hc
            have x4 := Img.c_segs X2.out
            rw [hv] at x4
            go_wp2_with ((with_reducible refine Lay.ldL Tryz.tSeg s ((HI.out.frame C2.out)) ?_ ?_); exact rfl; refine Hid.out ?_)
            refine Lib.hid ?_
            go_wp2_with ((with_reducible refine Lay.alL Tryz.tSeg ?_); intro W3 bs ebs cbs xbs; replace ebs := Lib.hid ebs; replace cbs := Lib.hid cbs; replace xbs := Lib.hid xbs; refine Hid.out ?_)
            refine Lib.hid ?_
            go_wp2_with ((with_reducible refine Lay.stL Tryz.tSeg s (xbs.out) ?_ ?_ ?_); exact rfl; exact rfl; intro W4 cW4 xW4; replace cW4 := Lib.hid cW4; replace xW4 := Lib.hid xW4; refine Hid.out ?_)
            refine Lib.hid ?_
            have C4 : Hid (Chg [] w W4) := Lib.hid (C2.out.then (cbs.out.new cW4.out (by rw [ebs.out]; exact Nat.le_refl _)))
            have x1 := Seg.c_addr xW4.out
            have x2 := Seg.c_size xW4.out
            have x5 := Seg.c_prot xW4.out
            clear x4
            go_wp2
            go_ret
            exact ⟨rfl, C4.out⟩
          | false =>
            rw [q0, q7]
            simp only [Bool.not_false, Bool.true_and, Bool.false_and]
            clear p0 p7
            go_enter Tryz.func39, Tryz.ntmps39
            go_wp2_with ((with_reducible refine Lay.bxL (L := imgL) 30 m ?_ ?_); exact rfl; intro W1 bm ebm cbm xbm; replace ebm := Lib.hid ebm; replace cbm := Lib.hid cbm; replace xbm := Lib.hid xbm; refine Hid.out ?_)
            refine Lib.hid ?_
            go_wp2_with ((with_reducible refine Lay.ldL Tryz.tImg m (xbm.out.in) ?_ ?_); exact rfl; refine Hid.out ?_)
            refine Lib.hid ?_
            go_wp2_with fail
            refine (HAT.out _ (RD.out.frame cbm.out)).mono ?_
            rintro e W2 ⟨rfl, hc⟩
            have C2 := Lib.hid (cbm.out.then hc)
            have X2 := Lib.hid (xbm.out.frame hc)
            clear hc
            have x4 := Img.c_segs X2.out
            rw [hv] at x4
            go_wp2_with ((with_reducible refine Lay.ldL Tryz.tSeg s ((HI.out.frame C2.out)) ?_ ?_); exact rfl; refine Hid.out ?_)
            refine Lib.hid ?_
            go_wp2_with ((with_reducible refine Lay.alL Tryz.tSeg ?_); intro W3 bs ebs cbs xbs; replace ebs := Lib.hid ebs; replace cbs := Lib.hid cbs; replace xbs := Lib.hid xbs; refine Hid.out ?_)
            refine Lib.hid ?_
            go_wp2_with ((with_reducible refine Lay.stL Tryz.tSeg s (xbs.out) ?_ ?_ ?_); exact rfl; exact rfl; intro W4 cW4 xW4; replace cW4 := Lib.hid cW4; replace xW4 := Lib.hid xW4; refine Hid.out ?_)
            refine Lib.hid ?_
            have C4 : Hid (Chg [] w W4) := Lib.hid (C2.out.then (cbs.out.new cW4.out (by rw [ebs.out]; exact Nat.le_refl _)))
            have x1 := Seg.c_addr xW4.out
            have x2 := Seg.c_size xW4.out
            have x5 := Seg.c_prot xW4.out
            clear x4
            go_wp2
            go_ret
            exact ⟨rfl, C4.out⟩
        · have q7 : decide (s.prot ≤ 7) = false := by simpa using p7
          rw [q0, q7]
          simp only [Bool.not_false, Bool.true_and, Bool.false_and]
          clear p0 p7
          go_enter Tryz.func39, Tryz.ntmps39
          go_wp2_with ((with_reducible refine Lay.bxL (L := imgL) 30 m ?_ ?_); exact rfl; intro W1 bm ebm cbm xbm; replace ebm := Lib.hid ebm; replace cbm := Lib.hid cbm; replace xbm := Lib.hid xbm; refine Hid.out ?_)
          refine Lib.hid ?_
          go_wp2_with ((with_reducible refine Lay.ldL Tryz.tImg m (xbm.out.in) ?_ ?_); exact rfl; refine Hid.out ?_)
          refine Lib.hid ?_
          go_wp2_with fail
          refine (HAT.out _ (RD.out.frame cbm.out)).mono ?_
          rintro e W2 ⟨rfl, hc⟩
          have C2 := Lib.hid (cbm.out.then hc)
          have X2 := Lib.hid (xbm.out.frame hc)
          clear hc
          have x4 := Img.c_segs X2.out
          rw [hv] at x4
          go_wp2_with ((with_reducible refine Lay.ldL Tryz.tSeg s ((HI.out.frame C2.out)) ?_ ?_); exact rfl; refine Hid.out ?_)
          refine Lib.hid ?_
          go_wp2_with ((with_reducible refine Lay.alL Tryz.tSeg ?_); intro W3 bs ebs cbs xbs; replace ebs := Lib.hid ebs; replace cbs := Lib.hid cbs; replace xbs := Lib.hid xbs; refine Hid.out ?_)
          refine Lib.hid ?_
          go_wp2_with ((with_reducible refine Lay.stL Tryz.tSeg s (xbs.out) ?_ ?_ ?_); exact rfl; exact rfl; intro W4 cW4 xW4; replace cW4 := Lib.hid cW4; replace xW4 := Lib.hid xW4; refine Hid.out ?_)
          refine Lib.hid ?_
          have C4 : Hid (Chg [] w W4) := Lib.hid (C2.out.then (cbs.out.new cW4.out (by rw [ebs.out]; exact Nat.le_refl _)))
          have x1 := Seg.c_addr xW4.out
          have x2 := Seg.c_size xW4.out
          have x5 := Seg.c_prot xW4.out
          clear x4
          go_wp2
          go_ret
          exact ⟨rfl, C4.out⟩
      · have q0 : decide (0 ≤ s.prot) = false := by simpa using p0
        rw [q0]
        simp only [Bool.not_false, Bool.true_and, Bool.false_and]
        clear p0
        go_enter Tryz.func39, Tryz.ntmps39
        go_wp2_with ((with_reducible refine Lay.bxL (L := imgL) 30 m ?_ ?_); exact rfl; intro W1 bm ebm cbm xbm; replace ebm := Lib.hid ebm; replace cbm := Lib.hid cbm; replace xbm := Lib.hid xbm; refine Hid.out ?_)
        refine Lib.hid ?_
        go_wp2_with ((with_reducible refine Lay.ldL Tryz.tImg m (xbm.out.in) ?_ ?_); exact rfl; refine Hid.out ?_)
        refine Lib.hid ?_
        go_wp2_with fail
        refine (HAT.out _ (RD.out.frame cbm.out)).mono ?_
        rintro e W2 ⟨rfl, hc⟩
        have C2 := Lib.hid (cbm.out.then hc)
        have X2 := Lib.hid (xbm.out.frame hc)
        clear hc
        have x4 := Img.c_segs X2.out
        rw [hv] at x4
        go_wp2_with ((with_reducible refine Lay.ldL Tryz.tSeg s ((HI.out.frame C2.out)) ?_ ?_); exact rfl; refine Hid.out ?_)
        refine Lib.hid ?_
        go_wp2_with ((with_reducible refine Lay.alL Tryz.tSeg ?_); intro W3 bs ebs cbs xbs; replace ebs := Lib.hid ebs; replace cbs := Lib.hid cbs; replace xbs := Lib.hid xbs; refine Hid.out ?_)
        refine Lib.hid ?_
        go_wp2_with ((with_reducible refine Lay.stL Tryz.tSeg s (xbs.out) ?_ ?_ ?_); exact rfl; exact rfl; intro W4 cW4 xW4; replace cW4 := Lib.hid cW4; replace xW4 := Lib.hid xW4; refine Hid.out ?_)
        refine Lib.hid ?_
        have C4 : Hid (Chg [] w W4) := Lib.hid (C2.out.then (cbs.out.new cW4.out (by rw [ebs.out]; exact Nat.le_refl _)))
        have x1 := Seg.c_addr xW4.out
        have x2 := Seg.c_size xW4.out
        have x5 := Seg.c_prot xW4.out
        clear x4
        go_wp2
        go_ret
        exact ⟨rfl, C4.out⟩
end Go.Proofs.YtkomocgodljecaaGreatDoor
/- append of records to a row of the call's own: the run, and the step of a drawn region. -/
namespace Go.Proofs.YtkomocgodljecaaGreatDoor
open Go.RowKit
set_option maxRecDepth 100000

namespace Lay
variable {α : Type} {L : Lay α} {E : TypeId}
theorem run_app1 {P : Program} {T : TypeId} {bytes : Nat} (hI : Info P T E L.n bytes) (w : World) (ty : TypeId) (base : Nat) (v : Value) (ls : List α) (hown : L.Buf E w base v ls) (ad : Addr) (n c : Nat) (ms : List α) (hrd : L.Rd w (.slice (some ad) n c) ms)
    (hle : (ls.length + ms.length) * bytes ≤ 140737488355328) (hle2 : ls.length + ms.length ≤ 9223372036854775807) (hbase : base ≤ w.heap.size) :
    ∃ v' w', (Builtin.append_ #[T, T] ty #[v, .slice (some ad) n c]).run P w = .ok v' w' ∧ L.Buf E w' base v' (ls ++ ms) ∧ w.grownBy w' v.ownBlock ∧ (v'.ownBlock = v.ownBlock ∨ v'.ownBlock = some w.heap.size) := by
  obtain ⟨i0, z, hi, hz0, hz1, hz2, hz3⟩ := hI.i
  obtain ⟨hl, hc⟩ := Rd.cells hrd
  subst hl
  obtain ⟨v', w', hr, h2, h3, h4, h5⟩ := run_append_own_at (P := P) w base T ty E i0 z L.n bytes hI.u hi hz0 hz1 hz2 hz3 L.pos v ls.length (L.vals ls) hown ad ms.length c (L.vals ms) (vals_len ms) hc (vals_one _) (by unfold maxLen; exact hle2) hle hbase
  refine ⟨v', w', hr, ?_, h3, h5⟩
  unfold Buf
  rw [vals_append, List.length_append]
  exact h2
theorem armApp {P : Program} {T : TypeId} {bytes : Nat} (hI : Info P T E L.n bytes) {o : Oper} {a : Act} {w : World} {K : Act → World → Prop} {Q : Exit → Act → World → Prop} {tm : Nat → Option Bool} (hgd : o.guard = none) (s x : Operand) (ho : o.op = .call { callee := .builtin .append, args := #[s, x], argTypes := #[T, T] })
    (base : Nat) (v : Value) (ls : List α) (hs : a.eval s = v) (hown : L.Buf E w base v ls) (ad : Addr) (n c : Nat) (hx : a.eval x = .slice (some ad) n c) (ms : List α) (hrd : L.Rd w (.slice (some ad) n c) ms)
    (hle : (ls.length + ms.length) * bytes ≤ 140737488355328) (hle2 : ls.length + ms.length ≤ 9223372036854775807) (hbase : base ≤ w.heap.size)
    (h : ∀ v' w', L.Buf E w' base v' (ls ++ ms) → w.grownBy w' v.ownBlock → (v'.ownBlock = v.ownBlock ∨ v'.ownBlock = some w.heap.size) → K (a.put o.dst v') w') : if Region.wanted o tm = true then Oper.wp P o a w K Q else K (a.put o.dst undef) w := by
  rw [if_pos (by simp [Region.wanted, hgd])]
  obtain ⟨v', w', hr, h1, h2, h3⟩ := run_app1 hI w o.type base v ls hown ad n c ms hrd hle hle2 hbase
  unfold Oper.wp execOp
  simp only [ho, resolve, invoke, builtin, Sem.run_bind, Sem.run_pure, Result.andThen_ok, List.map_toArray, List.map_cons, List.map_nil, hs, hx, hr]
  exact h _ _ h1 h2 h3
theorem armBs1 {P : Program} {T : TypeId} {o : Oper} {a : Act} {w : World} {K : Act → World → Prop} {Q : Exit → Act → World → Prop} {tm : Nat → Option Bool} (hgd : o.guard = none) (s : Operand) (ho : o.op = .buildSlice T 1 #[(0, s)]) (x : α)
    (hr : ∀ w, (Instr.buildSlice T 1 #[(0, L.val x)]).run P w = .ok (.slice (some ⟨w.heap.size, 0, none⟩) 1 1) (w.alloc (.cells (L.f x).toArray E))) (hs : a.eval s = L.val x)
    (h : ∀ W g, Chg [] w W → L.Rd W (.slice (some ⟨g, 0, none⟩) 1 1) [x] → K (a.put o.dst (.slice (some ⟨g, 0, none⟩) 1 1)) W) : if Region.wanted o tm = true then Oper.wp P o a w K Q else K (a.put o.dst undef) w := by
  rw [if_pos (by simp [Region.wanted, hgd])]
  have hrw := hr w
  unfold Oper.wp execOp
  simp only [ho, List.map_toArray, List.map_cons, List.map_nil, hs, Sem.run_bind, hrw, Result.andThen_ok, Sem.run_pure]
  exact h _ _ ((Chg.refl _ _).alloc _) (Lay.Rd.of_heap (heap_alloc_eq _ _) (Lay.vals_single x).symm rfl (show 1 ≤ maxLen by decide))
end Lay
end Go.Proofs.YtkomocgodljecaaGreatDoor
/- bind: binds. -/
namespace Go.Proofs.YtkomocgodljecaaGreatDoor
open Go.RowKit
set_option maxRecDepth 100000

theorem with_exitB {Q : World → Prop} {W : World} (R : World → Prop) (hR : R W) (k : ∀ W', R W' → Q W') : Q W := k W hR
theorem fx_builtB (x : Fx) (w : World) : (Instr.buildSlice 31 1 #[(0, fxl.val x)]).run Tryz.prog w = .ok (.slice (some ⟨w.heap.size, 0, none⟩) 1 1) (w.alloc (.cells (fxl.f x).toArray 53)) := by
  show (Instr.buildSlice 31 1 #[(0, .agg #[.int .u64 x.at_, .int .i64 x.kind, .int .u64 x.tgt, .int .i64 x.ord, .string x.sym, .int .i64 x.add, .bool x.weak])]).run Tryz.prog w = .ok (.slice (some ⟨w.heap.size, 0, none⟩) 1 1) (w.alloc (.cells #[.int .u64 x.at_, .int .i64 x.kind, .int .u64 x.tgt, .int .i64 x.ord, .string x.sym, .int .i64 x.add, .bool x.weak] 53))
  go_simp
/-- So many binds 8 apart from a place on. -/
def bndW (f : Fx) (A n : Nat) : List Fx := (List.range n).map fun j : Nat => { f with at_ := ((A + 8 * j : Nat) : Int) }
theorem bndW_len (f : Fx) (A n : Nat) : (bndW f A n).length = n := by simp [bndW]
theorem bndW_snoc (f : Fx) (A n : Nat) : bndW f A (n + 1) = bndW f A n ++ [{ f with at_ := ((A + 8 * n : Nat) : Int) }] := by simp [bndW, List.range_succ]
/-- The reader's world, behind binds. -/
def BnP (b base : Nat) (r : Brd) (A : Nat) (fs : List Fx) (w w' : World) : Prop :=
  ∃ so : SlV, brdL.Box w' b { r with f := { r.f with at_ := (A : Int) }, out := so } ∧ FB w' base so.v fs ∧ Chg (b :: r.out.v.ownBlock.toList) w w' ∧ (so.v.ownBlock = r.out.v.ownBlock ∨ ∃ g, so.v.ownBlock = some g ∧ w.heap.size ≤ g)
theorem binds_not (b : Nat) (r : Brd) (n skip : Int) (hs : r.f.sym = ⟨#[]⟩) (hi : r.is_ = true) (w : World) (hb : brdL.Box w b r) :
    Calls Tryz.prog 75 #[.pointer (some ⟨b, 0, none⟩), .int .u64 n, .int .u64 skip] w fun e w' => e = stopB 14 ∧ w' = w := by
  have x1 := Brd.c_is hb
  rw [hi] at x1
  have x2 := Brd.c_sym hb
  rw [hs] at x2
  have Hb := Lib.hid hb
  have Hs := Lib.hid hs
  have Hi := Lib.hid hi
  clear hb hs hi
  go_enter Tryz.func75, Tryz.ntmps75
  go_wp2_with fail
  refine (refuse_bad 14 _).mono ?_
  rintro e W3 ⟨rfl, rfl⟩
  exact ⟨rfl, rfl, rfl⟩
end Go.Proofs.YtkomocgodljecaaGreatDoor
