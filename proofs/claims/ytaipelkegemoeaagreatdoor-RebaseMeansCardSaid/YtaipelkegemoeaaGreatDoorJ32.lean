/- Lemmas, laid together: part 32 of 46. Conditions: none but each lemma's own. -/
import Derived.Test.YtaipelkegemoeaaGreatDoorJ23
import Derived.Test.YtaipelkegemoeaaGreatDoorJ25
import Derived.Test.YtaipelkegemoeaaGreatDoorJ8
import Derived.Test.YtaipelkegemoeaaGreatDoorJ31
/- rebase: one, where 8 bytes may be written. -/
namespace Go.Proofs.YtaipelkegemoeaaGreatDoor
open Go.RowKit
set_option maxRecDepth 100000

/-- The reader's world, behind one more. -/
def OneP (b base : Nat) (r : Rdr) (A : Nat) (fs : List Fx) (w w' : World) : Prop :=
  ∃ so : SlV, rdrL.Box w' b { r with at_ := (A : Int), out := so } ∧ FB w' base so.v fs ∧ Chg (b :: r.out.v.ownBlock.toList) w w' ∧ (so.v.ownBlock = r.out.v.ownBlock ∨ ∃ g, so.v.ownBlock = some g ∧ w.heap.size ≤ g)
theorem with_exit {Q : World → Prop} {W : World} (R : World → Prop) (hR : R W) (k : ∀ W', R W' → Q W') : Q W := k W hR
theorem fx_builtR (x : Fx) (w : World) : (Instr.buildSlice 23 1 #[(0, fxl.val x)]).run Tryz.prog w = .ok (.slice (some ⟨w.heap.size, 0, none⟩) 1 1) (w.alloc (.cells (fxl.f x).toArray 46)) := by
  show (Instr.buildSlice 23 1 #[(0, .agg #[.int .u64 x.at_, .int .i64 x.kind, .int .u64 x.tgt, .int .i64 x.ord, .string x.sym, .int .i64 x.add, .bool x.weak])]).run Tryz.prog w = .ok (.slice (some ⟨w.heap.size, 0, none⟩) 1 1) (w.alloc (.cells #[.int .u64 x.at_, .int .i64 x.kind, .int .u64 x.tgt, .int .i64 x.ord, .string x.sym, .int .i64 x.add, .bool x.weak] 46))
  go_simp
set_option linter.unusedSimpArgs false in
set_option maxHeartbeats 4000000 in
theorem one_ok (b base : Nat) (r : Rdr) (A : Nat) (hA : r.at_ = A) (hA2 : A + 8 < 18446744073709551616) (ls : List Seg) (hls : SegsB ls) (hwr : writS ls A 8 = true) (l : List UInt8) (hl : l.length ≤ 100000000) (fs : List Fx) (hfs : fs.length ≤ 100000) (w : World)
    (hb : rdrL.Box w b r) (hrd : segL.Rd w r.m.segs.v ls) (hsl : byteL.Rd w r.sl.v l) (hfb : FB w base r.out.v fs) (hbb : b < base) (hbw : base ≤ w.heap.size) :
    Calls Tryz.prog 72 #[.pointer (some ⟨b, 0, none⟩)] w fun e w' => e = .returned (.int .i64 0) ∧ OneP b base r (A + 8) (fs ++ [rebF A (wordS ls l A).1]) w w' := by
  have HWR := Lib.hid (fun w rd => Writable_any r.m ls hls (A : Int) 8 (by omega) w rd)
  have HWD := Lib.hid (fun w rl rd => Word_any l r.sl.v r.m ls hls (A : Int) (by omega) w rl hl rd)
  rw [hwr] at HWR
  obtain ⟨t, ht⟩ : ∃ t, t = wordS ls l A := ⟨_, rfl⟩
  rw [← ht] at HWD ⊢
  have x3 := Rdr.c_at hb
  have x1 := Rdr.c_sl hb
  rw [hA] at x3
  have hob : ∀ k, r.out.v.ownBlock = some k → base ≤ k := fun k hk => (hfb.lt k hk).1
  have HFU := Lib.hid (fun (r' : Rdr) w h hb => further_ok b r' A 8 h hA2 w hb)
  have hbl := hb.lt
  have Hb := Lib.hid hb
  have HRD := Lib.hid hrd
  have HSL := Lib.hid hsl
  have HFB := Lib.hid hfb
  have Hls := Lib.hid hls
  have HA2 := Lib.hid hA2
  have Hwr := Lib.hid hwr
  have HA := Lib.hid hA
  have Hl := Lib.hid hl
  have Ht := Lib.hid ht
  have Hob := Lib.hid hob
  clear hb hrd hsl hfb hls hA2 hwr hA hl ht hob
  go_enter Tryz.func72, Tryz.ntmps72
  go_upto_region 1 with fail
  refine wp_region_noPanic ?_
  refine wp_region_held_drew (S := fun w' => Chg [] w w') (by kernel_rfl) ((Chg.refl _ _).drew) (fun hHeld => ?_)
  refine take_read (i := 0) (v := ?_) (by simp only [List.getElem?_toArray, List.getElem?_cons_zero]; rfl) (by kernel_rfl) (by kernel_rfl) (by kernel_rfl) (fun _ _ _ h => h) hHeld ?_ ?_
  rotate_left
  · intro w hSw
    go_simp
    try with_reducible rfl
  try simp only [Act.put, List.setIfInBounds_toArray, List.set_cons_zero, List.set_cons_succ]
  refine take_read (i := 1) (v := ?_) (by simp only [List.getElem?_toArray, List.getElem?_cons_succ, List.getElem?_cons_zero]; rfl) (by kernel_rfl) (by kernel_rfl) (by kernel_rfl) (fun _ _ _ h => h) hHeld ?_ ?_
  rotate_left
  · intro w hSw
    go_simp
    try with_reducible rfl
  try simp only [Act.put, List.setIfInBounds_toArray, List.set_cons_zero, List.set_cons_succ]
  refine take_read (i := 2) (v := ?_) (by simp only [List.getElem?_toArray, List.getElem?_cons_succ, List.getElem?_cons_zero]; rfl) (by kernel_rfl) (by kernel_rfl) (by kernel_rfl) (fun _ _ _ h => h) hHeld ?_ ?_
  rotate_left
  · intro w hSw
    go_simp
    try with_reducible rfl
  try simp only [Act.put, List.setIfInBounds_toArray, List.set_cons_zero, List.set_cons_succ]
  refine take_read (i := 3) (v := ?_) (by simp only [List.getElem?_toArray, List.getElem?_cons_succ, List.getElem?_cons_zero]; rfl) (by kernel_rfl) (by kernel_rfl) (by kernel_rfl) (fun _ _ _ h => h) hHeld ?_ ?_
  rotate_left
  · intro w hSw
    refine Lay.read_ld Tryz.tImg ((Rdr.i_m (Hb.out.frame hSw))) ?_ ?_
    exact rfl
    exact rfl
  try simp only [Act.put, List.setIfInBounds_toArray, List.set_cons_zero, List.set_cons_succ]
  refine take_read (i := 4) (v := ?_) (by simp only [List.getElem?_toArray, List.getElem?_cons_succ, List.getElem?_cons_zero]; rfl) (by kernel_rfl) (by kernel_rfl) (by kernel_rfl) (fun _ _ _ h => h) hHeld ?_ ?_
  rotate_left
  · intro w hSw
    go_simp
    try with_reducible rfl
  try simp only [Act.put, List.setIfInBounds_toArray, List.set_cons_zero, List.set_cons_succ]
  refine take_read (i := 5) (v := ?_) (by simp only [List.getElem?_toArray, List.getElem?_cons_succ, List.getElem?_cons_zero]; rfl) (by kernel_rfl) (by kernel_rfl) (by kernel_rfl) (fun _ _ _ h => h) hHeld ?_ ?_
  rotate_left
  · intro w hSw
    go_simp
    try with_reducible rfl
  try simp only [Act.put, List.setIfInBounds_toArray, List.set_cons_zero, List.set_cons_succ]
  refine take_read (i := 6) (v := ?_) (by simp only [List.getElem?_toArray, List.getElem?_cons_succ, List.getElem?_cons_zero]; rfl) (by kernel_rfl) (by kernel_rfl) (by kernel_rfl) (fun _ _ _ h => h) hHeld ?_ ?_
  rotate_left
  · intro w hSw
    go_simp
    try with_reducible rfl
  try simp only [Act.put, List.setIfInBounds_toArray, List.set_cons_zero, List.set_cons_succ]
  refine take_read (i := 7) (v := ?_) (by simp only [List.getElem?_toArray, List.getElem?_cons_succ, List.getElem?_cons_zero]; rfl) (by kernel_rfl) (by kernel_rfl) (by kernel_rfl) (fun _ _ _ h => h) hHeld ?_ ?_
  rotate_left
  · intro w hSw
    have x3 := hSw.cell x3 (by simp)
    go_simp
    try with_reducible rfl
  try simp only [Act.put, List.setIfInBounds_toArray, List.set_cons_zero, List.set_cons_succ]
  refine wpAnyH_ready (rs := [8]) (by kernel_rfl) (by simp) ?_
  refine AllReadyH.cons rfl (fun K hK => ?_) AllReadyH.nil
  go_simp
  refine (HWR.out _ (HRD.out.frame hHeld)).mono ?_
  rintro e W1 ⟨rfl, hc⟩
  have A3 : Hid (Chg [] w W1) := Lib.hid (hHeld.then hc)
  clear hc
  refine hK.out _ _ A3.out (fun hHeld2 => ?_)
  clear hK hHeld K
  have hHeld := hHeld2
  clear hHeld2
  try (unfold Act.put; simp only [List.setIfInBounds_toArray, List.set_cons_zero, List.set_cons_succ])
  refine take_read (i := 9) (v := ?_) (by simp only [List.getElem?_toArray, List.getElem?_cons_succ, List.getElem?_cons_zero]; rfl) (by kernel_rfl) (by kernel_rfl) (by kernel_rfl) (fun _ _ _ h => h) hHeld ?_ ?_
  rotate_left
  · intro w hSw
    go_simp
    try with_reducible rfl
  try simp only [Act.put, List.setIfInBounds_toArray, List.set_cons_zero, List.set_cons_succ]
  refine wpAnyH_done (by kernel_rfl) ?_ _
  refine NoPanic.normal ?_
  go_upto_region 3 with fail
  replace x3 := A3.out.cell x3 (by simp)
  replace x1 := A3.out.cell x1 (by simp)
  have B1 := Lib.hid (Hb.out.frame A3.out)
  refine wp_region_noPanic ?_
  refine wp_region_held_drew (S := fun w' => Chg [] W1 w') (by kernel_rfl) ((Chg.refl _ _).drew) (fun hHeld => ?_)
  refine take_read (i := 0) (v := ?_) (by simp only [List.getElem?_toArray, List.getElem?_cons_zero]; rfl) (by kernel_rfl) (by kernel_rfl) (by kernel_rfl) (fun _ _ _ h => h) hHeld ?_ ?_
  rotate_left
  · intro w hSw
    go_simp
    try with_reducible rfl
  try simp only [Act.put, List.setIfInBounds_toArray, List.set_cons_zero, List.set_cons_succ]
  refine take_read (i := 1) (v := ?_) (by simp only [List.getElem?_toArray, List.getElem?_cons_succ, List.getElem?_cons_zero]; rfl) (by kernel_rfl) (by kernel_rfl) (by kernel_rfl) (fun _ _ _ h => h) hHeld ?_ ?_
  rotate_left
  · intro w hSw
    go_simp
    try with_reducible rfl
  try simp only [Act.put, List.setIfInBounds_toArray, List.set_cons_zero, List.set_cons_succ]
  refine take_read (i := 2) (v := ?_) (by simp only [List.getElem?_toArray, List.getElem?_cons_succ, List.getElem?_cons_zero]; rfl) (by kernel_rfl) (by kernel_rfl) (by kernel_rfl) (fun _ _ _ h => h) hHeld ?_ ?_
  rotate_left
  · intro w hSw
    go_simp
    try with_reducible rfl
  try simp only [Act.put, List.setIfInBounds_toArray, List.set_cons_zero, List.set_cons_succ]
  refine take_read (i := 3) (v := ?_) (by simp only [List.getElem?_toArray, List.getElem?_cons_succ, List.getElem?_cons_zero]; rfl) (by kernel_rfl) (by kernel_rfl) (by kernel_rfl) (fun _ _ _ h => h) hHeld ?_ ?_
  rotate_left
  · intro w hSw
    have x1 := hSw.cell x1 (by simp)
    go_simp
    try with_reducible rfl
  try simp only [Act.put, List.setIfInBounds_toArray, List.set_cons_zero, List.set_cons_succ]
  refine take_read (i := 4) (v := ?_) (by simp only [List.getElem?_toArray, List.getElem?_cons_succ, List.getElem?_cons_zero]; rfl) (by kernel_rfl) (by kernel_rfl) (by kernel_rfl) (fun _ _ _ h => h) hHeld ?_ ?_
  rotate_left
  · intro w hSw
    go_simp
    try with_reducible rfl
  try simp only [Act.put, List.setIfInBounds_toArray, List.set_cons_zero, List.set_cons_succ]
  refine take_read (i := 5) (v := ?_) (by simp only [List.getElem?_toArray, List.getElem?_cons_succ, List.getElem?_cons_zero]; rfl) (by kernel_rfl) (by kernel_rfl) (by kernel_rfl) (fun _ _ _ h => h) hHeld ?_ ?_
  rotate_left
  · intro w hSw
    go_simp
    try with_reducible rfl
  try simp only [Act.put, List.setIfInBounds_toArray, List.set_cons_zero, List.set_cons_succ]
  refine take_read (i := 6) (v := ?_) (by simp only [List.getElem?_toArray, List.getElem?_cons_succ, List.getElem?_cons_zero]; rfl) (by kernel_rfl) (by kernel_rfl) (by kernel_rfl) (fun _ _ _ h => h) hHeld ?_ ?_
  rotate_left
  · intro w hSw
    go_simp
    try with_reducible rfl
  try simp only [Act.put, List.setIfInBounds_toArray, List.set_cons_zero, List.set_cons_succ]
  refine take_read (i := 7) (v := ?_) (by simp only [List.getElem?_toArray, List.getElem?_cons_succ, List.getElem?_cons_zero]; rfl) (by kernel_rfl) (by kernel_rfl) (by kernel_rfl) (fun _ _ _ h => h) hHeld ?_ ?_
  rotate_left
  · intro w hSw
    refine Lay.read_ld Tryz.tImg ((Rdr.i_m (B1.out.frame hSw))) ?_ ?_
    exact rfl
    exact rfl
  try simp only [Act.put, List.setIfInBounds_toArray, List.set_cons_zero, List.set_cons_succ]
  refine take_read (i := 8) (v := ?_) (by simp only [List.getElem?_toArray, List.getElem?_cons_succ, List.getElem?_cons_zero]; rfl) (by kernel_rfl) (by kernel_rfl) (by kernel_rfl) (fun _ _ _ h => h) hHeld ?_ ?_
  rotate_left
  · intro w hSw
    go_simp
    try with_reducible rfl
  try simp only [Act.put, List.setIfInBounds_toArray, List.set_cons_zero, List.set_cons_succ]
  refine take_read (i := 9) (v := ?_) (by simp only [List.getElem?_toArray, List.getElem?_cons_succ, List.getElem?_cons_zero]; rfl) (by kernel_rfl) (by kernel_rfl) (by kernel_rfl) (fun _ _ _ h => h) hHeld ?_ ?_
  rotate_left
  · intro w hSw
    go_simp
    try with_reducible rfl
  try simp only [Act.put, List.setIfInBounds_toArray, List.set_cons_zero, List.set_cons_succ]
  refine take_read (i := 10) (v := ?_) (by simp only [List.getElem?_toArray, List.getElem?_cons_succ, List.getElem?_cons_zero]; rfl) (by kernel_rfl) (by kernel_rfl) (by kernel_rfl) (fun _ _ _ h => h) hHeld ?_ ?_
  rotate_left
  · intro w hSw
    go_simp
    try with_reducible rfl
  try simp only [Act.put, List.setIfInBounds_toArray, List.set_cons_zero, List.set_cons_succ]
  refine take_read (i := 11) (v := ?_) (by simp only [List.getElem?_toArray, List.getElem?_cons_succ, List.getElem?_cons_zero]; rfl) (by kernel_rfl) (by kernel_rfl) (by kernel_rfl) (fun _ _ _ h => h) hHeld ?_ ?_
  rotate_left
  · intro w hSw
    have x3 := hSw.cell x3 (by simp)
    go_simp
    try with_reducible rfl
  try simp only [Act.put, List.setIfInBounds_toArray, List.set_cons_zero, List.set_cons_succ]
  refine wpAnyH_ready (rs := [12]) (by kernel_rfl) (by simp) ?_
  refine AllReadyH.cons rfl (fun K hK => ?_) AllReadyH.nil
  go_simp
  refine (HWD.out _ (HSL.out.frame (A3.out.then hHeld)) (HRD.out.frame (A3.out.then hHeld))).mono ?_
  rintro e W2 ⟨rfl, hc⟩
  have A5 : Hid (Chg [] W1 W2) := Lib.hid (hHeld.then hc)
  clear hc
  refine hK.out _ _ A5.out (fun hHeld2 => ?_)
  clear hK hHeld K
  have hHeld := hHeld2
  clear hHeld2
  try (unfold Act.put; simp only [List.setIfInBounds_toArray, List.set_cons_zero, List.set_cons_succ])
  refine take_read (i := 13) (v := ?_) (by simp only [List.getElem?_toArray, List.getElem?_cons_succ, List.getElem?_cons_zero]; rfl) (by kernel_rfl) (by kernel_rfl) (by kernel_rfl) (fun _ _ _ h => h) hHeld ?_ ?_
  rotate_left
  · intro w hSw
    go_simp
    try with_reducible rfl
  try simp only [Act.put, List.setIfInBounds_toArray, List.set_cons_zero, List.set_cons_succ]
  refine take_read (i := 14) (v := ?_) (by simp only [List.getElem?_toArray, List.getElem?_cons_succ, List.getElem?_cons_zero]; rfl) (by kernel_rfl) (by kernel_rfl) (by kernel_rfl) (fun _ _ _ h => h) hHeld ?_ ?_
  rotate_left
  · intro w hSw
    go_simp
    try with_reducible rfl
  try simp only [Act.put, List.setIfInBounds_toArray, List.set_cons_zero, List.set_cons_succ]
  refine take_read (i := 15) (v := ?_) (by simp only [List.getElem?_toArray, List.getElem?_cons_succ, List.getElem?_cons_zero]; rfl) (by kernel_rfl) (by kernel_rfl) (by kernel_rfl) (fun _ _ _ h => h) hHeld ?_ ?_
  rotate_left
  · intro w hSw
    go_simp
    try with_reducible rfl
  try simp only [Act.put, List.setIfInBounds_toArray, List.set_cons_zero, List.set_cons_succ]
  refine take_read (i := 16) (v := ?_) (by simp only [List.getElem?_toArray, List.getElem?_cons_succ, List.getElem?_cons_zero]; rfl) (by kernel_rfl) (by kernel_rfl) (by kernel_rfl) (fun _ _ _ h => h) hHeld ?_ ?_
  rotate_left
  · intro w hSw
    go_simp
    try with_reducible rfl
  try simp only [Act.put, List.setIfInBounds_toArray, List.set_cons_zero, List.set_cons_succ]
  refine take_read (i := 17) (v := ?_) (by simp only [List.getElem?_toArray, List.getElem?_cons_succ, List.getElem?_cons_zero]; rfl) (by kernel_rfl) (by kernel_rfl) (by kernel_rfl) (fun _ _ _ h => h) hHeld ?_ ?_
  rotate_left
  · intro w hSw
    go_simp
    try with_reducible rfl
  try simp only [Act.put, List.setIfInBounds_toArray, List.set_cons_zero, List.set_cons_succ]
  refine wpAnyH_done (by kernel_rfl) ?_ _
  refine NoPanic.normal ?_
  have C2 := Lib.hid (A3.out.then A5.out)
  have B2 := Lib.hid (B1.out.frame A5.out)
  have F2 := Lib.hid (HFB.out.pure C2.out)
  clear A3 A5 B1 x1 x3
  go_upto_region 4 with fail
  have y26 := Rdr.c_at B2.out
  rw [HA.out] at y26
  have y29 := Rdr.c_out (Lay.Box.drew B2.out)
  have k26 : W2.drew.cell? ⟨b, 26, none⟩ = some (.int .u64 A) := (Chg.refl [] W2).drew.cell y26 (by simp)
  refine wp_region_noPanic ?_
  refine wp_region_held_drew (S := fun w' => Chg (b :: r.out.v.ownBlock.toList) W2 w' ∧ w'.cell? ⟨b, 26, none⟩ = some (.int .u64 A)) (by kernel_rfl) ⟨(Chg.refl _ _).drew, k26⟩ (fun hHeld => ?_)
  refine take_read (i := 0) (v := ?_) (by simp only [List.getElem?_toArray, List.getElem?_cons_zero]; rfl) (by kernel_rfl) (by kernel_rfl) (by kernel_rfl) (fun _ _ _ h => h) hHeld ?_ ?_
  rotate_left
  · intro w hSw
    go_simp
    try with_reducible rfl
  try simp only [Act.put, List.setIfInBounds_toArray, List.set_cons_zero, List.set_cons_succ]
  refine take_read (i := 1) (v := ?_) (by simp only [List.getElem?_toArray, List.getElem?_cons_succ, List.getElem?_cons_zero]; rfl) (by kernel_rfl) (by kernel_rfl) (by kernel_rfl) (fun _ _ _ h => h) hHeld ?_ ?_
  rotate_left
  · intro w hSw
    go_simp
    try with_reducible rfl
  try simp only [Act.put, List.setIfInBounds_toArray, List.set_cons_zero, List.set_cons_succ]
  refine take_read (i := 2) (v := ?_) (by simp only [List.getElem?_toArray, List.getElem?_cons_succ, List.getElem?_cons_zero]; rfl) (by kernel_rfl) (by kernel_rfl) (by kernel_rfl) (fun _ _ _ h => h) hHeld ?_ ?_
  rotate_left
  · intro w hSw
    go_simp
    try with_reducible rfl
  try simp only [Act.put, List.setIfInBounds_toArray, List.set_cons_zero, List.set_cons_succ]
  refine take_read (i := 3) (v := ?_) (by simp only [List.getElem?_toArray, List.getElem?_cons_succ, List.getElem?_cons_zero]; rfl) (by kernel_rfl) (by kernel_rfl) (by kernel_rfl) (fun _ _ _ h => h) hHeld ?_ ?_
  rotate_left
  · intro w hSw
    go_simp
    try with_reducible rfl
  try simp only [Act.put, List.setIfInBounds_toArray, List.set_cons_zero, List.set_cons_succ]
  refine take_read (i := 5) (v := ?_) (by simp only [List.getElem?_toArray, List.getElem?_cons_succ, List.getElem?_cons_zero]; rfl) (by kernel_rfl) (by kernel_rfl) (by kernel_rfl) (fun _ _ _ h => h) hHeld ?_ ?_
  rotate_left
  · intro w hSw
    go_simp
    try with_reducible rfl
  try simp only [Act.put, List.setIfInBounds_toArray, List.set_cons_zero, List.set_cons_succ]
  refine take_read (i := 6) (v := ?_) (by simp only [List.getElem?_toArray, List.getElem?_cons_succ, List.getElem?_cons_zero]; rfl) (by kernel_rfl) (by kernel_rfl) (by kernel_rfl) (fun _ _ _ h => h) hHeld ?_ ?_
  rotate_left
  · intro w hSw
    go_simp
    try with_reducible rfl
  try simp only [Act.put, List.setIfInBounds_toArray, List.set_cons_zero, List.set_cons_succ]
  refine take_read (i := 7) (v := ?_) (by simp only [List.getElem?_toArray, List.getElem?_cons_succ, List.getElem?_cons_zero]; rfl) (by kernel_rfl) (by kernel_rfl) (by kernel_rfl) (fun _ _ _ h => h) hHeld ?_ ?_
  rotate_left
  · intro w hSw
    go_simp
    try with_reducible rfl
  try simp only [Act.put, List.setIfInBounds_toArray, List.set_cons_zero, List.set_cons_succ]
  refine take_read (i := 8) (v := ?_) (by simp only [List.getElem?_toArray, List.getElem?_cons_succ, List.getElem?_cons_zero]; rfl) (by kernel_rfl) (by kernel_rfl) (by kernel_rfl) (fun _ _ _ h => h) hHeld ?_ ?_
  rotate_left
  · intro w hSw
    have y26 := hSw.2
    go_simp
    try with_reducible rfl
  try simp only [Act.put, List.setIfInBounds_toArray, List.set_cons_zero, List.set_cons_succ]
  refine take_read (i := 9) (v := ?_) (by simp only [List.getElem?_toArray, List.getElem?_cons_succ, List.getElem?_cons_zero]; rfl) (by kernel_rfl) (by kernel_rfl) (by kernel_rfl) (fun _ _ _ h => h) hHeld ?_ ?_
  rotate_left
  · intro w hSw
    go_simp
    try with_reducible rfl
  try simp only [Act.put, List.setIfInBounds_toArray, List.set_cons_zero, List.set_cons_succ]
  refine take_read (i := 10) (v := ?_) (by simp only [List.getElem?_toArray, List.getElem?_cons_succ, List.getElem?_cons_zero]; rfl) (by kernel_rfl) (by kernel_rfl) (by kernel_rfl) (fun _ _ _ h => h) hHeld ?_ ?_
  rotate_left
  · intro w hSw
    go_simp
    try with_reducible rfl
  try simp only [Act.put, List.setIfInBounds_toArray, List.set_cons_zero, List.set_cons_succ]
  refine wpAnyH_ready (rs := [4, 11]) (by kernel_rfl) (by simp) ?_
  refine AllReadyH.cons rfl (fun K hK => ?_) (AllReadyH.cons rfl (fun K hK => ?_) AllReadyH.nil)
  · go_simp
    refine hK.out _ _ hHeld (fun hHeld2 => ?_)
    clear hK hHeld K
    have hHeld := hHeld2
    clear hHeld2
    try (unfold Act.put; simp only [List.setIfInBounds_toArray, List.set_cons_zero, List.set_cons_succ])
    refine wpAnyH_ready (rs := [11]) (by kernel_rfl) (by simp) ?_
    refine AllReadyH.cons (by simp only [List.getElem?_toArray, List.getElem?_cons_succ, List.getElem?_cons_zero]; rfl) (fun K hK => ?_) AllReadyH.nil
    refine Lay.armBs1 rfl _ rfl (rebF A t.1) (fx_builtR _) rfl (fun wj g hcj hrj => ?_)
    have J1 := Lib.hid hcj
    have JR := Lib.hid hrj
    clear hcj hrj
    replace y29 := J1.out.cell y29 (by simp)
    refine hK.out _ _ ⟨hHeld.1.then J1.out, J1.out.cell hHeld.2 (by simp)⟩ (fun hHeld2 => ?_)
    clear hK hHeld K
    have hHeld := hHeld2
    clear hHeld2
    try (unfold Act.put; simp only [List.setIfInBounds_toArray, List.set_cons_zero, List.set_cons_succ])
    refine wpAnyH_ready (rs := [12]) (by kernel_rfl) (by simp) ?_
    refine AllReadyH.cons (by simp only [List.getElem?_toArray, List.getElem?_cons_succ, List.getElem?_cons_zero]; rfl) (fun K hK => ?_) AllReadyH.nil
    have DJ : Hid (Chg [] W2 wj) := Lib.hid (((Chg.refl [] W2).drew).then J1.out)
    refine Lay.armApp (L := fxl) Tryz.infoFxL rfl _ _ rfl base r.out.v fs rfl (F2.out.pure DJ.out) ⟨g, 0, none⟩ 1 1 rfl [rebF A t.1] JR.out (by simp; omega) (by simp; omega) (by have := C2.out.size; have := DJ.out.size; omega) (fun vk wk hok hgr hlc => ?_)
    obtain ⟨a9, c9, rfl, _, _⟩ := hok.rd.shape
    rw [show (fs ++ [rebF A t.1]).length = fs.length + 1 by simp] at hok hlc
    have hnb : b ∉ r.out.v.ownBlock.toList := fun hm => by have := Hob.out b (by simpa using hm); omega
    have GR := Lib.hid (Lay.chg_grown hgr)
    have C12 : Hid (Chg (b :: r.out.v.ownBlock.toList) W2 wk) := Lib.hid (hHeld.1.same (GR.out.mono (fun i hi _ => List.mem_cons_of_mem _ hi)))
    have Y26 := Lib.hid (GR.out.cell hHeld.2 hnb)
    have BK : Hid (rdrL.Box wk b r) := Lib.hid ((B2.out.frame DJ.out).frameS GR.out hnb)
    have OK := Lib.hid hok
    have LC := Lib.hid hlc
    clear hok hlc
    clear hgr y29
    have y29 := Rdr.c_out BK.out
    have z29 := BK.out.frozen 29
    have BZ := Lib.hid (Rdr.set_out BK.out ⟨a9, fs.length + 1, c9⟩)
    have Z26 := Lib.hid (Rdr.c_at BZ.out)
    refine hK.out _ _ ⟨C12.out, Y26.out⟩ (fun hHeld2 => ?_)
    clear hK hHeld K
    have hHeld := hHeld2
    clear hHeld2
    try (unfold Act.put; simp only [List.setIfInBounds_toArray, List.set_cons_zero, List.set_cons_succ])
    refine take_read (i := 13) (v := ?_) (by simp only [List.getElem?_toArray, List.getElem?_cons_succ, List.getElem?_cons_zero]; rfl) (by kernel_rfl) (by kernel_rfl) (by kernel_rfl) (fun _ _ _ h => h) hHeld ?_ ?_
    rotate_left
    · intro w hSw
      go_simp
      try with_reducible rfl
    try simp only [Act.put, List.setIfInBounds_toArray, List.set_cons_zero, List.set_cons_succ]
    refine take_read (i := 14) (v := ?_) (by simp only [List.getElem?_toArray, List.getElem?_cons_succ, List.getElem?_cons_zero]; rfl) (by kernel_rfl) (by kernel_rfl) (by kernel_rfl) (fun _ _ _ h => h) hHeld ?_ ?_
    rotate_left
    · intro w hSw
      go_simp
      try with_reducible rfl
    try simp only [Act.put, List.setIfInBounds_toArray, List.set_cons_zero, List.set_cons_succ]
    refine wpAnyH_ready (rs := [15]) (by kernel_rfl) (by simp) ?_
    refine AllReadyH.cons rfl (fun K hK => ?_) AllReadyH.nil
    go_simp
    refine hK.out _ _ ⟨C12.out.setCell _ _ (.inl (by simp)), by rw [← HA.out]; exact Z26.out⟩ (fun hHeld2 => ?_)
    clear hK hHeld K
    have hHeld := hHeld2
    clear hHeld2
    try (unfold Act.put; simp only [List.setIfInBounds_toArray, List.set_cons_zero, List.set_cons_succ])
    refine wpAnyH_done (by kernel_rfl) ?_ _
    refine NoPanic.normal ?_
    refine with_exit (Q := Exit.then _ _ _ _) (fun W => rdrL.Box W b { r with out := ⟨a9, fs.length + 1, c9⟩ } ∧ FB W base (.slice a9 (fs.length + 1) c9) (fs ++ [rebF A t.1]) ∧ Chg (b :: r.out.v.ownBlock.toList) W2 W) ⟨BZ.out, OK.out.frame (S := [b]) ((Chg.refl _ _).setCell _ _ (.inl (by simp))) (fun k hk hm => by have := (OK.out.lt k hk).1; simp at hm; omega), hHeld.1⟩ (fun W3 hW => ?_)
    have hwj : w.heap.size ≤ wj.heap.size := by have := C2.out.size; have := DJ.out.size; omega
    obtain ⟨h1, h2, h3⟩ := hW
    have B3 := Lib.hid h1
    have F3 := Lib.hid h2
    have C3 := Lib.hid h3
    clear h1 h2 h3
    clear hHeld BZ Z26 y29 z29
    go_wp2_with fail
    refine (HFU.out { r with out := ⟨a9, fs.length + 1, c9⟩ } _ HA.out B3.out).mono ?_
    rintro e W4 ⟨rfl, hb4, hc4⟩
    have B4 := Lib.hid hb4
    have C4 := Lib.hid hc4
    clear hb4 hc4
    go_wp2
    go_ret
    refine ⟨rfl, ⟨a9, fs.length + 1, c9⟩, B4.out, F3.out.frame C4.out (fun k hk hm => by have := (F3.out.lt k hk).1; simp at hm; omega), (C2.out.add.same C3.out).same (C4.out.mono (fun i hi _ => by simp at hi; subst hi; exact List.mem_cons_self ..)), ?_⟩
    rcases LC.out with h | h
    · exact .inl h
    · exact .inr ⟨_, h, hwj⟩
  · refine Lay.armBs1 rfl _ rfl (rebF A t.1) (fx_builtR _) rfl (fun wj g hcj hrj => ?_)
    have J1 := Lib.hid hcj
    have JR := Lib.hid hrj
    clear hcj hrj
    replace y29 := J1.out.cell y29 (by simp)
    refine hK.out _ _ ⟨hHeld.1.then J1.out, J1.out.cell hHeld.2 (by simp)⟩ (fun hHeld2 => ?_)
    clear hK hHeld K
    have hHeld := hHeld2
    clear hHeld2
    try (unfold Act.put; simp only [List.setIfInBounds_toArray, List.set_cons_zero, List.set_cons_succ])
    refine wpAnyH_ready (rs := [4]) (by kernel_rfl) (by simp) ?_
    refine AllReadyH.cons rfl (fun K hK => ?_) AllReadyH.nil
    go_simp
    refine hK.out _ _ hHeld (fun hHeld2 => ?_)
    clear hK hHeld K
    have hHeld := hHeld2
    clear hHeld2
    try (unfold Act.put; simp only [List.setIfInBounds_toArray, List.set_cons_zero, List.set_cons_succ])
    refine wpAnyH_ready (rs := [12]) (by kernel_rfl) (by simp) ?_
    refine AllReadyH.cons (by simp only [List.getElem?_toArray, List.getElem?_cons_succ, List.getElem?_cons_zero]; rfl) (fun K hK => ?_) AllReadyH.nil
    have DJ : Hid (Chg [] W2 wj) := Lib.hid (((Chg.refl [] W2).drew).then J1.out)
    refine Lay.armApp (L := fxl) Tryz.infoFxL rfl _ _ rfl base r.out.v fs rfl (F2.out.pure DJ.out) ⟨g, 0, none⟩ 1 1 rfl [rebF A t.1] JR.out (by simp; omega) (by simp; omega) (by have := C2.out.size; have := DJ.out.size; omega) (fun vk wk hok hgr hlc => ?_)
    obtain ⟨a9, c9, rfl, _, _⟩ := hok.rd.shape
    rw [show (fs ++ [rebF A t.1]).length = fs.length + 1 by simp] at hok hlc
    have hnb : b ∉ r.out.v.ownBlock.toList := fun hm => by have := Hob.out b (by simpa using hm); omega
    have GR := Lib.hid (Lay.chg_grown hgr)
    have C12 : Hid (Chg (b :: r.out.v.ownBlock.toList) W2 wk) := Lib.hid (hHeld.1.same (GR.out.mono (fun i hi _ => List.mem_cons_of_mem _ hi)))
    have Y26 := Lib.hid (GR.out.cell hHeld.2 hnb)
    have BK : Hid (rdrL.Box wk b r) := Lib.hid ((B2.out.frame DJ.out).frameS GR.out hnb)
    have OK := Lib.hid hok
    have LC := Lib.hid hlc
    clear hok hlc
    clear hgr y29
    have y29 := Rdr.c_out BK.out
    have z29 := BK.out.frozen 29
    have BZ := Lib.hid (Rdr.set_out BK.out ⟨a9, fs.length + 1, c9⟩)
    have Z26 := Lib.hid (Rdr.c_at BZ.out)
    refine hK.out _ _ ⟨C12.out, Y26.out⟩ (fun hHeld2 => ?_)
    clear hK hHeld K
    have hHeld := hHeld2
    clear hHeld2
    try (unfold Act.put; simp only [List.setIfInBounds_toArray, List.set_cons_zero, List.set_cons_succ])
    refine take_read (i := 13) (v := ?_) (by simp only [List.getElem?_toArray, List.getElem?_cons_succ, List.getElem?_cons_zero]; rfl) (by kernel_rfl) (by kernel_rfl) (by kernel_rfl) (fun _ _ _ h => h) hHeld ?_ ?_
    rotate_left
    · intro w hSw
      go_simp
      try with_reducible rfl
    try simp only [Act.put, List.setIfInBounds_toArray, List.set_cons_zero, List.set_cons_succ]
    refine take_read (i := 14) (v := ?_) (by simp only [List.getElem?_toArray, List.getElem?_cons_succ, List.getElem?_cons_zero]; rfl) (by kernel_rfl) (by kernel_rfl) (by kernel_rfl) (fun _ _ _ h => h) hHeld ?_ ?_
    rotate_left
    · intro w hSw
      go_simp
      try with_reducible rfl
    try simp only [Act.put, List.setIfInBounds_toArray, List.set_cons_zero, List.set_cons_succ]
    refine wpAnyH_ready (rs := [15]) (by kernel_rfl) (by simp) ?_
    refine AllReadyH.cons rfl (fun K hK => ?_) AllReadyH.nil
    go_simp
    refine hK.out _ _ ⟨C12.out.setCell _ _ (.inl (by simp)), by rw [← HA.out]; exact Z26.out⟩ (fun hHeld2 => ?_)
    clear hK hHeld K
    have hHeld := hHeld2
    clear hHeld2
    try (unfold Act.put; simp only [List.setIfInBounds_toArray, List.set_cons_zero, List.set_cons_succ])
    refine wpAnyH_done (by kernel_rfl) ?_ _
    refine NoPanic.normal ?_
    refine with_exit (Q := Exit.then _ _ _ _) (fun W => rdrL.Box W b { r with out := ⟨a9, fs.length + 1, c9⟩ } ∧ FB W base (.slice a9 (fs.length + 1) c9) (fs ++ [rebF A t.1]) ∧ Chg (b :: r.out.v.ownBlock.toList) W2 W) ⟨BZ.out, OK.out.frame (S := [b]) ((Chg.refl _ _).setCell _ _ (.inl (by simp))) (fun k hk hm => by have := (OK.out.lt k hk).1; simp at hm; omega), hHeld.1⟩ (fun W3 hW => ?_)
    have hwj : w.heap.size ≤ wj.heap.size := by have := C2.out.size; have := DJ.out.size; omega
    obtain ⟨h1, h2, h3⟩ := hW
    have B3 := Lib.hid h1
    have F3 := Lib.hid h2
    have C3 := Lib.hid h3
    clear h1 h2 h3
    clear hHeld BZ Z26 y29 z29
    go_wp2_with fail
    refine (HFU.out { r with out := ⟨a9, fs.length + 1, c9⟩ } _ HA.out B3.out).mono ?_
    rintro e W4 ⟨rfl, hb4, hc4⟩
    have B4 := Lib.hid hb4
    have C4 := Lib.hid hc4
    clear hb4 hc4
    go_wp2
    go_ret
    refine ⟨rfl, ⟨a9, fs.length + 1, c9⟩, B4.out, F3.out.frame C4.out (fun k hk hm => by have := (F3.out.lt k hk).1; simp at hm; omega), (C2.out.add.same C3.out).same (C4.out.mono (fun i hi _ => by simp at hi; subst hi; exact List.mem_cons_self ..)), ?_⟩
    rcases LC.out with h | h
    · exact .inl h
    · exact .inr ⟨_, h, hwj⟩
end Go.Proofs.YtaipelkegemoeaaGreatDoor
/- rebase: many, without a skip. -/
namespace Go.Proofs.YtaipelkegemoeaaGreatDoor
open Go.RowKit
set_option maxRecDepth 100000

/-- So many rebases 8 apart from a place on, of what the file has. -/
def rebW (ls : List Seg) (l : List UInt8) (A n : Nat) : List Fx := (List.range n).map fun j : Nat => rebF ((A + 8 * j : Nat) : Int) (wordS ls l ((A + 8 * j : Nat) : Int)).1
theorem rebW_len (ls : List Seg) (l : List UInt8) (A n : Nat) : (rebW ls l A n).length = n := by simp [rebW]
theorem rebW_snoc (ls : List Seg) (l : List UInt8) (A n : Nat) : rebW ls l A (n + 1) = rebW ls l A n ++ [rebF ((A + 8 * n : Nat) : Int) (wordS ls l ((A + 8 * n : Nat) : Int)).1] := by simp [rebW, List.range_succ]
set_option maxHeartbeats 4000000 in
theorem many_ok (b base : Nat) (r : Rdr) (A n : Nat) (hA : r.at_ = A) (hA2 : A + 8 * n < 18446744073709551616) (ls : List Seg) (hls : SegsB ls) (hwr : ∀ j, j < n → writS ls ((A + 8 * j : Nat) : Int) 8 = true) (l : List UInt8) (hl : l.length ≤ 100000000) (fs : List Fx) (hfs : fs.length + n ≤ 20000) (hn : n ≠ 0) (w : World)
    (hb : rdrL.Box w b r) (hrd : segL.Rd w r.m.segs.v ls) (hsl : byteL.Rd w r.sl.v l) (hfb : FB w base r.out.v fs) (hbb : b < base) (hbw : base ≤ w.heap.size) (hs1 : ∀ k, r.m.segs.v.ownBlock = some k → k < b) (hs2 : ∀ k, r.sl.v.ownBlock = some k → k < b) :
    Calls Tryz.prog 51 #[.pointer (some ⟨b, 0, none⟩), .int .u64 n, .int .u64 0] w fun e w' => e = .returned (.int .i64 0) ∧ OneP b base r (A + 8 * n) (fs ++ rebW ls l A n) w w' := by
  have z0 : ((n : Int) == 0) = false := by simp; omega
  have x6 := Rdr.c_out hb
  have hno : r.out.n = fs.length := by
    obtain ⟨a, c, he, _, _⟩ := hfb.rd.shape
    unfold SlV.v at he
    injection he
  rw [hno] at x6
  have hw1 : IntKind.i64.wrap (20000 - (fs.length : Int)) = 20000 - (fs.length : Int) := by rw [IntKind.wrap_i64]; omega
  have hw2 : IntKind.u64.wrap (20000 - (fs.length : Int)) = 20000 - (fs.length : Int) := by rw [IntKind.wrap_u64]; omega
  have d1 : decide (20000 - (fs.length : Int) < (n : Int)) = false := by simp; omega
  have hw3 : IntKind.i64.wrap (n : Int) = (n : Int) := by rw [IntKind.wrap_i64]; omega
  have hob : ∀ k, r.out.v.ownBlock = some k → base ≤ k := fun k hk => (hfb.lt k hk).1
  have HON := Lib.hid (fun (A' : Nat) (r' : Rdr) fs' w h1 h2 h3 h4 => one_ok b base r' A' h1 h2 ls hls h3 l hl fs' h4 w)
  have HFU := Lib.hid (fun (A' : Nat) (r' : Rdr) w h hA3 hb => further_ok b r' A' 0 h hA3 w hb)
  have hx2 : r.at_ = ((A + 8 * 0 : Nat) : Int) := by rw [hA]; rfl
  have Hb := Lib.hid hb
  have HRD := Lib.hid hrd
  have HSL := Lib.hid hsl
  have HFB := Lib.hid hfb
  have Hls := Lib.hid hls
  have HA2 := Lib.hid hA2
  have Hwr := Lib.hid hwr
  have HA := Lib.hid hA
  have Hl := Lib.hid hl
  have Hob := Lib.hid hob
  have Hno := Lib.hid hno
  have Hx2 := Lib.hid hx2
  have Hs1 := Lib.hid hs1
  have Hs2 := Lib.hid hs2
  clear hb hrd hsl hfb hls hA2 hwr hA hl hob hno hx2 hs1 hs2
  go_enter Tryz.func51, Tryz.ntmps51
  go_wp2_with fail
  go_loopw [24] (fun s24 wr => ∃ (k : Nat) (so : SlV), k ≤ n ∧ s24 = .int .i64 (k : Int) ∧ rdrL.Box wr b { r with at_ := ((A + 8 * k : Nat) : Int), out := so } ∧ FB wr base so.v (fs ++ rebW ls l A k) ∧ Chg (b :: r.out.v.ownBlock.toList) w wr ∧ (so.v.ownBlock = r.out.v.ownBlock ∨ ∃ g, so.v.ownBlock = some g ∧ w.heap.size ≤ g)) (fun s24 _ => n - (intOf s24).toNat)
  case atStart => exact ⟨0, r.out, Nat.zero_le _, rfl, by rw [← Hx2.out]; exact Hb.out, by simpa [rebW] using HFB.out, Chg.refl _ _, .inl rfl⟩
  case round =>
    obtain ⟨k, so, hk, rfl, h1, h2, h3, h4⟩ := hrel
    have B := Lib.hid h1
    have F := Lib.hid h2
    have C := Lib.hid h3
    have OW := Lib.hid h4
    clear h1 h2 h3 h4
    by_cases hlt : k < n
    · have hsa : segL.Rd wr r.m.segs.v ls := HRD.out.frameS C.out (fun i hi hm => by
        have := Hs1.out i hi
        rcases List.mem_cons.1 hm with h | h
        · omega
        · have := Hob.out i (by simpa using h); omega)
      have hsb : byteL.Rd wr r.sl.v l := HSL.out.frameS C.out (fun i hi hm => by
        have := Hs2.out i hi
        rcases List.mem_cons.1 hm with h | h
        · omega
        · have := Hob.out i (by simpa using h); omega)
      have hon := HON.out (A + 8 * k) { r with at_ := ((A + 8 * k : Nat) : Int), out := so } (fs ++ rebW ls l A k) wr rfl (by have := HA2.out; omega) (Hwr.out k hlt) (by rw [List.length_append, rebW_len]; omega) B.out hsa hsb F.out hbb (Nat.le_trans hbw C.out.size)
      rw [List.append_assoc, ← rebW_snoc] at hon
      have Hsa := Lib.hid hsa
      have Hsb := Lib.hid hsb
      have Hon := Lib.hid hon
      clear hsa hsb hon
      go_wp2_with fail
      refine Hon.out.mono ?_
      rintro e w2 ⟨rfl, so2, b2, f2, c2, o2⟩
      have B2 := Lib.hid b2
      have F2 := Lib.hid f2
      have C2 := Lib.hid c2
      have O2 := Lib.hid o2
      clear b2 f2 c2 o2
      go_wp2_with fail
      refine (HFU.out (A + 8 * k + 8) { r with at_ := ((A + 8 * k + 8 : Nat) : Int), out := so2 } _ rfl (by have := HA2.out; omega) B2.out).mono ?_
      rintro e w3 ⟨rfl, b3, c3⟩
      have B3 := Lib.hid b3
      have C3 := Lib.hid c3
      clear b3 c3
      go_wp2
      go_roundw
      case rel =>
        refine ⟨k + 1, so2, hlt, by go_num, B3.out, F2.out.frame C3.out (fun i hi hm => by have := (F2.out.lt i hi).1; simp at hm; omega), ?_, ?_⟩
        · refine C.out.trans ((C2.out.trans (S := b :: so.v.ownBlock.toList) C3.out (fun i hi _ => by simp at hi; subst hi; exact List.mem_cons_self ..))) (fun i hi hw => ?_)
          rcases List.mem_cons.1 hi with h | h
          · subst h; exact List.mem_cons_self ..
          · rcases OW.out with e | ⟨g, e, hg⟩
            · rw [e] at h; exact List.mem_cons_of_mem _ h
            · rw [e] at h; simp at h; omega
        · rcases O2.out with e | ⟨g, e, hg⟩
          · rw [e]; exact OW.out
          · exact .inr ⟨g, e, Nat.le_trans C.out.size hg⟩
      case measure => simp [intOf]; omega
    · obtain rfl : n = k := by omega
      go_wp2
      go_ret
      exact ⟨rfl, so, B.out, F.out, C.out, OW.out⟩
end Go.Proofs.YtaipelkegemoeaaGreatDoor
/- rebase: many of none, and too many. -/
namespace Go.Proofs.YtaipelkegemoeaaGreatDoor
open Go.RowKit
set_option maxRecDepth 100000

theorem many_none (b : Nat) (skip : Int) (w : World) : Calls Tryz.prog 51 #[.pointer (some ⟨b, 0, none⟩), .int .u64 0, .int .u64 skip] w fun e w' => e = .returned (.int .i64 0) ∧ Chg [] w w' := by
  go_enter Tryz.func51, Tryz.ntmps51
  go_wp2
  go_ret
  exact ⟨rfl, Chg.refl _ _⟩
end Go.Proofs.YtaipelkegemoeaaGreatDoor
