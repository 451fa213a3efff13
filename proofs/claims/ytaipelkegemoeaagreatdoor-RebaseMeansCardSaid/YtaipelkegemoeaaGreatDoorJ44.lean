/- Lemmas, laid together: part 44 of 46. Conditions: none but each lemma's own. -/
import Derived.Test.YtaipelkegemoeaaGreatDoorJ38
import Derived.Test.YtaipelkegemoeaaGreatDoorJ6
import Derived.Test.YtaipelkegemoeaaGreatDoorJ23
import Derived.Test.YtaipelkegemoeaaGreatDoorJ42
import Derived.Test.YtaipelkegemoeaaGreatDoorJ43
import Derived.Test.YtaipelkegemoeaaGreatDoorJ30
/- clevislaw13.known. -/
namespace Go.Proofs.YtaipelkegemoeaaGreatDoor
open Go.RowKit
set_option maxRecDepth 100000

/-- makeSlice of so many bytes. -/
theorem makeB (n : Nat) (hn : n ≤ 1048576) : ∃ o, ∀ w : World, (Instr.makeSlice 22 (.int .i64 (n : Int)) (.int .i64 (n : Int))).run Tryz.prog w = .ok (.slice (some ⟨w.heap.size, 0, none⟩) n n) (w.alloc o) ∧ BB (w.alloc o) w.heap.size (.slice (some ⟨w.heap.size, 0, none⟩) n n) (List.replicate n 0) := by
  obtain ⟨i, z, hi, hz, hz1, hz2, hz3⟩ := Tryz.infoByte.i
  have hz' : i.zero = some (.int .u8 0) := by
    have e : (Tryz.prog.info? 5).map (fun i => i.zero) = some (some (.int .u8 0)) := by kernel_rfl
    rw [hi] at e
    simpa using e
  have hb : (i.bytes : Int) * (n : Int) ≤ 281474976710656 := by rw [hz2]; omega
  have hr := fun w => run_make (P := Tryz.prog) w 22 5 i _ Tryz.infoByte.u hi hz' .i64 .i64 n n (by omega) (by omega) hb (by omega)
  simp only [Int.toNat_natCast] at hr
  refine ⟨_, fun w => ⟨hr w, Lay.Buf.of_heap (heap_alloc_eq w _) ?_ (by simp) (by simp; unfold maxLen; omega) (Nat.le_refl _)⟩⟩
  rw [hz1]
  show (madeCells #[Value.int .u8 0] (n * 1)).toList = _
  apply List.ext_getElem?
  intro j
  by_cases hj : j < n
  · have hv := Lay.vals_get (L := byteL) (List.replicate n 0) j 0 (by rw [List.length_replicate]; exact hj) (by decide)
    rw [show byteL.n = 1 from rfl, Nat.mul_one, Nat.add_zero] at hv
    have hg : (List.replicate n (0 : UInt8)).getD j byteL.d = 0 := by simp [List.getD_eq_getElem?_getD, hj]
    rw [hv, hg]
    simp [madeCells, hj, Nat.mod_one]
    rfl
  · rw [List.getElem?_eq_none (by simp [madeCells]; omega), List.getElem?_eq_none (by rw [Lay.vals_len, List.length_replicate]; show n * 1 ≤ j; omega)]
theorem rep_get (n j : Nat) (hj : j < n) : (List.replicate n (0 : UInt8)).getD j byteL.d = 0 := by simp [List.getD_eq_getElem?_getD, hj]
theorem slice13_len : slice13.length = 4112 := by unfold slice13; rw [List.length_append, List.length_replicate]; rfl
theorem slv_eq {so : SlV} {a : Option Addr} {n c : Nat} (h : so.v = .slice a n c) : so = ⟨a, n, c⟩ := by
  obtain ⟨a', n', c'⟩ := so
  unfold SlV.v at h
  injection h with h1 h2 h3
  dsimp only at h1 h2 h3
  rw [h1, h2, h3]
theorem slice13_set : ((List.replicate 4112 (0 : UInt8)).set 4096 7).set 4104 9 = slice13 := by
  rw [show (4112 : Nat) = 4096 + 16 from rfl, ← List.replicate_append_replicate, List.set_append_right _ _ (by simp), List.set_append_right _ _ (by simp), List.length_replicate]
  rfl
def rb0 (slv : SlV) (m : Img) : Rdr := { Rdr.zero with sl := slv, m := m }
set_option maxHeartbeats 4000000 in
theorem known13 (w : World) (hw : Env w) : Calls Tryz.prog 5 #[] w fun e w' => e = .returned (.bool true) ∧ Chg [] w w' := by
  obtain ⟨o, hmk⟩ := makeB 4112 (by decide)
  have rM : ∀ w : World, (Instr.makeSlice 22 (.int .i64 4112) (.int .i64 4112)).run Tryz.prog w = .ok (.slice (some ⟨w.heap.size, 0, none⟩) 4112 4112) (w.alloc o) := fun w => (hmk w).1
  have BM := Lib.hid ((hmk w).2)
  have Hw := Lib.hid hw
  have Hmk := Lib.hid hmk
  clear hw hmk
  go_enter Tryz.func5, Tryz.ntmps5
  go_upto_region 2 with fail
  refine Lay.with_world (fun W => BB W w.heap.size (.slice (some ⟨w.heap.size, 0, none⟩) 4112 4112) (List.replicate 4112 0) ∧ Chg [] w W) ⟨BM.out, (Chg.refl _ _).alloc _⟩ (fun W1 hW => ?_)
  obtain ⟨b1, c1⟩ := hW
  have B1 := Lib.hid b1
  have C1 := Lib.hid c1
  clear b1 c1
  generalize hg : w.heap.size = g
  rw [hg] at B1
  obtain ⟨g', cap', he, _, _, _, _, _, hfz, hIn⟩ := B1.out.at (by rw [List.length_replicate]; decide)
  cases he
  have hz : ∀ j, j < 4112 → W1.cell? ⟨g, j, none⟩ = some (.int .u8 0) := fun j hj => by
    have := hIn j (by rw [List.length_replicate]; exact hj) 0 (by decide)
    rw [show byteL.n = 1 from rfl, Nat.mul_one, Nat.add_zero] at this
    rw [this, rep_get 4112 j hj]
    rfl
  have y1 := hz 4096 (by decide)
  have y2 := hz 4104 (by decide)
  have z1 := hfz 4096
  have z2 := hfz 4104
  clear hz hfz hIn
  go_upto_region 3 with fail
  refine Lay.with_world (fun W => BB W g (.slice (some ⟨g, 0, none⟩) 4112 4112) slice13 ∧ Chg [] w W) ⟨?_, ?_⟩ (fun W2 hW => ?_)
  · have h1 := B1.out.set rfl 4096 (by rw [List.length_replicate]; decide) 0 (by decide) (.int .u8 7) 7 rfl
    have h2 := h1.set rfl 4104 (by rw [List.length_set, List.length_replicate]; decide) 0 (by decide) (.int .u8 9) 9 rfl
    rw [slice13_set] at h2
    exact h2
  · exact (C1.out.setCell _ _ (.inr (by show w.heap.size ≤ g; omega))).setCell _ _ (.inr (by show w.heap.size ≤ g; omega))
  obtain ⟨b2, c2⟩ := hW
  have B2 := Lib.hid b2
  have C2 := Lib.hid c2
  clear b2 c2
  clear y1 y2 z1 z2 B1 C1
  have hg2 : g < W2.heap.size := (B2.out.lt g rfl).2
  go_wp2_with fail
  refine (two13_any W2).mono ?_
  rintro e W3 ⟨sb, rfl, hs, hc, hsb⟩
  have C3 := Lib.hid (C2.out.then hc)
  have B3 := Lib.hid (B2.out.pure hc)
  have S3 := Lib.hid hs
  clear hs
  clear hc
  have D3 : Hid (DIn (W3.alloc (.cells #[.int .u8 17, .int .u8 33, .int .u8 0, .int .u8 82, .int .u8 0] 5)) (rb0 ⟨some ⟨g, 0, none⟩, 4112, 4112⟩ (twoImg ⟨some ⟨sb, 0, none⟩, 2, 2⟩)) twoSegs slice13) := by
    refine Lib.hid ?_
    refine ⟨twoSegsB, S3.out.frame ((Chg.refl _ _).alloc _), by rw [slice13_len]; decide, B3.out.rd.frame ((Chg.refl _ _).alloc _), fun k hk => ?_, fun k hk => ?_⟩
    · cases hk
      exact Nat.lt_of_lt_of_le hsb ((Chg.refl [] W3).alloc _).size
    · cases hk
      exact Nat.lt_of_lt_of_le (B3.out.lt g rfl).2 ((Chg.refl [] W3).alloc _).size
  go_wp2_with fail
  refine (Decode_k1 _ (Hw.out.frame (C3.out.alloc _) (by simp)) ⟨some ⟨g, 0, none⟩, 4112, 4112⟩ (twoImg ⟨some ⟨sb, 0, none⟩, 2, 2⟩) D3.out _ (Rd_of_byte (Lay.Rd.of_heap (ls := kB) (heap_alloc_eq _ _) rfl rfl (by decide)))).mono ?_
  rintro e W4 ⟨so, rfl, hc, hb⟩
  have C4 : Hid (Chg [] w W4) := Lib.hid ((C3.out.alloc _).then hc)
  have B4 : Hid (BB W4 g (.slice (some ⟨g, 0, none⟩) 4112 4112) slice13) := Lib.hid (B3.out.pure (((Chg.refl [] W3).alloc _).then hc))
  obtain ⟨g2, cap2, he, _, _, _, _, _, _, _⟩ := hb.at (by decide)
  obtain rfl := slv_eq he
  rw [show known13l.length = 2 from rfl] at hb ⊢
  have R4 : Hid (fxl.Rd W4 (.slice (some ⟨g2, 0, none⟩) 2 cap2) known13l) := Lib.hid (hb.rd)
  clear hb he hc D3 S3 B3 C3 hsb
  unfold SlV.v
  go_wp2_with fail
  refine (two13_any W4).mono ?_
  rintro e W5 ⟨sb5, rfl, _, hc, _⟩
  have C5 := Lib.hid (C4.out.then hc)
  have R5 := Lib.hid (R4.out.frame hc)
  clear hc R4
  go_wp2_with fail
  refine (Decode_k2 _ (Hw.out.frame (C5.out.alloc _) (by simp)) ⟨some ⟨g, 0, none⟩, 4112, 4112⟩ (twoImg ⟨some ⟨sb5, 0, none⟩, 2, 2⟩) _ (Rd_of_byte (Lay.Rd.of_heap (ls := [81]) (heap_alloc_eq _ _) rfl rfl (by decide)))).mono ?_
  rintro e W6 ⟨rfl, hc⟩
  have C6 := Lib.hid ((C5.out.alloc _).then hc)
  have R6 := Lib.hid (R5.out.frame (((Chg.refl [] W5).alloc _).then hc))
  clear hc R5
  go_wp2_with fail
  refine (two13_any W6).mono ?_
  rintro e W7 ⟨sb7, rfl, hs, hc, _⟩
  have C7 := Lib.hid (C6.out.then hc)
  have R7 := Lib.hid (R6.out.frame hc)
  have S7 := Lib.hid hs
  clear hs
  clear hc R6
  go_wp2_with fail
  refine (Make_known (twoImg ⟨some ⟨sb7, 0, none⟩, 2, 2⟩) sb7 rfl (.slice (some ⟨g2, 0, none⟩) 2 cap2) W7 S7.out (fx_ofL R7.out)).mono ?_
  rintro e W8 ⟨s8, rfl, hb, hc⟩
  have C8 := Lib.hid (C7.out.then hc)
  have hcl := (R7.out.frame hc).cells.2
  have f0 : W8.cell? ⟨g2, 0, none⟩ = some (.int .u64 4096) := hcl 0 _ rfl
  have f2 : W8.cell? ⟨g2, 2, none⟩ = some (.int .u64 7) := hcl 2 _ rfl
  have f7 : W8.cell? ⟨g2, 7, none⟩ = some (.int .u64 4104) := hcl 7 _ rfl
  have f9 : W8.cell? ⟨g2, 9, none⟩ = some (.int .u64 9) := hcl 9 _ rfl
  obtain ⟨a8, c8, he, _⟩ := hb.rd.shape
  obtain rfl := slv_eq he
  have hs1 := run_strB hb.rd
  rw [show kB.length = 5 from rfl] at hs1 ⊢
  rw [show (⟨kB.toArray⟩ : ByteArray) = ⟨#[17, 33, 0, 82, 0]⟩ from rfl] at hs1
  clear hb hc hcl R7 S7 he
  unfold SlV.v
  go_wp2
  go_ret
  exact ⟨rfl, C8.out⟩
end Go.Proofs.YtaipelkegemoeaaGreatDoor
/- Plain: what RebaseMeans wants of an image that may be, and of a stream that was made. -/
namespace Go.Proofs.YtaipelkegemoeaaGreatDoor
open Go.RowKit
set_option maxRecDepth 100000

theorem mkB_len (ls : List Seg) : ∀ (f : Nat) (seg : Int) (a : Nat) (l : List Fx), (mkB ls f seg a l).length ≤ 22 * f
  | 0, _, _, _ => Nat.le_refl _
  | f + 1, _, _, [] => Nat.zero_le _
  | f + 1, seg, a, x :: r => by
    have h1 := headB_len ls x seg a
    have h2 := lenB_len (runN ls (x :: r))
    have h3 := mkB_len ls f (idxI (atS ls x.at_)) (x.at_.toNat + 8 * runN ls (x :: r)) ((x :: r).drop (runN ls (x :: r)))
    rw [mkB_step, List.length_append, List.length_append]
    omega
theorem mkAll_len (ls : List Seg) (l : List Fx) : (mkAll ls l).length ≤ 22 * l.length + 2 := by
  have := mkB_len ls l.length (-1) 0 l
  unfold mkAll
  rw [List.length_cons, List.length_append]
  simp only [List.length_cons, List.length_nil]
  omega
theorem word_of_wr {ls : List Seg} {sl : List UInt8} {A : Int} (h : writS ls A 8 = true) : (wordS ls sl A).2 = 0 := by
  obtain ⟨k, hk, _, _, h1, h2⟩ := wr_facts h
  unfold wordS
  rw [hk]
  show (if (ls.getD k .zero).size - (A - (ls.getD k .zero).addr) < 8 then ((0 : Int), (4 : Int)) else _).2 = 0
  rw [if_neg (by omega)]
/-- The segments of an image of bytes. -/
theorem segR_of {w : World} {base : Nat} {m : Img} {l : List UInt8} (h0 : ofE l = 0) (hd : DImg w base m (imgP l)) :
    ∃ xs, segL.Rd w m.segs.v xs ∧ SegR xs ∧ (∀ k, m.segs.v.ownBlock = some k → k < w.heap.size) := by
  obtain ⟨hi, hm⟩ := ofE_both h0
  have h16 := img_segs hi
  have hpl := may_place hm
  have hrd := hd.rd
  obtain ⟨xs, _, hb, hk, _⟩ := hd
  obtain ⟨hkl, hks⟩ := hk
  have hks2 : ∀ i, i < xs.length → SegRd w (xs.getD i .zero) ((imgP l).segs.getD i .zero) := fun i hi => ⟨(hks i hi).1, (hks i hi).2.rd⟩
  have hbare := segs_bare hkl hks2
  refine ⟨xs, hb.rd, ⟨segsB_of (PB.img l).im hkl hks2, fun k hk => ?_, by omega⟩, fun k hk => (hb.lt k hk).2⟩
  have hmem : (xs.getD k .zero).bare ∈ (imgP l).segs.map SegP.s := by
    rw [← hbare]
    refine List.mem_map.2 ⟨xs.getD k .zero, ?_, rfl⟩
    rw [List.getD_eq_getElem?_getD, List.getElem?_eq_getElem hk]
    exact List.getElem_mem hk
  have hp := hpl _ hmem
  unfold placeB withinI at hp
  simp only [Bool.and_eq_true, decide_eq_true_eq] at hp
  have e1 : (xs.getD k .zero).bare.addr = (xs.getD k .zero).addr := rfl
  have e2 : (xs.getD k .zero).bare.size = (xs.getD k .zero).size := rfl
  rw [e1, e2] at hp
  omega
theorem of_ne {l : List UInt8} (h : ofE l = 0) : l.length ≠ 0 := by
  intro h0
  obtain rfl := List.length_eq_zero_iff.1 h0
  have := imgE_read (ofE_both h).1
  exact absurd this (by decide)
end Go.Proofs.YtaipelkegemoeaaGreatDoor
