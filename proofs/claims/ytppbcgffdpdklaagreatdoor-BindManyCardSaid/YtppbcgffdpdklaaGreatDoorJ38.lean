/- Lemmas, laid together: part 38 of 39. Conditions: none but each lemma's own. -/
import Derived.Test.YtppbcgffdpdklaaGreatDoorJ37
import Derived.Test.YtppbcgffdpdklaaGreatDoorJ25
/- clevislaw14.known. -/
namespace Go.Proofs.YtppbcgffdpdklaaGreatDoor
open Go.RowKit
set_option maxRecDepth 100000

def img14 (sg dp : SlV) : Img := { Img.zero with kind := 2, segs := sg, deps := dp }
theorem two_rd {W1 W2 : World} {oD : Obj} {cs : Array Value} {E : TypeId} {S : List Nat} (ls : List Seg) (hcs : cs.toList = segL.vals ls) (hl : ls.length ≤ maxLen) (k : Chg S ((W1.alloc oD).alloc (.cells cs E)) W2) (hS : W1.heap.size + 1 ∉ S) : segL.Rd W2 (.slice (some ⟨W1.heap.size + 1, 0, none⟩) ls.length ls.length) ls := by
  have h := Lay.Rd.of_heap (L := segL) (heap_alloc_eq (W1.alloc oD) (.cells cs E)) hcs rfl hl
  rw [show (W1.alloc oD).heap.size = W1.heap.size + 1 by simp] at h
  exact h.frameS k (fun b hb hm => by cases hb; exact hS hm)
set_option maxHeartbeats 2000000 in
theorem two14_any (w : World) : Calls Tryz.prog 6 #[] w fun e w' => ∃ sb db, e = .returned (imgL.val (img14 ⟨some ⟨sb, 0, none⟩, 2, 2⟩ ⟨some ⟨db, 0, none⟩, 1, 1⟩)) ∧ segL.Rd w' (.slice (some ⟨sb, 0, none⟩) 2 2) tw4 ∧ Chg [] w w' ∧ sb < w'.heap.size := by
  go_enter Tryz.func6, Tryz.ntmps6
  go_wp2_with ((with_reducible refine Lay.alL Tryz.tImg ?_); intro W1 br ebr cbr xbr; replace ebr := Lib.hid ebr; replace cbr := Lib.hid cbr; replace xbr := Lib.hid xbr; refine Hid.out ?_)
  refine Lib.hid ?_
  go_wp2_with ((with_reducible refine Lay.stL Tryz.tImg (img14 ⟨some ⟨W1.heap.size + 1, 0, none⟩, 2, 2⟩ ⟨some ⟨W1.heap.size, 0, none⟩, 1, 1⟩) (((xbr.out.alloc _).alloc _)) ?_ ?_ ?_); exact rfl; exact rfl; intro W2 cW2 xW2; replace cW2 := Lib.hid cW2; replace xW2 := Lib.hid xW2; refine Hid.out ?_)
  refine Lib.hid ?_
  have hlt := xbr.out.lt
  have HR := Lib.hid (two_rd tw4 rfl (by decide) cW2.out (by simp; omega))
  go_wp2
  refine Lay.ret1 Tryz.tImg Tryz.results6 xW2.out rfl rfl ?_
  have hsb := HR.out.cells.2 0 _ rfl
  exact ⟨_, _, rfl, HR.out, ((cbr.out.alloc _).alloc _).new cW2.out (by rw [ebr.out]; exact Nat.le_refl _), World.block_lt_of_cell? _ _ hsb⟩
theorem slv_eqB {so : SlV} {a : Option Addr} {n c : Nat} (h : so.v = .slice a n c) : so = ⟨a, n, c⟩ := by
  obtain ⟨a', n', c'⟩ := so
  unfold SlV.v at h
  injection h with h1 h2 h3
  dsimp only at h1 h2 h3
  rw [h1, h2, h3]
set_option maxHeartbeats 4000000 in
theorem known14 (w : World) (hw : Env w) : Calls Tryz.prog 4 #[] w fun e w' => e = .returned (.bool true) ∧ Chg [] w w' := by
  have he : ∀ W : World, (binOp .eql 43 (.agg #[.int .u64 4096, .int .i64 2, .int .u64 0, .int .i64 1, .string ⟨#[95, 97]⟩, .int .i64 0, .bool false]) (.agg #[.int .u64 4096, .int .i64 2, .int .u64 0, .int .i64 1, .string ⟨#[95, 97]⟩, .int .i64 0, .bool false])).run Tryz.prog W = .ok (.bool true) W := by
    intro W
    kernel_rfl
  have he2 : ∀ W : World, (binOp .eql 43 (.agg (fxl.f fD3).toArray) (.agg #[.int .u64 4096, .int .i64 2, .int .u64 0, .int .i64 1, .string ⟨#[95, 97]⟩, .int .i64 0, .bool false])).run Tryz.prog W = .ok (.bool true) W := he
  have Hw := Lib.hid hw
  clear hw
  go_enter Tryz.func4, Tryz.ntmps4
  go_wp2_with fail
  refine (two14_any w).mono ?_
  rintro e W3 ⟨sb, db, rfl, hs, hc, hsb⟩
  have C3 := Lib.hid (hc)
  have S3 := Lib.hid hs
  clear hs
  clear hc
  have D3 : Hid (BIn (W3.alloc (.cells #[.int .u8 17, .int .u8 64, .int .u8 95, .int .u8 97, .int .u8 0, .int .u8 113, .int .u8 0, .int .u8 144, .int .u8 0] 5)) (img14 ⟨some ⟨sb, 0, none⟩, 2, 2⟩ ⟨some ⟨db, 0, none⟩, 1, 1⟩) tw4) := by
    refine Lib.hid ?_
    refine ⟨tw4B, S3.out.frame ((Chg.refl _ _).alloc _), fun k hk => ?_⟩
    cases hk
    exact Nat.lt_of_lt_of_le hsb ((Chg.refl [] W3).alloc _).size
  go_wp2_with fail
  refine (Decode_b1 _ (Hw.out.frame (C3.out.alloc _) (by simp)) (img14 ⟨some ⟨sb, 0, none⟩, 2, 2⟩ ⟨some ⟨db, 0, none⟩, 1, 1⟩) D3.out rfl _ (Rd_of_byte (Lay.Rd.of_heap (ls := dB) (heap_alloc_eq _ _) rfl rfl (by decide)))).mono ?_
  rintro e W4 ⟨so, rfl, hc, hb⟩
  have C4 : Hid (Chg [] w W4) := Lib.hid ((C3.out.alloc _).then hc)
  obtain ⟨g2, cap2, he0, _, _, _, _, _, _, _⟩ := hb.at (by decide)
  obtain rfl := slv_eqB he0
  rw [show d14l.length = 1 from rfl] at hb ⊢
  have R4 : Hid (fxl.Rd W4 (.slice (some ⟨g2, 0, none⟩) 1 cap2) d14l) := Lib.hid (hb.rd)
  clear hb he0 hc D3 S3 C3 hsb
  unfold SlV.v
  go_wp2_with fail
  refine (two14_any W4).mono ?_
  rintro e W5 ⟨sb5, db5, rfl, hs, hc, hsb⟩
  have C5 := Lib.hid (C4.out.then hc)
  have R5 := Lib.hid (R4.out.frame hc)
  have S5 := Lib.hid hs
  clear hs
  clear hc R4
  have D5 : Hid (BIn (W5.alloc (.cells #[.int .u8 113, .int .u8 0, .int .u8 144] 5)) (img14 ⟨some ⟨sb5, 0, none⟩, 2, 2⟩ ⟨some ⟨db5, 0, none⟩, 1, 1⟩) tw4) := by
    refine Lib.hid ?_
    refine ⟨tw4B, S5.out.frame ((Chg.refl _ _).alloc _), fun k hk => ?_⟩
    cases hk
    exact Nat.lt_of_lt_of_le hsb ((Chg.refl [] W5).alloc _).size
  go_wp2_with fail
  refine (Decode_b2 _ (Hw.out.frame (C5.out.alloc _) (by simp)) (img14 ⟨some ⟨sb5, 0, none⟩, 2, 2⟩ ⟨some ⟨db5, 0, none⟩, 1, 1⟩) D5.out _ (Rd_of_byte (Lay.Rd.of_heap (ls := [113, 0, 144]) (heap_alloc_eq _ _) rfl rfl (by decide)))).mono ?_
  rintro e W6 ⟨rfl, hc⟩
  have C6 := Lib.hid ((C5.out.alloc _).then hc)
  have R6 := Lib.hid (R5.out.frame (((Chg.refl [] W5).alloc _).then hc))
  clear hc R5 D5 S5 hsb
  go_wp2_with fail
  refine (two14_any W6).mono ?_
  rintro e W7 ⟨sb7, db7, rfl, hs, hc, _⟩
  have C7 := Lib.hid (C6.out.then hc)
  have R7 := Lib.hid (R6.out.frame hc)
  have S7 := Lib.hid hs
  clear hs
  clear hc R6
  go_wp2_with fail
  refine (Make_d (img14 ⟨some ⟨sb7, 0, none⟩, 2, 2⟩ ⟨some ⟨db7, 0, none⟩, 1, 1⟩) sb7 rfl rfl (.slice (some ⟨g2, 0, none⟩) 1 cap2) W7 S7.out (fx_ofL R7.out)).mono ?_
  rintro e W8 ⟨s8, rfl, hb, hc⟩
  have C8 := Lib.hid (C7.out.then hc)
  have hI : fxl.In W8 g2 0 fD3 := by
    obtain ⟨b, off, e, _, h⟩ := (R7.out.frame hc).at (by decide)
    cases e
    have := h 0 (by decide)
    rwa [Nat.zero_mul, Nat.zero_add] at this
  obtain ⟨a8, c8, he0, _⟩ := hb.rd.shape
  obtain rfl := slv_eqB he0
  have hs1 := run_strB hb.rd
  rw [show dB.length = 9 from rfl] at hs1 ⊢
  rw [show (⟨dB.toArray⟩ : ByteArray) = ⟨#[17, 64, 95, 97, 0, 113, 0, 144, 0]⟩ from rfl] at hs1
  have HI := Lib.hid hI
  clear hI
  clear hb hc R7 S7 he0
  unfold SlV.v
  go_wp2_with ((with_reducible refine Lay.ldG2 Tryz.tFx fD3 (HI.out) ?_ ?_ ?_); exact rfl; exact rfl; refine Hid.out ?_)
  refine Lib.hid ?_
  go_wp2
  go_ret
  exact ⟨rfl, C8.out⟩
end Go.Proofs.YtppbcgffdpdklaaGreatDoor
