/- slices.DeleteFunc, where of two fixups the first goes. -/
import Derived.Test.YtgmlcmmphhmogaaDm4
namespace Go.Proofs.Ytgmlcmmphhmogaa
open Go.RowKit
set_option maxRecDepth 100000

set_option maxHeartbeats 2000000 in
theorem delete_2 (x y : Fx) (base : Nat) (g cap : Nat) (w : World) (hb : FB w base (.slice (some ⟨g, 0, none⟩) 2 cap) [x, y]) (p b : Nat) (z : Int) (hx : x.at_ = z) (hy : y.at_ = z) (hp : w.cell? ⟨p, 0, none⟩ = some (.map (some b))) (hm : MP w b z true) (hpg : p ≠ g) (hbg : b ≠ g) (dx : delP true x = true) (dy : delP true y = false) :
    Calls Try.prog 10 #[.slice (some ⟨g, 0, none⟩) 2 cap, .func (.func 11) #[] #[.pointer (some ⟨p, 0, none⟩)]] w fun e w' => (∃ v', e = .returned v' ∧ FB w' base v' [y]) ∧ Chg [g] w w' := by
  have hz : true = true → ∀ q ∈ [x, y], q.at_ = z := by
    intro _ q hq
    simp only [List.mem_cons, List.not_mem_nil, or_false] at hq
    rcases hq with rfl | rfl
    · exact hx
    · exact hy
  have HIX : Hid (Calls Try.prog 16 #[.slice (some ⟨g, 0, none⟩) 2 cap, .func (.func 11) #[] #[.pointer (some ⟨p, 0, none⟩)]] w fun e w' => e = .returned (.int .i64 0) ∧ Chg [] w w') := by
    refine Lib.hid ?_
    have := index_any [x, y] _ w hb.rd true p b z hz hp hm
    have e : idxF (delP true) [x, y] = 0 := by unfold idxF; rw [if_pos dx]
    rw [e] at this
    exact this
  have HCL : Hid (∀ W, Chg [g] w W → Calls Try.prog 11 #[fxl.val y, .pointer (some ⟨p, 0, none⟩)] W fun e w' => e = .returned (.bool false) ∧ Chg [] W w') := by
    refine Lib.hid ?_
    intro W hW
    have := clos_any y p b z true (fun _ => hy) W (hW.cell hp (by simpa using hpg)) (by obtain ⟨c, q, h⟩ := hm; exact ⟨c, q, hW.heap h (by simpa using hbg)⟩)
    rw [show (true && !weakB y) = false from dy] at this
    exact this
  have Hb := Lib.hid hb
  have Hx := Lib.hid hx
  have Hy := Lib.hid hy
  have Hp := Lib.hid hp
  have Hm := Lib.hid hm
  have Hz := Lib.hid hz
  have Dx := Lib.hid dx
  have Dy := Lib.hid dy
  clear hb hx hy hp hm hz dx dy
  go_enter Try.func10, Try.ntmps10
  go_wp2_with fail
  refine HIX.out.mono ?_
  rintro e w1 ⟨rfl, hc⟩
  have B1 := Lib.hid (Hb.out.pure hc)
  have C1 : Hid (Chg [g] w w1) := Lib.hid (hc.add)
  clear hc
  have hg0 : base ≤ g := (B1.out.lt g rfl).1
  go_wp2_with fail
  go_loopw [5, 6] (fun s5 s6 wr => (s5 = .int .i64 0 ∧ s6 = .int .i64 1 ∧ FB wr base (.slice (some ⟨g, 0, none⟩) 2 cap) [x, y] ∧ Chg [g] w wr) ∨ (s5 = .int .i64 1 ∧ s6 = .int .i64 2 ∧ FB wr base (.slice (some ⟨g, 0, none⟩) 2 cap) [y, y] ∧ Chg [g] w wr)) (fun _ s6 _ => 2 - (intOf s6).toNat)
  case atStart => exact .inl ⟨rfl, rfl, B1.out, C1.out⟩
  case round =>
    rcases hrel with ⟨rfl, rfl, hb, hch⟩ | ⟨rfl, rfl, hb, hch⟩
    · obtain ⟨g', c', he, _, _, _, _, _, hfz, hcell⟩ := hb.at (by simp)
      cases he
      have hI1 : fxl.In wr g 7 y := by
        have := hcell 1 (by simp)
        rwa [Nat.one_mul] at this
      have hI0 : fxl.In wr g 0 x := by
        have := hcell 0 (by simp)
        rwa [Nat.zero_mul] at this
      clear hcell
      have I1 := Lib.hid hI1
      have I0 := Lib.hid hI0
      have FZ := Lib.hid hfz
      have B := Lib.hid hb
      have C := Lib.hid hch
      clear hI1 hI0 hfz hb hch
      go_wp2_with ((with_reducible refine Lay.ldL Try.tFx y (I1.out) ?_ ?_); exact rfl; refine Hid.out ?_)
      refine Lib.hid ?_
      go_wp2_with ((with_reducible refine Lay.alL Try.tFx ?_); intro w2 bx ebx cbx xbx; replace ebx := Lib.hid ebx; replace cbx := Lib.hid cbx; replace xbx := Lib.hid xbx; refine Hid.out ?_)
      refine Lib.hid ?_
      go_wp2_with ((with_reducible refine Lay.stL Try.tFx y (xbx.out) ?_ ?_ ?_); exact rfl; exact rfl; intro w3 cw3 xw3; replace cw3 := Lib.hid cw3; replace xw3 := Lib.hid xw3; refine Hid.out ?_)
      refine Lib.hid ?_
      have D3 : Hid (Chg [] wr w3) := Lib.hid (cbx.out.new cw3.out (by rw [ebx.out]; exact Nat.le_refl _))
      have B3 := Lib.hid (B.out.pure D3.out)
      have C3 := Lib.hid (C.out.then D3.out)
      have X3 := Lib.hid (xw3.out)
      have hgx : g < bx := by rw [ebx.out]; exact (B.out.lt g rfl).2
      clear cbx xbx cw3 xw3
      go_wp2_with ((with_reducible refine Lay.ldL Try.tFx y (X3.out.in) ?_ ?_); exact rfl; refine Hid.out ?_)
      refine Lib.hid ?_
      go_wp2_with fail
      refine (HCL.out _ C3.out).mono ?_
      rintro e w4 ⟨rfl, hc⟩
      have D4 := Lib.hid (D3.out.then hc)
      have B4 := Lib.hid (B3.out.pure hc)
      have C4 := Lib.hid (C3.out.then hc)
      have X4 := Lib.hid (X3.out.frame hc)
      have I4 : Hid (fxl.In w4 g 0 x) := Lib.hid (I0.out.frame D4.out)
      have hf4 : ∀ j, w4.frozen? ⟨g, j, none⟩ = false := by
        obtain ⟨g', c', he, _, _, _, _, _, hfz, _⟩ := B4.out.at (by simp)
        cases he
        exact hfz
      have Hf4 := Lib.hid hf4
      clear hf4
      clear hc
      go_wp2_with ((with_reducible refine Lay.ldL Try.tFx y (X4.out.in) ?_ ?_); exact rfl; refine Hid.out ?_)
      refine Lib.hid ?_
      go_wp2_with ((with_reducible refine stIn Try.tFx y (I4.out) Hf4.out ?_ ?_ ?_); exact rfl; exact rfl; intro w5 ew5; replace ew5 := Lib.hid ew5; refine Hid.out ?_)
      refine Lib.hid ?_
      have B5 : Hid (FB w5 base (.slice (some ⟨g, 0, none⟩) 2 cap) [y, y]) := by
        refine Lib.hid ?_
        rw [ew5.out]
        have := B4.out.put rfl 0 (by simp) y
        rwa [Nat.zero_mul] at this
      have C5 : Hid (Chg [g] w w5) := by
        refine Lib.hid ?_
        rw [ew5.out]
        exact C4.out.same (Lay.setW_chg g _ _ 0)
      go_wp2
      go_roundw
      case rel => exact .inr ⟨rfl, rfl, B5.out, C5.out⟩
      case measure => simp [intOf]
    · obtain ⟨_, hx⟩ := id hb
      rcases hx with ⟨hx, _⟩ | ⟨g', cap', cur, hv', hbg', hg', hnc', hcm', hcs', htake'⟩
      · cases hx
      replace hv' : Value.slice (some ⟨g, 0, none⟩) 2 cap = .slice (some ⟨g', 0, none⟩) 2 cap' := hv'
      cases hv'
      replace hnc' : 2 ≤ cap := hnc'
      replace hcs' : cur.size = cap * 7 := hcs'
      have hkc : ¬ (1 : Int) = (cap : Int) := by omega
      have hcl : ∀ ty, (Builtin.clear_ #[28] ty #[.slice (some ⟨g, 7, none⟩) 1 (cap - 1)]).run Try.prog wr = .ok (.tuple #[]) (wr.setRow g (cur.toList.take 7 ++ zeroV 1 ++ cur.toList.drop (7 + 1 * 7)).toArray) :=
        fun ty => run_clear_fx wr g 7 1 (cap - 1) cur ty hg' (by decide) (by rw [hcs']; omega)
      obtain ⟨w9, hw9⟩ : ∃ x, x = wr.setRow g (cur.toList.take 7 ++ zeroV 1 ++ cur.toList.drop (7 + 1 * 7)).toArray := ⟨_, rfl⟩
      rw [← hw9] at hcl
      have H9 : Hid (FB w9 base (.slice (some ⟨g, 0, none⟩) 1 cap) [y]) := by
        refine Lib.hid ?_
        have hzl : (zeroV 1).length = 7 := by unfold zeroV; rw [fxV_len, List.length_replicate]
        refine ⟨Lay.vals_len [y], .inr ⟨g, cap, _, rfl, hbg', by rw [hw9]; exact setRow_heap wr g cur _ _ _ hg', by show 1 ≤ cap; omega, hcm', ?_, ?_⟩⟩
        · show _ = cap * 7
          simp only [List.size_toArray, List.length_append, List.length_take, List.length_drop, Array.length_toList, hzl, hcs']
          omega
        · show List.take 7 (cur.toList.take 7 ++ zeroV 1 ++ cur.toList.drop (7 + 1 * 7)) = fxl.vals [y]
          rw [List.append_assoc, List.take_left' (by rw [List.length_take, Array.length_toList, hcs']; omega)]
          have e1 : cur.toList.take (2 * 7) = fxl.vals [y, y] := htake'
          have e2 : cur.toList.take 7 = (cur.toList.take (2 * 7)).take 7 := by rw [List.take_take]; congr 1
          rw [e2, e1]
          rfl
      have HC9 : Hid (Chg [g] wr w9) := by
        refine Lib.hid ?_
        rw [hw9]
        exact ⟨rfl, rfl, rfl, by rw [size_setRow]; exact Nat.le_refl _, fun i _ hi => setRow_other _ _ _ _ (by simpa using hi)⟩
      have Hch := Lib.hid hch
      clear hch
      clear hw9 hg' hcs' htake' hcm' hbg'
      go_wp2
      go_ret
      exact ⟨⟨_, rfl, H9.out⟩, Hch.out.same HC9.out⟩
end Go.Proofs.Ytgmlcmmphhmogaa
