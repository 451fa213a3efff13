/- decode.Merge, where all that is weak stands at one place. -/
import Derived.Test.YtgmlcmmphhmogaaDm5
namespace Go.Proofs.Ytgmlcmmphhmogaa
open Go.RowKit
set_option maxRecDepth 100000

section
variable {ops : Array Oper} {rest : List Oper} {a : Act} {Q : Exit → Act → World → Prop} {w : World}
theorem Try.mkMp {d : Tmp} {ty : TypeId} {pos : String} {after : Array Edge} (z : Int)
    (h : ∀ W b, b = w.heap.size → Chg [] w W → MP W b z false → wpList Try.prog ops Q rest (a.put (some d) (.map (some b))) W) : wpList Try.prog ops Q (⟨some d, .makeMap 35 none, ty, pos, after, none⟩ :: rest) a w := by
  refine wpList_plain rfl fun J hJ => ?_
  unfold Oper.wp execOp
  have := h _ _ rfl ((Chg.refl [] w).alloc (.map #[] 0)) ⟨0, 0, heap_alloc_eq w _⟩
  simp [Instr.makeMap]
  exact hJ _ _ this
end
theorem any_snoc (l : List Fx) (k : Nat) (h : k < l.length) : (l.take (k + 1)).any weakB = ((l.take k).any weakB || weakB (l.getD k .zero)) := by
  rw [List.take_add_one, List.any_append]
  simp [List.getD_eq_getElem?_getD, h]
/-- What is left of fixups. -/
def Kept (on : Bool) (all kept : List Fx) : Prop := (kept = all ∧ ∀ j, j < all.length → delP on (all.getD j .zero) = false) ∨ (∃ x y, all = [x, y] ∧ kept = [y] ∧ on = true ∧ delP true x = true ∧ delP true y = false)
def MgPost (bad : Bool) (base : Nat) (l : List Fx) (e : Ending) (w : World) : Prop := match bad with
  | true => e = .returned (.tuple #[.slice none 0 0, .int .i64 21])
  | false => ∃ v, e = .returned (.tuple #[v, .int .i64 0]) ∧ FB w base v l
theorem merge_big (ss : List SlV) (ms : List (List Fx)) (v : Value) (w : World) (rd : slL.Rd w v ss) (hl : ss.length = ms.length) (hn : ms.length ≤ 100) (hr : ∀ j, j < ms.length → fxl.Rd w (ss.getD j ⟨none, 0, 0⟩).v (ms.getD j [])) (ht : ms.flatten.length ≤ 100000) (hbig : 20000 < ms.flatten.length) :
    Calls Try.prog 6 #[v] w fun e w' => e = .returned (.tuple #[.slice none 0 0, .int .i64 11]) ∧ Chg [] w w' := by
  have HCC := Lib.hid (concat_any ss ms v w rd hl hn hr ht)
  generalize ms.flatten = all at *
  have d1 : decide ((20000 : Int) < (all.length : Int)) = true := by simp; omega
  have Rd := Lib.hid rd
  have Hl := Lib.hid hl
  have Hr := Lib.hid hr
  clear rd hl hr
  go_enter Try.func6, Try.ntmps6
  go_wp2_with fail
  refine HCC.out.mono ?_
  rintro e w1 ⟨v1, rfl, hb, hc⟩
  obtain ⟨a1, c1, rfl, _, _⟩ := hb.rd.shape
  have Hb := Lib.hid hb
  have Hc := Lib.hid hc
  clear hb hc
  go_wp2
  go_ret2
  exact ⟨rfl, Hc.out⟩
set_option maxHeartbeats 4000000 in
theorem merge_any (ss : List SlV) (ms : List (List Fx)) (v : Value) (w : World) (rd : slL.Rd w v ss) (hl : ss.length = ms.length) (hn : ms.length ≤ 100) (hr : ∀ j, j < ms.length → fxl.Rd w (ss.getD j ⟨none, 0, 0⟩).v (ms.getD j [])) (hbig : ms.flatten.length ≤ 20000)
    (z : Int) (hz : ms.flatten.any weakB = true → ∀ x ∈ ms.flatten, x.at_ = z) (kept : List Fx) (hk : Kept (ms.flatten.any weakB) ms.flatten kept) (hat : ∀ x ∈ kept, 0 ≤ x.at_ ∧ x.at_ < 18446744073709551616) :
    Calls Try.prog 6 #[v] w fun e w' => MgPost (meetF (setF kept)) w.heap.size (setF kept) e w' ∧ Chg [] w w' := by
  have HCC := Lib.hid (concat_any ss ms v w rd hl hn hr (by omega))
  generalize ms.flatten = all at *
  have d1 : decide ((20000 : Int) < (all.length : Int)) = false := by simp; omega
  have hkl : kept.length ≤ all.length := by
    rcases hk with ⟨rfl, _⟩ | ⟨x, y, rfl, rfl, _⟩
    · exact Nat.le_refl _
    · simp
  have HFS : Hid (∀ (v : Value) (W : World), fxl.Rd W v kept → Calls Try.prog 9 #[v] W fun e w' => ∃ v', e = .returned v' ∧ FB w' W.heap.size v' (setF kept) ∧ Chg [] W w') := Lib.hid (fun v W r => FSet_any kept v W r (by omega))
  have hsl := setF_len kept
  have HFM : Hid (∀ (v : Value) (W : World), fxl.Rd W v (setF kept) → Calls Try.prog 12 #[v] W fun e w' => e = .returned (.bool (meetF (setF kept))) ∧ Chg [] W w') := Lib.hid (fun v W r => FMeet_any (setF kept) v W r (by omega) (fun f hf => hat f (mem_setF.1 hf)))
  obtain ⟨on, hon⟩ : ∃ on, on = all.any weakB := ⟨_, rfl⟩
  rw [← hon] at hz hk
  have Rd := Lib.hid rd
  have Hl := Lib.hid hl
  have Hr := Lib.hid hr
  have Hk := Lib.hid hk
  have Hat := Lib.hid hat
  have Hz := Lib.hid hz
  have Hon := Lib.hid hon
  have Hsl := Lib.hid hsl
  clear rd hl hr hk hat hz hon hsl
  go_enter Try.func6, Try.ntmps6
  go_wp2_with fail
  refine HCC.out.mono ?_
  rintro e w1 ⟨v1, rfl, hb, hc⟩
  obtain ⟨a1, c1, rfl, hc1, hc2⟩ := hb.rd.shape
  have B1 := Lib.hid (hb)
  have C1 := Lib.hid (hc)
  clear hb hc
  go_wp2_with ((with_reducible refine Try.mkMp z ?_); intro w2 bm ebm cbm mbm; replace ebm := Lib.hid ebm; replace cbm := Lib.hid cbm; replace mbm := Lib.hid mbm; refine Hid.out ?_)
  refine Lib.hid ?_
  go_upto_region 5 with fail
  obtain ⟨pm, hpm⟩ : ∃ x, x = w2.heap.size := ⟨_, rfl⟩
  rw [← hpm]
  refine Lay.with_world (fun W => W.cell? ⟨pm, 0, none⟩ = some (.map (some bm)) ∧ MP W bm z false ∧ Chg [] w1 W) ⟨?_, ?_, ?_⟩ (fun w3 hW => ?_)
  · rw [hpm]
    exact cell_of_heap (heap_alloc_eq w2 _) 0
  · obtain ⟨c, q, h⟩ := mbm.out
    exact ⟨c, q, (heap_alloc_lt (lt_of_heap h) _).trans h⟩
  · exact cbm.out.alloc _
  obtain ⟨h1, h2, h3⟩ := hW
  have hbp : bm < pm := by obtain ⟨c, q, h⟩ := mbm.out; rw [hpm]; exact lt_of_heap h
  have hb1 : w1.heap.size ≤ bm := by rw [ebm.out]; exact Nat.le_refl _
  have P3 := Lib.hid h1
  have M3 := Lib.hid h2
  have C3 := Lib.hid h3
  have Hpm := Lib.hid hpm
  clear h1 h2 h3 hpm
  clear ebm cbm mbm
  have hw1 : w.heap.size ≤ w1.heap.size := C1.out.size
  go_wp2_with fail
  go_loopw [17] (fun s17 wr => ∃ k : Nat, k ≤ all.length ∧ s17 = .int .i64 (k : Int) ∧ MP wr bm z ((all.take k).any weakB) ∧ Chg [bm] w3 wr) (fun s17 _ => all.length - (intOf s17).toNat)
  case atStart => exact ⟨0, Nat.zero_le _, rfl, M3.out, Chg.refl _ _⟩
  case round =>
    obtain ⟨k, hk, rfl, hm, hch⟩ := hrel
    have y0 : wr.cell? ⟨pm, 0, none⟩ = some (.map (some bm)) := hch.cell P3.out (by simp; omega)
    have B2 : Hid (FB wr w.heap.size (.slice a1 all.length c1) all) := Lib.hid ((B1.out.pure C3.out).frame hch (fun b hb hmm => by have := (B1.out.lt b hb).2; simp at hmm; omega))
    by_cases hlt : k < all.length
    · obtain ⟨b, off, rfl, hb, hcell⟩ := B2.out.rd.at (by omega)
      have hI : fxl.In wr b (off + k * 7) (all.getD k .zero) := hcell k hlt
      have hsn := any_snoc all k hlt
      have hzk : weakB (all.getD k .zero) = true → (all.getD k .zero).at_ = z := fun h => by
        have hmem : all.getD k .zero ∈ all := by
          rw [List.getD_eq_getElem?_getD, List.getElem?_eq_getElem hlt]
          exact List.getElem_mem hlt
        refine Hz.out ?_ _ hmem
        rw [Hon.out, List.any_eq_true]
        exact ⟨_, hmem, h⟩
      clear hcell
      obtain ⟨x, hx⟩ : ∃ x, x = all.getD k .zero := ⟨_, rfl⟩
      rw [← hx] at hI hsn hzk
      obtain ⟨o, ho⟩ : ∃ o, o = (all.take k).any weakB := ⟨_, rfl⟩
      rw [← ho] at hm hsn
      have HWK := Lib.hid (fun W => weak_any x W)
      have HI := Lib.hid hI
      have Hsn := Lib.hid hsn
      have Hx := Lib.hid hx
      have Ho := Lib.hid ho
      have Hm := Lib.hid hm
      have Hch := Lib.hid hch
      clear hI hsn hx ho hm hch
      go_wp2_with ((with_reducible refine Lay.ldL Try.tFx x (HI.out) ?_ ?_); exact rfl; refine Hid.out ?_)
      refine Lib.hid ?_
      go_wp2_with ((with_reducible refine Lay.alL Try.tFx ?_); intro w4 bx ebx cbx xbx; replace ebx := Lib.hid ebx; replace cbx := Lib.hid cbx; replace xbx := Lib.hid xbx; refine Hid.out ?_)
      refine Lib.hid ?_
      go_wp2_with ((with_reducible refine Lay.stL Try.tFx x (xbx.out) ?_ ?_ ?_); exact rfl; exact rfl; intro w5 cw5 xw5; replace cw5 := Lib.hid cw5; replace xw5 := Lib.hid xw5; refine Hid.out ?_)
      refine Lib.hid ?_
      have D5 : Hid (Chg [] wr w5) := Lib.hid (cbx.out.new cw5.out (by rw [ebx.out]; exact Nat.le_refl _))
      have X5 := Lib.hid (xw5.out)
      clear cbx xbx ebx cw5 xw5
      go_wp2_with ((with_reducible refine Lay.ldL Try.tFx x (X5.out.in) ?_ ?_); exact rfl; refine Hid.out ?_)
      refine Lib.hid ?_
      go_wp2_with fail
      refine (HWK.out _).mono ?_
      rintro e w6 ⟨rfl, hc⟩
      have D6 := Lib.hid (D5.out.then hc)
      have X6 := Lib.hid (X5.out.frame hc)
      clear hc
      have M6 : Hid (MP w6 bm z o) := Lib.hid (by obtain ⟨c, q, h⟩ := Hm.out; exact ⟨c, q, D6.out.heap h (by simp)⟩)
      cases hwk : weakB x with
      | false =>
        rw [hwk, Bool.or_false] at Hsn
        have Hwk := Lib.hid hwk
        clear hwk
        go_wp2
        go_roundw
        case rel => exact ⟨k + 1, hlt, by go_num, by rw [Hsn.out]; exact M6.out, Hch.out.then D6.out⟩
        case measure => simp [intOf]; omega
      | true =>
        rw [hwk, Bool.or_true] at Hsn
        have hxz := hzk hwk
        have x0 : w6.cell? ⟨bx, 0, none⟩ = some (.int .u64 x.at_) := X6.out.in 0 (by decide)
        have y6 := D6.out.cell y0 (by simp)
        rw [hxz] at x0
        have Hwk := Lib.hid hwk
        have Hxz := Lib.hid hxz
        clear hwk hxz
        go_wp2_with ((with_reducible refine Try.upL z M6.out ?_ ?_ ?_ ?_); exact rfl; exact rfl; exact rfl; intro w7 cw7 mw7; replace cw7 := Lib.hid cw7; replace mw7 := Lib.hid mw7; refine Hid.out ?_)
        refine Lib.hid ?_
        go_wp2
        go_roundw
        case rel => exact ⟨k + 1, hlt, by go_num, by rw [Hsn.out]; exact mw7.out, (Hch.out.then D6.out).same cw7.out⟩
        case measure => simp [intOf]; omega
    · obtain rfl : k = all.length := by omega
      rw [List.take_length, ← Hon.out] at hm
      have Hm := Lib.hid hm
      have Hch := Lib.hid hch
      clear hm hch
      obtain ⟨w4, rfl⟩ : ∃ x, x = wr := ⟨_, rfl⟩
      have C4 : Hid (Chg [] w w4) := Lib.hid ((C1.out.then C3.out).trans Hch.out (fun i hi hw => by simp at hi; omega))
      have hmf : ∀ (fn : Fn) (first cap : Array Value) (w : World), (Instr.makeFunc fn first cap).run Try.prog w = .ok (.func fn first cap) w := fun _ _ _ _ => rfl
      have HDE : Hid (∃ g, (Calls Try.prog 10 #[.slice a1 all.length c1, .func (.func 11) #[] #[.pointer (some ⟨pm, 0, none⟩)]] w4 fun e w' => (∃ v', e = .returned v' ∧ FB w' w.heap.size v' kept) ∧ Chg g w4 w') ∧ ∀ i ∈ g, w.heap.size ≤ i) := by
        refine Lib.hid ?_
        rcases Hk.out with ⟨he, hno⟩ | ⟨x, y, hxy, hke, hone, dx, dy⟩
        · refine ⟨(Value.slice a1 all.length c1).ownBlock.toList, ?_, fun i hi => (B2.out.lt i (by simpa using hi)).1⟩
          rw [he]
          exact delete_no all _ _ _ B2.out on pm bm z Hz.out y0 Hm.out hno
        · obtain ⟨g, cap, he2, hg0, hg1, _, _, hown, _, _⟩ := B2.out.at (by rw [hxy]; simp)
          cases he2
          refine ⟨[g], ?_, fun i hi => by simp at hi; omega⟩
          have hgb : g < w1.heap.size := (B1.out.lt g rfl).2
          have hz2 := Hz.out hone
          rw [hone] at Hm
          have hB := B2.out
          rw [hxy] at hB hz2
          rw [hke, hxy]
          exact delete_2 x y _ g c1 w4 hB pm bm z (hz2 x (by simp)) (hz2 y (by simp)) y0 Hm.out (by omega) (by omega) dx dy
      obtain ⟨gs, hde, hgs⟩ := HDE.out
      have Hde := Lib.hid hde
      have Hgs := Lib.hid hgs
      clear hde hgs
      go_wp2_with fail
      refine Hde.out.mono ?_
      rintro e w5 ⟨⟨v5, rfl, hb⟩, hc⟩
      obtain ⟨a5, c5, rfl, _, _⟩ := hb.rd.shape
      have B5 := Lib.hid (hb)
      have C5 : Hid (Chg [] w w5) := Lib.hid (C4.out.trans hc (fun i hi hw => by have := Hgs.out i hi; omega))
      clear hb hc
      go_wp2_with fail
      refine (HFS.out _ _ B5.out.rd).mono ?_
      rintro e w6 ⟨v6, rfl, hb, hc⟩
      obtain ⟨a6, c6, rfl, _, _⟩ := hb.rd.shape
      have B6 := Lib.hid (hb.mono C5.out.size)
      have C6 := Lib.hid (C5.out.then hc)
      clear hb hc
      go_wp2_with fail
      refine (HFM.out _ _ B6.out.rd).mono ?_
      rintro e w7 ⟨rfl, hc⟩
      have B7 := Lib.hid (B6.out.pure hc)
      have C7 := Lib.hid (C6.out.then hc)
      clear hc
      cases hmt : meetF (setF kept) with
      | true =>
        go_wp2
        go_ret2
        exact ⟨by rw [hmt]; rfl, C7.out⟩
      | false =>
        go_wp2
        go_ret2
        exact ⟨by rw [hmt]; exact ⟨_, rfl, B7.out⟩, C7.out⟩
end Go.Proofs.Ytgmlcmmphhmogaa
