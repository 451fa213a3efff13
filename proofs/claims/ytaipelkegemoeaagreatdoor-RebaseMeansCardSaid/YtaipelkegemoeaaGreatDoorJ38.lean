/- Lemmas, laid together: part 38 of 46. Conditions: none but each lemma's own. -/
import Derived.Test.YtaipelkegemoeaaGreatDoorJ37
/- rebase.Make, of the chapter's two rebases. -/
namespace Go.Proofs.YtaipelkegemoeaaGreatDoor
open Go.RowKit
set_option maxRecDepth 100000

theorem May_k (x : Fx) (hx : x = rebF 4096 7 ∨ x = rebF 4104 9) (w : World) : Calls Tryz.prog 15 #[fxl.val x] w fun e w' => e = .returned (.bool true) ∧ Chg [] w w' := by
  rcases hx with rfl | rfl
  · show Calls Tryz.prog 15 #[.agg #[.int .u64 4096, .int .i64 1, .int .u64 7, .int .i64 0, .string ⟨#[]⟩, .int .i64 0, .bool false]] w _
    have he : ∀ W : World, (binOp .eql 46 (.agg #[.int .u64 4096, .int .i64 1, .int .u64 7, .int .i64 0, .string ⟨#[]⟩, .int .i64 0, .bool false]) (.agg #[.int .u64 4096, .int .i64 1, .int .u64 7, .int .i64 0, .string ⟨#[]⟩, .int .i64 0, .bool false])).run Tryz.prog W = .ok (.bool true) W := by
      intro W
      kernel_rfl
    go_enter Tryz.func15, Tryz.ntmps15
    go_wp2
    go_ret
    exact ⟨rfl, (Chg.refl _ _).alloc _⟩
  · show Calls Tryz.prog 15 #[.agg #[.int .u64 4104, .int .i64 1, .int .u64 9, .int .i64 0, .string ⟨#[]⟩, .int .i64 0, .bool false]] w _
    have he : ∀ W : World, (binOp .eql 46 (.agg #[.int .u64 4104, .int .i64 1, .int .u64 9, .int .i64 0, .string ⟨#[]⟩, .int .i64 0, .bool false]) (.agg #[.int .u64 4104, .int .i64 1, .int .u64 9, .int .i64 0, .string ⟨#[]⟩, .int .i64 0, .bool false])).run Tryz.prog W = .ok (.bool true) W := by
      intro W
      kernel_rfl
    go_enter Tryz.func15, Tryz.ntmps15
    go_wp2
    go_ret
    exact ⟨rfl, (Chg.refl _ _).alloc _⟩
theorem known13_ord : ordF (rebF 4096 7) (rebF 4104 9) < 0 := by
  unfold ordF th cmpI rebF
  decide
theorem known13_set : setF known13l = known13l := by
  show (if ordF (rebF 4096 7) (rebF 4104 9) < 0 then rebF 4096 7 :: [rebF 4104 9] else if ordF (rebF 4096 7) (rebF 4104 9) = 0 then [rebF 4104 9] else [rebF 4104 9, rebF 4096 7]) = _
  rw [if_pos known13_ord]
  rfl
theorem known13_meet : meetF known13l = false := by
  rw [← adj_meet, known13_set]
  decide
def slN (v : Value) : Nat := match v with | .slice _ n _ => n | _ => 0
theorem nm2 {a p B : Nat} (h : a < B) (hp : p = B + 1) : a ∉ [p, B] := by
  simp only [List.mem_cons, List.not_mem_nil, or_false]
  omega
theorem bb_one (x : UInt8) (w : World) : BB (w.alloc (.cells #[.int .u8 x.toNat] 5)) w.heap.size (.slice (some ⟨w.heap.size, 0, none⟩) 1 1) [x] :=
  ⟨Lay.vals_len [x], .inr ⟨w.heap.size, 1, _, rfl, Nat.le_refl _, heap_alloc_eq _ _, Nat.le_refl _, by decide, rfl, rfl⟩⟩
theorem known13_get (k : Nat) (h : k < 2) : known13l.getD k fxl.d = rebF 4096 7 ∨ known13l.getD k fxl.d = rebF 4104 9 := by
  have : k = 0 ∨ k = 1 := by omega
  rcases this with rfl | rfl
  · exact .inl rfl
  · exact .inr rfl
set_option maxHeartbeats 4000000 in
theorem Make_known (m : Img) (sb : Nat) (hm : m.segs = ⟨some ⟨sb, 0, none⟩, 2, 2⟩) (v : Value) (w : World) (rd : segL.Rd w m.segs.v twoSegs) (hl : FxRd w v known13l) :
    Calls Tryz.prog 6 #[imgL.val m, v] w fun e w' => ∃ so : SlV, e = .returned (.tuple #[so.v, .int .i64 0]) ∧ BB w' w.heap.size so.v kB ∧ Chg [] w w' := by
  have HSE := Lib.hid (fun w rd => FSet_any known13l v w rd (by decide))
  have HME := Lib.hid (fun v w rd => FMeet_any known13l v w rd (by decide) (by decide))
  have HWR := Lib.hid (fun (A : Nat) h0 h w rd => (twoSegs_w A h0 h) ▸ Writable_any m twoSegs twoSegsB (A : Int) 8 (by omega) w rd)
  have HRU := Lib.hid (fun g cap w rd hl => run_two m g cap w rd hl)
  have HA0 := Lib.hid (fun w rd => At_img m twoSegs twoSegsB (4096 : Int) (by decide) w rd)
  rw [show atS twoSegs 4096 = some 1 from twoSegs_at 4096 (by decide) (by decide)] at HA0
  rw [show idxI (some 1) = (1 : Int) from rfl] at HA0
  rw [known13_set] at HSE
  rw [known13_meet] at HME
  have hs : w.cell? ⟨sb, 8, none⟩ = some (.int .u64 4096) := by
    rw [hm] at rd
    exact rd.cells.2 8 _ rfl
  have hsl : sb < w.heap.size := World.block_lt_of_cell? _ _ hs
  have HRD := Lib.hid rd
  have Hl := Lib.hid hl
  have Hm := Lib.hid hm
  have Hs := Lib.hid hs
  clear rd hl hm hs
  go_enter Tryz.func6, Tryz.ntmps6
  go_wp2_with ((with_reducible refine Lay.bxL (L := imgL) 32 m ?_ ?_); exact rfl; intro W1 bi ebi cbi xbi; replace ebi := Lib.hid ebi; replace cbi := Lib.hid cbi; replace xbi := Lib.hid xbi; refine Hid.out ?_)
  refine Lib.hid ?_
  go_wp2_with fail
  refine (HSE.out _ (Hl.out.frame cbi.out)).mono ?_
  rintro e W2 ⟨v2, rfl, hb, hc⟩
  have FB2 := Lib.hid (fb_of hb)
  obtain ⟨g, cap, rfl, hg0, hg1, hcp, hcm, hown, hfz, hIn⟩ := FB2.out.at (by decide)
  have C2 : Hid (Chg [] w W2) := Lib.hid (cbi.out.then hc)
  have BI2 := Lib.hid (xbi.out.frame hc)
  have HIn := Lib.hid hIn
  clear hIn
  rw [show known13l.length = 2 from rfl] at hcp hown FB2 ⊢
  clear hb hc hfz
  have hbi := xbi.out.lt
  go_wp2_with fail
  go_loopw [21] (fun s21 wr => ∃ k : Nat, k ≤ 2 ∧ s21 = .int .i64 (k : Int) ∧ Chg [] W2 wr) (fun s21 _ => 2 - (intOf s21).toNat)
  case atStart => exact ⟨0, by decide, rfl, Chg.refl _ _⟩
  case round =>
    obtain ⟨k, hk, rfl, hc⟩ := hrel
    have CW := Lib.hid hc
    clear hc
    by_cases hlt : k < 2
    · obtain ⟨x, hx⟩ : ∃ x, x = known13l.getD k fxl.d := ⟨_, rfl⟩
      have hxx := known13_get k hlt
      have hI := (HIn.out k hlt).frame CW.out
      rw [← hx] at hxx hI
      have HMA := Lib.hid (fun w => May_k x hxx w)
      have HK : Hid (x.kind = 1) := Lib.hid (by rcases hxx with rfl | rfl <;> rfl)
      have HI := Lib.hid hI
      have Hx := Lib.hid hx
      have Hxx := Lib.hid hxx
      clear hI hx hxx
      go_wp2_with ((with_reducible refine Lay.ldL Tryz.tFx x (HI.out) ?_ ?_); exact rfl; refine Hid.out ?_)
      refine Lib.hid ?_
      go_wp2_with ((with_reducible refine Lay.alL Tryz.tFx ?_); intro W3 bx ebx cbx xbx; replace ebx := Lib.hid ebx; replace cbx := Lib.hid cbx; replace xbx := Lib.hid xbx; refine Hid.out ?_)
      refine Lib.hid ?_
      go_wp2_with ((with_reducible refine Lay.stL Tryz.tFx x (xbx.out) ?_ ?_ ?_); exact rfl; exact rfl; intro W4 cW4 xW4; replace cW4 := Lib.hid cW4; replace xW4 := Lib.hid xW4; refine Hid.out ?_)
      refine Lib.hid ?_
      have f1 : W4.cell? ⟨bx, 1, none⟩ = some (.int .i64 1) := by
        have := xW4.out.in 1 (by decide)
        rw [Nat.zero_add] at this
        rw [this, show (fxl.f x)[1]? = some (.int .i64 x.kind) from rfl, HK.out]
      have C4 : Hid (Chg [] W2 W4) := Lib.hid (CW.out.then (cbx.out.new cW4.out (by rw [ebx.out]; exact Nat.le_refl _)))
      go_wp2_with ((with_reducible refine Lay.ldG2 Tryz.tFx x (xW4.out.in) ?_ ?_ ?_); exact rfl; exact rfl; refine Hid.out ?_)
      refine Lib.hid ?_
      go_wp2_with fail
      refine (HMA.out _).mono ?_
      rintro e W5 ⟨rfl, h5⟩
      have C5 := Lib.hid (C4.out.then h5)
      clear h5
      go_wp2
      go_roundw
      case rel => exact ⟨k + 1, hlt, by go_num, C5.out⟩
      case measure => simp [intOf]; omega
    · obtain rfl : k = 2 := by omega
      have R2 := Lib.hid ((FB2.out.pure CW.out).rd)
      go_wp2_with fail
      refine (HME.out _ _ R2.out).mono ?_
      rintro e W6 ⟨rfl, h6⟩
      have C6 := Lib.hid (CW.out.then h6)
      clear h6
      go_wp2_with fail
      go_loopw [43] (fun s43 wr => ∃ k : Nat, k ≤ 2 ∧ s43 = .int .i64 (k : Int) ∧ Chg [] W2 wr) (fun s43 _ => 2 - (intOf s43).toNat)
      case atStart => exact ⟨0, by decide, rfl, C6.out⟩
      case round =>
        clear R2 C6 CW
        clear hlt hk
        obtain ⟨k, hk, rfl, hc⟩ := hrel
        have CW := Lib.hid hc
        clear hc
        by_cases hlt : k < 2
        · obtain ⟨x, hx⟩ : ∃ x, x = known13l.getD k fxl.d := ⟨_, rfl⟩
          have hxx := known13_get k hlt
          have hI := (HIn.out k hlt).frame CW.out
          rw [← hx] at hxx hI
          have HWX : Hid (∀ w, segL.Rd w m.segs.v twoSegs → Calls Tryz.prog 17 #[imgL.val m, .int .u64 x.at_, .int .u64 8] w fun e w' => e = .returned (.bool true) ∧ Chg [] w w') := by
            refine Lib.hid ?_
            intro w rd
            rcases hxx with rfl | rfl
            · exact HWR.out 4096 (by decide) (by decide) w rd
            · exact HWR.out 4104 (by decide) (by decide) w rd
          have HI := Lib.hid hI
          have Hx := Lib.hid hx
          have Hxx := Lib.hid hxx
          clear hI hx hxx
          go_wp2_with ((with_reducible refine Lay.ldL Tryz.tFx x (HI.out) ?_ ?_); exact rfl; refine Hid.out ?_)
          refine Lib.hid ?_
          go_wp2_with ((with_reducible refine Lay.alL Tryz.tFx ?_); intro W3 bx ebx cbx xbx; replace ebx := Lib.hid ebx; replace cbx := Lib.hid cbx; replace xbx := Lib.hid xbx; refine Hid.out ?_)
          refine Lib.hid ?_
          go_wp2_with ((with_reducible refine Lay.stL Tryz.tFx x (xbx.out) ?_ ?_ ?_); exact rfl; exact rfl; intro W4 cW4 xW4; replace cW4 := Lib.hid cW4; replace xW4 := Lib.hid xW4; refine Hid.out ?_)
          refine Lib.hid ?_
          have f0 : W4.cell? ⟨bx, 0, none⟩ = some (.int .u64 x.at_) := by
            have := xW4.out.in 0 (by decide)
            rw [Nat.zero_add] at this
            rw [this]
            rfl
          have C4 : Hid (Chg [] W2 W4) := Lib.hid (CW.out.then (cbx.out.new cW4.out (by rw [ebx.out]; exact Nat.le_refl _)))
          go_wp2_with ((with_reducible refine Lay.ldL Tryz.tImg m (((BI2.out.frame C4.out).in)) ?_ ?_); exact rfl; refine Hid.out ?_)
          refine Lib.hid ?_
          go_wp2_with fail
          refine (HWX.out _ (HRD.out.frame (C2.out.then C4.out))).mono ?_
          rintro e W5 ⟨rfl, h5⟩
          have C5 := Lib.hid (C4.out.then h5)
          clear h5
          go_wp2
          go_roundw
          case rel => exact ⟨k + 1, hlt, by go_num, C5.out⟩
          case measure => simp [intOf]; omega
        · obtain rfl : k = 2 := by omega
          rw [show ((2 : Nat) : Int) = 2 from rfl]
          have hmf : ∀ (fn : Fn) (first cap : Array Value) (w : World), (Instr.makeFunc fn first cap).run Tryz.prog w = .ok (.func fn first cap) w := fun _ _ _ _ => rfl
          go_wp2_with fail
          obtain ⟨p, hp⟩ : ∃ p, p = wr.heap.size + 1 := ⟨_, rfl⟩
          obtain ⟨B0, hB0⟩ : ∃ B0, B0 = wr.heap.size := ⟨_, rfl⟩
          rw [← hp]
          obtain ⟨WB, hWB⟩ : ∃ WB, WB = (wr.alloc (.cells #[.int .u8 17] 5)).alloc (.cells #[.slice (some ⟨wr.heap.size, 0, none⟩) 1 1] 22) := ⟨_, rfl⟩
          rw [← hWB]
          have PB : Hid (svL.Box WB p ⟨some ⟨B0, 0, none⟩, 1, 1⟩) := by
            refine Lib.hid ?_
            have := Lay.Box.of_alloc (L := svL) (wr.alloc (.cells #[.int .u8 17] 5)) ⟨some ⟨B0, 0, none⟩, 1, 1⟩ 22
            rw [show (wr.alloc (.cells #[.int .u8 17] 5)).heap.size = wr.heap.size + 1 by simp] at this
            rw [hWB, hp, hB0]
            rw [hB0] at this
            exact this
          have BB0 : Hid (BB WB B0 (.slice (some ⟨B0, 0, none⟩) 1 1) [17]) := by
            refine Lib.hid ?_
            have h2 := bb_one 17 wr
            rw [hWB, hB0]
            exact h2.pure ((Chg.refl _ _).alloc _)
          have CB : Hid (Chg [] W2 WB) := by
            refine Lib.hid ?_
            rw [hWB]
            exact (CW.out.alloc _).alloc _
          have hBW : B0 ≤ WB.heap.size := by rw [hWB, hB0]; simp; omega
          have hpB : p ≠ B0 := by omega
          have hgB : g < B0 := by have := CW.out.size; omega
          have hgp : g ≠ p := by omega
          have hB2 : W2.heap.size ≤ B0 := by rw [hB0]; exact CW.out.size
          have hpB1 : p = B0 + 1 := by omega
          have HpB1 := Lib.hid hpB1
          clear hpB1
          clear hWB CW hlt hk
          have y0 : WB.cell? ⟨g, 0, none⟩ = some (.int .u64 4096) := by
            have := (HIn.out 0 (by decide)) 0 (by decide)
            rw [Nat.zero_mul] at this
            exact CB.out.cell (this.trans rfl) (by simp)
          have y7 : WB.cell? ⟨g, 7, none⟩ = some (.int .u64 4104) := by
            have := (HIn.out 1 (by decide)) 0 (by decide)
            exact CB.out.cell (this.trans rfl) (by simp)
          have BIB := Lib.hid (BI2.out.frame CB.out)
          have RB := Lib.hid (HRD.out.frame (C2.out.then CB.out))
          have x4 := Img.c_segs BIB.out
          rw [Hm.out] at x4
          have s8 := (C2.out.then CB.out).cell Hs.out (by simp)
          have R6 := Lib.hid ((FB2.out.pure CB.out).rd)
          clear hB0 hp
          go_loopw [6, 12, 13] (fun s6 s12 s13 wq => (s6 = .slice (some ⟨g, 0, none⟩) 2 cap ∧ s12 = .int .i64 (-1) ∧ s13 = .int .u64 0 ∧ wq = WB) ∨ (∃ (a : Option Addr) (c : Nat) (so : SlV), s6 = .slice a 0 c ∧ svL.Box wq p so ∧ BB wq B0 so.v [17, 33, 0, 82] ∧ p ∉ so.v.ownBlock.toList ∧ Chg [] W2 wq)) (fun s6 _ _ _ => slN s6)
          case atStart => exact .inl ⟨rfl, rfl, rfl, rfl⟩
          case round =>
            rcases hrel with ⟨rfl, rfl, rfl, rfl⟩ | ⟨a, c, so, rfl, h1, h2, h3, h4⟩
            · go_upto_region 22 with fail
              refine wp_region_noPanic ?_
              refine wp_region_held_drew (S := fun w' => Chg [] wr w') (by kernel_rfl) ((Chg.refl _ _).drew) (fun hHeld => ?_)
              refine take_read (i := 0) (v := ?_) (by simp only [List.getElem?_toArray, List.getElem?_cons_zero]; rfl) (by kernel_rfl) (by kernel_rfl) (by kernel_rfl) (fun _ _ _ h => h) hHeld ?_ ?_
              rotate_left
              · intro w hSw
                refine Lay.read_ld Tryz.tImg ((BIB.out.frame hSw).in) ?_ ?_
                exact rfl
                exact rfl
              try simp only [Act.put, List.setIfInBounds_toArray, List.set_cons_zero, List.set_cons_succ]
              refine take_read (i := 1) (v := ?_) (by simp only [List.getElem?_toArray, List.getElem?_cons_succ, List.getElem?_cons_zero]; rfl) (by kernel_rfl) (by kernel_rfl) (by kernel_rfl) (fun _ _ _ h => h) hHeld ?_ ?_
              rotate_left
              · intro w hSw
                go_simp
                try with_reducible rfl
              try simp only [Act.put, List.setIfInBounds_toArray, List.set_cons_zero, List.set_cons_succ]
              refine take_read (i := 2) (v := ?_) (by simp only [List.getElem?_toArray, List.getElem?_cons_succ, List.getElem?_cons_zero]; rfl) (by kernel_rfl) (by kernel_rfl) (by kernel_rfl) (fun _ _ _ h => h) hHeld ?_ ?_
              rotate_left
              · intro w hSw
                go_simp
                try with_reducible rfl
              try simp only [Act.put, List.setIfInBounds_toArray, List.set_cons_zero, List.set_cons_succ]
              refine take_read (i := 3) (v := ?_) (by simp only [List.getElem?_toArray, List.getElem?_cons_succ, List.getElem?_cons_zero]; rfl) (by kernel_rfl) (by kernel_rfl) (by kernel_rfl) (fun _ _ _ h => h) hHeld ?_ ?_
              rotate_left
              · intro w hSw
                go_simp
                try with_reducible rfl
              try simp only [Act.put, List.setIfInBounds_toArray, List.set_cons_zero, List.set_cons_succ]
              refine take_read (i := 4) (v := ?_) (by simp only [List.getElem?_toArray, List.getElem?_cons_succ, List.getElem?_cons_zero]; rfl) (by kernel_rfl) (by kernel_rfl) (by kernel_rfl) (fun _ _ _ h => h) hHeld ?_ ?_
              rotate_left
              · intro w hSw
                have y0 := hSw.cell y0 (by simp)
                go_simp
                try with_reducible rfl
              try simp only [Act.put, List.setIfInBounds_toArray, List.set_cons_zero, List.set_cons_succ]
              refine wpAnyH_ready (rs := [5]) (by kernel_rfl) (by simp) ?_
              refine AllReadyH.cons rfl (fun K hK => ?_) AllReadyH.nil
              go_simp
              refine (HA0.out _ (RB.out.frame hHeld)).mono ?_
              rintro e W5 ⟨rfl, hc⟩
              have A5 := Lib.hid (hHeld.then hc)
              clear hc
              refine hK.out _ _ A5.out (fun hHeld2 => ?_)
              clear hK hHeld K
              have hHeld := hHeld2
              clear hHeld2
              try (unfold Act.put; simp only [List.setIfInBounds_toArray, List.set_cons_zero, List.set_cons_succ])
              refine take_read (i := 6) (v := ?_) (by simp only [List.getElem?_toArray, List.getElem?_cons_succ, List.getElem?_cons_zero]; rfl) (by kernel_rfl) (by kernel_rfl) (by kernel_rfl) (fun _ _ _ h => h) hHeld ?_ ?_
              rotate_left
              · intro w hSw
                go_simp
                try with_reducible rfl
              try simp only [Act.put, List.setIfInBounds_toArray, List.set_cons_zero, List.set_cons_succ]
              refine wpAnyH_done (by kernel_rfl) ?_ _
              refine NoPanic.normal ?_
              clear hHeld
              replace y0 := A5.out.cell y0 (by simp)
              replace y7 := A5.out.cell y7 (by simp)
              replace x4 := A5.out.cell x4 (by simp)
              replace s8 := A5.out.cell s8 (by simp)
              have P5 := Lib.hid (PB.out.frame A5.out)
              have B5 := Lib.hid (BB0.out.pure A5.out)
              have C5 := Lib.hid (CB.out.then A5.out)
              have hsz5 : B0 ≤ W5.heap.size := Nat.le_trans hBW A5.out.size
              have hor : bits .or .u8 32 1 = 33 := by decide
              have hor2 : bits .or .u8 80 2 = 82 := by decide
              have hw1 : IntKind.u8.wrap 1 = 1 := by decide
              have hw2 : IntKind.u8.wrap 2 = 2 := by decide
              have hw0 : IntKind.u64.wrap 0 = 0 := by decide
              have hw4 : IntKind.u64.wrap 4112 = 4112 := by decide
              have hwi : IntKind.i64.wrap 1 = 1 := by decide
              have hgl : g < W2.heap.size := hg1
              have hbl : bi < W2.heap.size := BI2.out.lt
              have HMP : Hid (∀ w', svL.Box w' p ⟨some ⟨B0, 0, none⟩, 1, 1⟩ → BB w' B0 (.slice (some ⟨B0, 0, none⟩) 1 1) [17] → B0 ≤ w'.heap.size → Calls Tryz.prog 18 #[.int .u8 33, .int .u64 0, .pointer (some ⟨p, 0, none⟩)] w' fun e w'' => e = .returned (.tuple #[]) ∧ ∃ so' : SlV, svL.Box w'' p so' ∧ BB w'' B0 so'.v [17, 33, 0] ∧ Chg [p, B0] w' w'' ∧ Loc w' (.slice (some ⟨B0, 0, none⟩) 1 1) so'.v ∧ p ∉ so'.v.ownBlock.toList) := by
                refine Lib.hid ?_
                intro w' h1 h2 h3
                exact mput_any 33 0 (by decide) (by decide) p B0 ⟨some ⟨B0, 0, none⟩, 1, 1⟩ [17] (by decide) w' h1 h2 (by show p ∉ [B0]; simp; exact hpB) h3
              have hgm : g ∉ [p, B0] := nm2 (Nat.lt_of_lt_of_le hgl hB2) HpB1.out
              have hbm : bi ∉ [p, B0] := nm2 (Nat.lt_of_lt_of_le hbl hB2) HpB1.out
              have hsm : sb ∉ [p, B0] := nm2 (Nat.lt_of_lt_of_le hsl (Nat.le_trans C2.out.size hB2)) HpB1.out
              go_upto_region 25 with fail
              refine wp_region_noPanic ?_
              refine wp_region_held_drew (S := fun w' => Chg [p, B0] W5 w') (by kernel_rfl) ((Chg.refl [] W5).drew).add (fun hHeld => ?_)
              refine take_read (i := 0) (v := ?_) (by simp only [List.getElem?_toArray, List.getElem?_cons_zero]; rfl) (by kernel_rfl) (by kernel_rfl) (by kernel_rfl) (fun _ _ _ h => h) hHeld ?_ ?_
              rotate_left
              · intro w hSw
                go_simp
                try with_reducible rfl
              try simp only [Act.put, List.setIfInBounds_toArray, List.set_cons_zero, List.set_cons_succ]
              refine take_read (i := 1) (v := ?_) (by simp only [List.getElem?_toArray, List.getElem?_cons_succ, List.getElem?_cons_zero]; rfl) (by kernel_rfl) (by kernel_rfl) (by kernel_rfl) (fun _ _ _ h => h) hHeld ?_ ?_
              rotate_left
              · intro w hSw
                go_simp
                try with_reducible rfl
              try simp only [Act.put, List.setIfInBounds_toArray, List.set_cons_zero, List.set_cons_succ]
              refine take_read (i := 2) (v := ?_) (by simp only [List.getElem?_toArray, List.getElem?_cons_succ, List.getElem?_cons_zero]; rfl) (by kernel_rfl) (by kernel_rfl) (by kernel_rfl) (fun _ _ _ h => h) hHeld ?_ ?_
              rotate_left
              · intro w hSw
                go_simp
                try with_reducible rfl
              try simp only [Act.put, List.setIfInBounds_toArray, List.set_cons_zero, List.set_cons_succ]
              refine take_read (i := 3) (v := ?_) (by simp only [List.getElem?_toArray, List.getElem?_cons_succ, List.getElem?_cons_zero]; rfl) (by kernel_rfl) (by kernel_rfl) (by kernel_rfl) (fun _ _ _ h => h) hHeld ?_ ?_
              rotate_left
              · intro w hSw
                go_simp
                try with_reducible rfl
              try simp only [Act.put, List.setIfInBounds_toArray, List.set_cons_zero, List.set_cons_succ]
              refine take_read (i := 4) (v := ?_) (by simp only [List.getElem?_toArray, List.getElem?_cons_succ, List.getElem?_cons_zero]; rfl) (by kernel_rfl) (by kernel_rfl) (by kernel_rfl) (fun _ _ _ h => h) hHeld ?_ ?_
              rotate_left
              · intro w hSw
                go_simp
                try with_reducible rfl
              try simp only [Act.put, List.setIfInBounds_toArray, List.set_cons_zero, List.set_cons_succ]
              refine take_read (i := 5) (v := ?_) (by simp only [List.getElem?_toArray, List.getElem?_cons_succ, List.getElem?_cons_zero]; rfl) (by kernel_rfl) (by kernel_rfl) (by kernel_rfl) (fun _ _ _ h => h) hHeld ?_ ?_
              rotate_left
              · intro w hSw
                go_simp
                try with_reducible rfl
              try simp only [Act.put, List.setIfInBounds_toArray, List.set_cons_zero, List.set_cons_succ]
              refine take_read (i := 6) (v := ?_) (by simp only [List.getElem?_toArray, List.getElem?_cons_succ, List.getElem?_cons_zero]; rfl) (by kernel_rfl) (by kernel_rfl) (by kernel_rfl) (fun _ _ _ h => h) hHeld ?_ ?_
              rotate_left
              · intro w hSw
                go_simp
                try with_reducible rfl
              try simp only [Act.put, List.setIfInBounds_toArray, List.set_cons_zero, List.set_cons_succ]
              refine take_read (i := 7) (v := ?_) (by simp only [List.getElem?_toArray, List.getElem?_cons_succ, List.getElem?_cons_zero]; rfl) (by kernel_rfl) (by kernel_rfl) (by kernel_rfl) (fun _ _ _ h => h) hHeld ?_ ?_
              rotate_left
              · intro w hSw
                have y0 := hSw.cell y0 hgm
                go_simp
                try with_reducible rfl
              try simp only [Act.put, List.setIfInBounds_toArray, List.set_cons_zero, List.set_cons_succ]
              refine take_read (i := 8) (v := ?_) (by simp only [List.getElem?_toArray, List.getElem?_cons_succ, List.getElem?_cons_zero]; rfl) (by kernel_rfl) (by kernel_rfl) (by kernel_rfl) (fun _ _ _ h => h) hHeld ?_ ?_
              rotate_left
              · intro w hSw
                go_simp
                try with_reducible rfl
              try simp only [Act.put, List.setIfInBounds_toArray, List.set_cons_zero, List.set_cons_succ]
              refine take_read (i := 9) (v := ?_) (by simp only [List.getElem?_toArray, List.getElem?_cons_succ, List.getElem?_cons_zero]; rfl) (by kernel_rfl) (by kernel_rfl) (by kernel_rfl) (fun _ _ _ h => h) hHeld ?_ ?_
              rotate_left
              · intro w hSw
                have x4 := hSw.cell x4 hbm
                go_simp
                try with_reducible rfl
              try simp only [Act.put, List.setIfInBounds_toArray, List.set_cons_zero, List.set_cons_succ]
              refine take_read (i := 10) (v := ?_) (by simp only [List.getElem?_toArray, List.getElem?_cons_succ, List.getElem?_cons_zero]; rfl) (by kernel_rfl) (by kernel_rfl) (by kernel_rfl) (fun _ _ _ h => h) hHeld ?_ ?_
              rotate_left
              · intro w hSw
                go_simp
                try with_reducible rfl
              try simp only [Act.put, List.setIfInBounds_toArray, List.set_cons_zero, List.set_cons_succ]
              refine take_read (i := 11) (v := ?_) (by simp only [List.getElem?_toArray, List.getElem?_cons_succ, List.getElem?_cons_zero]; rfl) (by kernel_rfl) (by kernel_rfl) (by kernel_rfl) (fun _ _ _ h => h) hHeld ?_ ?_
              rotate_left
              · intro w hSw
                go_simp
                try with_reducible rfl
              try simp only [Act.put, List.setIfInBounds_toArray, List.set_cons_zero, List.set_cons_succ]
              refine take_read (i := 12) (v := ?_) (by simp only [List.getElem?_toArray, List.getElem?_cons_succ, List.getElem?_cons_zero]; rfl) (by kernel_rfl) (by kernel_rfl) (by kernel_rfl) (fun _ _ _ h => h) hHeld ?_ ?_
              rotate_left
              · intro w hSw
                go_simp
                try with_reducible rfl
              try simp only [Act.put, List.setIfInBounds_toArray, List.set_cons_zero, List.set_cons_succ]
              refine take_read (i := 13) (v := ?_) (by simp only [List.getElem?_toArray, List.getElem?_cons_succ, List.getElem?_cons_zero]; rfl) (by kernel_rfl) (by kernel_rfl) (by kernel_rfl) (fun _ _ _ h => h) hHeld ?_ ?_
              rotate_left
              · intro w hSw
                have s8 := hSw.cell s8 hsm
                go_simp
                try with_reducible rfl
              try simp only [Act.put, List.setIfInBounds_toArray, List.set_cons_zero, List.set_cons_succ]
              refine take_read (i := 14) (v := ?_) (by simp only [List.getElem?_toArray, List.getElem?_cons_succ, List.getElem?_cons_zero]; rfl) (by kernel_rfl) (by kernel_rfl) (by kernel_rfl) (fun _ _ _ h => h) hHeld ?_ ?_
              rotate_left
              · intro w hSw
                go_simp
                try with_reducible rfl
              try simp only [Act.put, List.setIfInBounds_toArray, List.set_cons_zero, List.set_cons_succ]
              refine wpAnyH_ready (rs := [15]) (by kernel_rfl) (by simp) ?_
              refine AllReadyH.cons rfl (fun K hK => ?_) AllReadyH.nil
              go_simp
              refine (HMP.out _ (P5.out.frame ((Chg.refl [] W5).drew)) (B5.out.pure ((Chg.refl [] W5).drew)) hsz5).mono ?_
              rintro e W6 ⟨rfl, s1, p6, b6, c6, l6, n6⟩
              have A6 : Hid (Chg [p, B0] W5 W6) := Lib.hid (((Chg.refl [] W5).drew).add.same c6)
              have P6 := Lib.hid p6
              have B6 := Lib.hid b6
              have L6 := Lib.hid l6
              have N6 := Lib.hid n6
              clear p6 b6 l6 n6
              clear c6
              refine hK.out _ _ A6.out (fun hHeld2 => ?_)
              clear hK hHeld K
              have hHeld := hHeld2
              clear hHeld2
              try (unfold Act.put; simp only [List.setIfInBounds_toArray, List.set_cons_zero, List.set_cons_succ])
              refine wpAnyH_done (by kernel_rfl) ?_ _
              refine NoPanic.normal ?_
              clear hHeld
              have C6 : Hid (Chg [] W2 W6) := Lib.hid (C5.out.trans A6.out (fun i hm hi => absurd hm (nm2 (Nat.lt_of_lt_of_le hi hB2) HpB1.out)))
              have y7 := A6.out.cell y7 hgm
              have hsz6 : B0 ≤ W6.heap.size := Nat.le_trans hsz5 A6.out.size
              have hgs : g ∉ s1.v.ownBlock.toList := by
                rcases L6.out with e | ⟨j, e, hj⟩
                · rw [e]
                  show g ∉ [B0]
                  simp
                  exact Nat.ne_of_lt hgB
                · rw [e]
                  have h5 : W5.drew.heap.size = W5.heap.size := rfl
                  simp
                  omega
              have hlo : ∀ k, s1.v.ownBlock = some k → W2.heap.size ≤ k := fun k hk => Nat.le_trans hB2 (B6.out.lt k hk).1
              clear x4 s8 y0 A6 P5 B5 C5 L6 PB BB0 CB BIB RB R6 A5 HA0 hsz5 hgm hbm hsm HMP
              go_wp2_with ((with_reducible refine Lay.ldL Tryz.tImg m (((BI2.out.frame C6.out).in)) ?_ ?_); exact rfl; refine Hid.out ?_)
              refine Lib.hid ?_
              go_wp2_with fail
              refine (HRU.out g cap _ (HRD.out.frame (C2.out.then C6.out)) ((FB2.out.pure C6.out).rd)).mono ?_
              rintro e W7 ⟨rfl, h7⟩
              have C7 := Lib.hid (C6.out.then h7)
              have P7 := Lib.hid (P6.out.frame h7)
              have B7 := Lib.hid (B6.out.pure h7)
              replace y7 := h7.cell y7 (by simp)
              have hsz7 : B0 ≤ W7.heap.size := Nat.le_trans hsz6 h7.size
              have x7 := svL.c P7.out
              clear h7 P6 B6 C6 hsz6
              have Q : Hid ([Value.int .u8 82] = byteL.vals [82]) := Lib.hid (rfl)
              go_wp2_with (at_builtin; refine Lay.app (L := byteL) Tryz.infoByte rfl _ _ rfl B0 s1.v [17, 33, 0] rfl (B7.out.pure ((Chg.refl _ _).alloc _)) _ rfl [82] (Lay.Rd.of_heap (heap_alloc_eq _ _) Q.out rfl (show 1 ≤ maxLen by decide)) (by decide) (by decide) (Nat.le_trans hsz7 (by simp)) ?_; intro v8 W8 hov hgv hlc; refine Hid.out ?_)
              refine Lib.hid ?_
              have A8 : Hid (Chg s1.v.ownBlock.toList W7 W8) := Lib.hid (((Chg.refl _ _).alloc _).trans (Lay.chg_grown hgv) (fun i hi _ => hi))
              have P8 := Lib.hid (P7.out.frameS A8.out N6.out)
              have C8 : Hid (Chg [] W2 W8) := Lib.hid (C7.out.trans A8.out (fun i hm hi => by have := hlo i (by simpa using hm); omega))
              replace y7 := A8.out.cell y7 hgs
              have hp8 : p ∉ v8.ownBlock.toList := by
                have hpl := P7.out.lt
                rcases hlc with e | e
                · rw [e]; exact N6.out
                · rw [e]; simp; omega
              obtain ⟨s2, rfl⟩ := BB_shape hov
              have B8 := Lib.hid hov
              clear hov
              clear hgv hlc x7
              have x8 := svL.c P8.out
              have z8 := P8.out.frozen 0
              have BN : Hid (BB (W8.setCell ⟨p, 0, none⟩ (.slice s2.a s2.n s2.cap)) B0 s2.v [17, 33, 0, 82]) := Lib.hid (B8.out.frame (S := [p]) ((Chg.refl _ _).setCell _ _ (.inl (by simp))) (fun k hk hm => by simp at hm; exact hp8 (by rw [hk, hm]; simp)))
              have CN : Hid (Chg [] W2 (W8.setCell ⟨p, 0, none⟩ (.slice s2.a s2.n s2.cap))) := Lib.hid (C8.out.setCell _ _ (.inr (by show W2.heap.size ≤ p; have := HpB1.out; omega)))
              unfold SlV.v
              by_cases hcap : cap = 2
              · subst hcap
                go_wp2
                go_roundw
                case rel => exact .inr ⟨_, _, s2, rfl, svL.set P8.out s2, BN.out, hp8, CN.out⟩
                case measure => show 0 < 2; decide
              · go_wp2
                go_roundw
                case rel => exact .inr ⟨_, _, s2, rfl, svL.set P8.out s2, BN.out, hp8, CN.out⟩
                case measure => show 0 < 2; decide
            · have P9 := Lib.hid h1
              have B9 := Lib.hid h2
              have C9 := Lib.hid h4
              clear h1 h2 h4
              have x9 := svL.c P9.out
              have Q : Hid ([Value.int .u8 0] = byteL.vals [0]) := Lib.hid (rfl)
              have hsz9 : B0 ≤ wr.heap.size := by have := P9.out.lt; have := HpB1.out; omega
              go_wp2_with (at_builtin; refine Lay.app (L := byteL) Tryz.infoByte rfl _ _ rfl B0 so.v [17, 33, 0, 82] rfl (B9.out.pure ((Chg.refl _ _).alloc _)) _ rfl [0] (Lay.Rd.of_heap (heap_alloc_eq _ _) Q.out rfl (show 1 ≤ maxLen by decide)) (by decide) (by decide) (Nat.le_trans hsz9 (by simp)) ?_; intro v8 W8 hov hgv hlc; refine Hid.out ?_)
              refine Lib.hid ?_
              have A8 : Hid (Chg so.v.ownBlock.toList wr W8) := Lib.hid (((Chg.refl _ _).alloc _).trans (Lay.chg_grown hgv) (fun i hi _ => hi))
              have C8 : Hid (Chg [] W2 W8) := Lib.hid (C9.out.trans A8.out (fun i hm hi => by have := (B9.out.lt i (by simpa using hm)).1; omega))
              obtain ⟨s2, rfl⟩ := BB_shape hov
              have BF : Hid (BB W8 w.heap.size s2.v kB) := Lib.hid (Lay.Buf.mono hov (Nat.le_trans C2.out.size hB2))
              clear hov hgv hlc
              unfold SlV.v
              go_wp2
              go_ret2
              exact ⟨s2, rfl, BF.out, C2.out.then C8.out⟩
end Go.Proofs.YtaipelkegemoeaaGreatDoor
/- fixup.May, of a rebase. -/
namespace Go.Proofs.YtaipelkegemoeaaGreatDoor
open Go.RowKit
set_option maxRecDepth 100000

/-- May a rebase be? -/
def mayR (f : Fx) : Bool := decide (f = ⟨f.at_, 1, f.tgt, 0, ⟨#[]⟩, 0, false⟩)
set_option maxHeartbeats 4000000 in
theorem MayR_any (f : Fx) (h1 : f.kind = 1) (w : World) : Calls Tryz.prog 15 #[fxl.val f] w fun e w' => e = .returned (.bool (mayR f)) ∧ Chg [] w w' := by
  unfold mayR
  have heq : ∀ W : World, (binOp .eql 46 (.agg (fxl.f f).toArray) (.agg #[.int .u64 f.at_, .int .i64 1, .int .u64 f.tgt, .int .i64 0, .string ⟨#[]⟩, .int .i64 0, .bool false])).run Tryz.prog W = .ok (.bool (decide (f = ⟨f.at_, 1, f.tgt, 0, ⟨#[]⟩, 0, false⟩))) W := fun W => fx_eql f ⟨f.at_, 1, f.tgt, 0, ⟨#[]⟩, 0, false⟩ W
  generalize decide (f = ⟨f.at_, 1, f.tgt, 0, ⟨#[]⟩, 0, false⟩) = q at *
  go_enter Tryz.func15, Tryz.ntmps15
  go_wp2_with ((with_reducible refine Lay.bxL (L := fxl) 46 f ?_ ?_); exact rfl; intro W1 bx ebx cbx xbx; replace ebx := Lib.hid ebx; replace cbx := Lib.hid cbx; replace xbx := Lib.hid xbx; refine Hid.out ?_)
  refine Lib.hid ?_
  have x0 : W1.cell? ⟨bx, 0, none⟩ = some (.int .u64 f.at_) := by have := xbx.out.in 0 (by decide); rw [Nat.zero_add] at this; exact this
  have x1 : W1.cell? ⟨bx, 1, none⟩ = some (.int .i64 f.kind) := by have := xbx.out.in 1 (by decide); rw [Nat.zero_add] at this; exact this
  have x2 : W1.cell? ⟨bx, 2, none⟩ = some (.int .u64 f.tgt) := by have := xbx.out.in 2 (by decide); rw [Nat.zero_add] at this; exact this
  rw [h1] at x1
  go_wp2_with ((with_reducible refine Lay.ldL Tryz.tFx f (xbx.out.in) ?_ ?_); exact rfl; refine Hid.out ?_)
  refine Lib.hid ?_
  go_wp2
  go_ret
  exact ⟨rfl, cbx.out⟩
end Go.Proofs.YtaipelkegemoeaaGreatDoor
