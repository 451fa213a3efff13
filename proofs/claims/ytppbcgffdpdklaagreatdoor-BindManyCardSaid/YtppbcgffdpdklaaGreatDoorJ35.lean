/- Lemmas, laid together: part 35 of 39. Conditions: none but each lemma's own. -/
import Derived.Test.YtppbcgffdpdklaaGreatDoorJ34
import Derived.Test.YtppbcgffdpdklaaGreatDoorJ13
import Derived.Test.YtppbcgffdpdklaaGreatDoorJ25
import Derived.Test.YtppbcgffdpdklaaGreatDoorJ22
/- bind.may, of the chapter's bind. -/
namespace Go.Proofs.YtppbcgffdpdklaaGreatDoor
open Go.RowKit
set_option maxRecDepth 100000

theorem May_d (w : World) : Calls Tryz.prog 38 #[fxl.val fD3] w fun e w' => e = .returned (.bool true) ∧ Chg [] w w' := by
  show Calls Tryz.prog 38 #[.agg #[.int .u64 4096, .int .i64 2, .int .u64 0, .int .i64 1, .string ⟨#[95, 97]⟩, .int .i64 0, .bool false]] w _
  have hc : Hid (Calls Tryz.prog 56 #[.string ⟨#[95, 97]⟩, .string ⟨#[0]⟩] (w.alloc (.cells #[.int .u64 4096, .int .i64 2, .int .u64 0, .int .i64 1, .string ⟨#[95, 97]⟩, .int .i64 0, .bool false] 43)) fun e w' => e = .returned (.bool false) ∧ w' = (w.alloc (.cells #[.int .u64 4096, .int .i64 2, .int .u64 0, .int .i64 1, .string ⟨#[95, 97]⟩, .int .i64 0, .bool false] 43))) := by
    refine Lib.hid ((Tryz.strings_Contains_one _ 0 _).mono fun e w' ⟨he, hw⟩ => ⟨?_, hw⟩)
    rw [he]
    have : decide (0 ≤ Lib.indexByte [95, 97] 0) = false := by decide
    exact congrArg (fun b => Ending.returned (.bool b)) this
  go_enter Tryz.func38, Tryz.ntmps38
  go_wp2_with fail
  refine (hc.out).mono ?_
  rintro e w' ⟨rfl, rfl⟩
  go_wp2
  go_ret
  exact ⟨rfl, (Chg.refl _ _).alloc _⟩
theorem d14_set : setF d14l = d14l := rfl
theorem d14_meet : meetF d14l = false := by
  rw [← adj_meet, d14_set]
  rfl
set_option maxHeartbeats 4000000 in
theorem may_d (m : Img) (d : Nat) (hm : m.deps.n = d) (hd1 : d = 1) (g cap : Nat) (w : World) (rd : segL.Rd w m.segs.v tw4) (hl : FxRd w (.slice (some ⟨g, 0, none⟩) 1 cap) d14l) :
    Calls Tryz.prog 15 #[imgL.val m, .int .i64 1, .slice (some ⟨g, 0, none⟩) 1 cap] w fun e w' => e = .returned (.int .i64 0) ∧ Chg [] w w' := by
  have HME := Lib.hid (fun w rd => FMeet_any d14l (.slice (some ⟨g, 0, none⟩) 1 cap) w rd (by decide) (by decide))
  rw [d14_meet] at HME
  have HWR : Hid (∀ w, segL.Rd w m.segs.v tw4 → Calls Tryz.prog 39 #[imgL.val m, .int .u64 4096, .int .u64 8] w fun e w' => e = .returned (.bool true) ∧ Chg [] w w') := by
    refine Lib.hid ?_
    intro w rd
    have := Writable_any m tw4 tw4B (4096 : Int) 8 (by decide) w rd
    rw [show writS tw4 4096 8 = true from tw4_w 4096 (by decide) (by decide)] at this
    exact this
  have HMA := Lib.hid (May_d)
  have hI : fxl.In w g 0 fD3 := by
    obtain ⟨b, off, e, _, h⟩ := (fx_toL hl).at (by decide)
    cases e
    have := h 0 (by decide)
    rwa [Nat.zero_mul, Nat.zero_add] at this
  have HRD := Lib.hid rd
  have Hl := Lib.hid hl
  have HI := Lib.hid hI
  clear rd hl hI
  go_enter Tryz.func15, Tryz.ntmps15
  go_wp2_with ((with_reducible refine Lay.bxL (L := imgL) 33 m ?_ ?_); exact rfl; intro W1 bi ebi cbi xbi; replace ebi := Lib.hid ebi; replace cbi := Lib.hid cbi; replace xbi := Lib.hid xbi; refine Hid.out ?_)
  refine Lib.hid ?_
  have I1 := Lib.hid (HI.out.frame cbi.out)
  go_wp2_with fail
  refine (HME.out _ (Hl.out.frame cbi.out)).mono ?_
  rintro e W2 ⟨rfl, h2⟩
  have C2 : Hid (Chg [] W1 W2) := Lib.hid (h2)
  clear h2
  go_wp2_with fail
  go_loopw [25] (fun s25 wr => ∃ k : Nat, k ≤ 1 ∧ s25 = .int .i64 (k : Int) ∧ Chg [] W1 wr) (fun s25 _ => 1 - (intOf s25).toNat)
  case atStart => exact ⟨0, by decide, rfl, C2.out⟩
  case round =>
    obtain ⟨k, hk, rfl, hc⟩ := hrel
    have CW := Lib.hid hc
    clear hc
    by_cases hlt : k < 1
    · obtain rfl : k = 0 := by omega
      go_wp2_with ((with_reducible refine Lay.ldL Tryz.tFx fD3 ((I1.out.frame CW.out)) ?_ ?_); exact rfl; refine Hid.out ?_)
      refine Lib.hid ?_
      go_wp2_with ((with_reducible refine Lay.alL Tryz.tFx ?_); intro W3 bx ebx cbx xbx; replace ebx := Lib.hid ebx; replace cbx := Lib.hid cbx; replace xbx := Lib.hid xbx; refine Hid.out ?_)
      refine Lib.hid ?_
      go_wp2_with ((with_reducible refine Lay.stL Tryz.tFx fD3 (xbx.out) ?_ ?_ ?_); exact rfl; exact rfl; intro W4 cW4 xW4; replace cW4 := Lib.hid cW4; replace xW4 := Lib.hid xW4; refine Hid.out ?_)
      refine Lib.hid ?_
      have f1 : W4.cell? ⟨bx, 1, none⟩ = some (.int .i64 2) := by
        have := xW4.out.in 1 (by decide)
        rw [Nat.zero_add] at this
        rw [this]
        rfl
      have C4 : Hid (Chg [] W1 W4) := Lib.hid (CW.out.then (cbx.out.new cW4.out (by rw [ebx.out]; exact Nat.le_refl _)))
      go_wp2_with ((with_reducible refine Lay.ldG2 Tryz.tFx fD3 (xW4.out.in) ?_ ?_ ?_); exact rfl; exact rfl; refine Hid.out ?_)
      refine Lib.hid ?_
      go_wp2_with fail
      refine (HMA.out _).mono ?_
      rintro e W5 ⟨rfl, h5⟩
      have C5 := Lib.hid (C4.out.then h5)
      clear h5
      go_wp2
      go_roundw
      case rel => exact ⟨1, by decide, rfl, C5.out⟩
      case measure => simp [intOf]
    · obtain rfl : k = 1 := by omega
      rw [show ((1 : Nat) : Int) = 1 from rfl]
      go_wp2_with fail
      go_loopw [49] (fun s49 wr => ∃ k : Nat, k ≤ 1 ∧ s49 = .int .i64 (k : Int) ∧ Chg [] W1 wr) (fun s49 _ => 1 - (intOf s49).toNat)
      case atStart => exact ⟨0, by decide, rfl, CW.out⟩
      case round =>
        clear hlt hk CW
        obtain ⟨k, hk, rfl, hc⟩ := hrel
        have CW := Lib.hid hc
        clear hc
        by_cases hlt : k < 1
        · obtain rfl : k = 0 := by omega
          go_wp2_with ((with_reducible refine Lay.ldL Tryz.tFx fD3 ((I1.out.frame CW.out)) ?_ ?_); exact rfl; refine Hid.out ?_)
          refine Lib.hid ?_
          go_wp2_with ((with_reducible refine Lay.alL Tryz.tFx ?_); intro W3 bx ebx cbx xbx; replace ebx := Lib.hid ebx; replace cbx := Lib.hid cbx; replace xbx := Lib.hid xbx; refine Hid.out ?_)
          refine Lib.hid ?_
          go_wp2_with ((with_reducible refine Lay.stL Tryz.tFx fD3 (xbx.out) ?_ ?_ ?_); exact rfl; exact rfl; intro W4 cW4 xW4; replace cW4 := Lib.hid cW4; replace xW4 := Lib.hid xW4; refine Hid.out ?_)
          refine Lib.hid ?_
          have f3 : W4.cell? ⟨bx, 3, none⟩ = some (.int .i64 1) := by
            have := xW4.out.in 3 (by decide)
            rw [Nat.zero_add] at this
            rw [this]
            rfl
          have C4 : Hid (Chg [] W1 W4) := Lib.hid (CW.out.then (cbx.out.new cW4.out (by rw [ebx.out]; exact Nat.le_refl _)))
          have x5 := Img.c_deps (xbi.out.frame C4.out)
          rw [hm, hd1] at x5
          go_wp2
          go_roundw
          case rel => exact ⟨1, by decide, rfl, C4.out⟩
          case measure => simp [intOf]
        · obtain rfl : k = 1 := by omega
          rw [show ((1 : Nat) : Int) = 1 from rfl]
          go_wp2_with fail
          go_loopw [65] (fun s65 wr => ∃ k : Nat, k ≤ 1 ∧ s65 = .int .i64 (k : Int) ∧ Chg [] W1 wr) (fun s65 _ => 1 - (intOf s65).toNat)
          case atStart => exact ⟨0, by decide, rfl, CW.out⟩
          case round =>
            clear hlt hk CW
            obtain ⟨k, hk, rfl, hc⟩ := hrel
            have CW := Lib.hid hc
            clear hc
            by_cases hlt : k < 1
            · obtain rfl : k = 0 := by omega
              go_wp2_with ((with_reducible refine Lay.ldL Tryz.tFx fD3 ((I1.out.frame CW.out)) ?_ ?_); exact rfl; refine Hid.out ?_)
              refine Lib.hid ?_
              go_wp2_with ((with_reducible refine Lay.alL Tryz.tFx ?_); intro W3 bx ebx cbx xbx; replace ebx := Lib.hid ebx; replace cbx := Lib.hid cbx; replace xbx := Lib.hid xbx; refine Hid.out ?_)
              refine Lib.hid ?_
              go_wp2_with ((with_reducible refine Lay.stL Tryz.tFx fD3 (xbx.out) ?_ ?_ ?_); exact rfl; exact rfl; intro W4 cW4 xW4; replace cW4 := Lib.hid cW4; replace xW4 := Lib.hid xW4; refine Hid.out ?_)
              refine Lib.hid ?_
              have f0 : W4.cell? ⟨bx, 0, none⟩ = some (.int .u64 4096) := by
                have := xW4.out.in 0 (by decide)
                rw [Nat.zero_add] at this
                rw [this]
                rfl
              have C4 : Hid (Chg [] W1 W4) := Lib.hid (CW.out.then (cbx.out.new cW4.out (by rw [ebx.out]; exact Nat.le_refl _)))
              go_wp2_with ((with_reducible refine Lay.ldL Tryz.tImg m (((xbi.out.frame C4.out).in)) ?_ ?_); exact rfl; refine Hid.out ?_)
              refine Lib.hid ?_
              go_wp2_with fail
              refine (HWR.out _ (HRD.out.frame (cbi.out.then C4.out))).mono ?_
              rintro e W5 ⟨rfl, h5⟩
              have C5 := Lib.hid (C4.out.then h5)
              clear h5
              go_wp2
              go_roundw
              case rel => exact ⟨1, by decide, rfl, C5.out⟩
              case measure => simp [intOf]
            · obtain rfl : k = 1 := by omega
              go_wp2
              go_ret
              exact ⟨rfl, cbi.out.then CW.out⟩
end Go.Proofs.YtppbcgffdpdklaaGreatDoor
/- Steps of a drawn region on rows of bytes: a slice of one built, a row and a string appended. -/
namespace Go.Proofs.YtppbcgffdpdklaaGreatDoor
open Go.RowKit
set_option maxRecDepth 100000

theorem armBsV {P : Program} {T E : TypeId} {o : Oper} {a : Act} {w : World} {K : Act → World → Prop} {Q : Exit → Act → World → Prop} {tm : Nat → Option Bool} (hgd : o.guard = none) (s : Operand) (ho : o.op = .buildSlice T 1 #[(0, s)]) (v : Value)
    (hr : ∀ w, (Instr.buildSlice T 1 #[(0, v)]).run P w = .ok (.slice (some ⟨w.heap.size, 0, none⟩) 1 1) (w.alloc (.cells #[v] E))) (hs : a.eval s = v)
    (h : K (a.put o.dst (.slice (some ⟨w.heap.size, 0, none⟩) 1 1)) (w.alloc (.cells #[v] E))) : if Region.wanted o tm = true then Oper.wp P o a w K Q else K (a.put o.dst undef) w := by
  rw [if_pos (by simp [Region.wanted, hgd])]
  have hrw := hr w
  unfold Oper.wp execOp
  simp only [ho, List.map_toArray, List.map_cons, List.map_nil, hs, Sem.run_bind, hrw, Result.andThen_ok, Sem.run_pure]
  exact h
theorem bs_u8 (x : Int) (w : World) : (Instr.buildSlice 35 1 #[(0, .int .u8 x)]).run Tryz.prog w = .ok (.slice (some ⟨w.heap.size, 0, none⟩) 1 1) (w.alloc (.cells #[.int .u8 x] 5)) := by
  go_simp
theorem run_app_str (w : World) (ty : TypeId) (base : Nat) (v : Value) (l : List UInt8) (hown : BB w base v l) (s : ByteArray) (hle : l.length + s.size ≤ 140737488355328) (hbase : base ≤ w.heap.size) :
    ∃ v' w', (Builtin.append_ #[35, 9] ty #[v, .string s]).run Tryz.prog w = .ok v' w' ∧ BB w' base v' (l ++ s.data.toList) ∧ w.grownBy w' v.ownBlock ∧ (v'.ownBlock = v.ownBlock ∨ v'.ownBlock = some w.heap.size) := by
  obtain ⟨i, z, hi, hz, hz1, hz2, hz3⟩ := Tryz.infoByte.i
  replace hz1 : i.size = 1 := hz1
  have hz' : i.zero = some (.int .u8 0) := by
    have e : (Tryz.prog.info? 5).map (fun i => i.zero) = some (some (.int .u8 0)) := by kernel_rfl
    rw [hi] at e
    simpa using e
  have hy := hown
  unfold BB Lay.Buf at hy
  have hm : l.length + s.size ≤ maxLen := by unfold maxLen; omega
  obtain ⟨v', w', hr, h2, h3, _⟩ := Lib.run_append_own_string (P := Tryz.prog) w base 35 9 ty 5 i Tryz.infoByte.u Tryz.uStr hi hz' hz1 hz2 v l.length (byteL.vals l) hy s hm hle hbase
  have h4 : BB w' base v' (l ++ s.data.toList) := by
    unfold BB Lay.Buf
    rw [Lay.vals_append, List.length_append, str_len, ← str_vals]
    exact h2
  have h5 : v'.ownBlock = v.ownBlock ∨ v'.ownBlock = some w.heap.size := by
    rcases hy.2 with ⟨rfl, h0⟩ | ⟨g, cap, cur, rfl, hbg, hg, hnc, hcm, hcs, htake⟩
    · by_cases hm0 : s.size = 0
      · have hb := h2.2
        rcases hb with ⟨rfl, _⟩ | ⟨g, cap, cur, rfl, _, _, _, _, _, _⟩
        · exact .inl rfl
        · exfalso
          have hf := Lib.run_firstCells_string (P := Tryz.prog) w 1 s
          have hn : Lib.strCells s = [] := List.eq_nil_of_length_eq_zero (by rw [Lib.strCells_length]; exact hm0)
          rw [hm0, hn] at hf
          simp [Builtin.append_, run_underlying Tryz.infoByte.u, run_underlying Tryz.uStr, sizeOf, typeInfo, hi, hz1, Builtin.lenOf, hm0, hf] at hr
      · have hq := run_append_nil_string (P := Tryz.prog) w 35 9 ty 5 i (.int .u8 0) Tryz.infoByte.u Tryz.uStr hi hz' s (by omega) (by omega) (by rw [hz2]; omega)
        rw [hq] at hr
        cases hr
        exact .inr rfl
    · by_cases hroom : l.length + s.size ≤ cap
      · have hcs' : cur.size = cap := by rw [show byteL.n = 1 from rfl, Nat.mul_one] at hcs; exact hcs
        have hq := Lib.run_append_room_string (P := Tryz.prog) w 35 9 ty 5 i Tryz.infoByte.u Tryz.uStr hi hz1 g l.length cap cur hg s hroom (by omega)
        rw [hq] at hr
        cases hr
        exact .inl rfl
      · have hxl : (byteL.vals l).length = l.length := by rw [Lay.vals_len]; exact Nat.mul_one _
        have holds : ∀ j u, (byteL.vals l)[j]? = some u → w.cell? ((⟨g, 0, none⟩ : Addr).add j) = some u := hy.cells (g := g) rfl
        have hq := Lib.run_append_grow_string (P := Tryz.prog) w 35 9 ty 5 i (.int .u8 0) Tryz.infoByte.u Tryz.uStr hi hz' ⟨g, 0, none⟩ l.length cap (byteL.vals l) (by rw [hz1, Nat.mul_one]; exact hxl) holds s (by omega) (by omega) (by rw [hz2]; exact growslice_fits (by omega) (by omega))
        rw [hq] at hr
        cases hr
        exact .inr rfl
  exact ⟨v', w', hr, h4, h3, h5⟩
theorem armStr {o : Oper} {a : Act} {w : World} {K : Act → World → Prop} {Q : Exit → Act → World → Prop} {tm : Nat → Option Bool} (hgd : o.guard = none) (sl x : Operand) (ho : o.op = .call { callee := .builtin .append, args := #[sl, x], argTypes := #[35, 9] })
    (base : Nat) (v : Value) (l : List UInt8) (hs : a.eval sl = v) (hown : BB w base v l) (s : ByteArray) (hx : a.eval x = .string s) (hle : l.length + s.size ≤ 140737488355328) (hbase : base ≤ w.heap.size)
    (h : ∀ v' w', BB w' base v' (l ++ s.data.toList) → w.grownBy w' v.ownBlock → (v'.ownBlock = v.ownBlock ∨ v'.ownBlock = some w.heap.size) → K (a.put o.dst v') w') : if Region.wanted o tm = true then Oper.wp Tryz.prog o a w K Q else K (a.put o.dst undef) w := by
  rw [if_pos (by simp [Region.wanted, hgd])]
  obtain ⟨v', w', hr, h1, h2, h3⟩ := run_app_str w o.type base v l hown s hle hbase
  unfold Oper.wp execOp
  simp only [ho, resolve, invoke, builtin, Sem.run_bind, Sem.run_pure, Result.andThen_ok, List.map_toArray, List.map_cons, List.map_nil, hs, hx, hr]
  exact h _ _ h1 h2 h3
/-- A slice of one byte, beside a row that it does not share. -/
def Bit (g c : Nat) (x : UInt8) (v : Value) (w : World) : Prop := byteL.Rd w (.slice (some ⟨g, 0, none⟩) 1 c) [x] ∧ g < w.heap.size ∧ v.ownBlock ≠ some g
/-- A row of the call's own, ahead of which nothing is written. -/
structure Row (w0 : World) (base : Nat) (v : Value) (l : List UInt8) (w : World) : Prop where
  bb : BB w base v l
  sz : base ≤ w.heap.size
  lo : w0.heap.size ≤ base
  cg : Chg [] w0 w
theorem Row.pure {w0 w w' : World} {base : Nat} {v : Value} {l : List UInt8} (h : Row w0 base v l w) (k : Chg [] w w') : Row w0 base v l w' := ⟨h.bb.pure k, Nat.le_trans h.sz k.size, h.lo, h.cg.then k⟩
theorem Bit.pure {g c : Nat} {x : UInt8} {v : Value} {w w' : World} (h : Bit g c x v w) (k : Chg [] w w') : Bit g c x v w' := ⟨h.1.frame k, Nat.lt_of_lt_of_le h.2.1 k.size, h.2.2⟩
theorem Bit.new {w0 w : World} {base : Nat} {v : Value} {l : List UInt8} (h : Row w0 base v l w) (x : UInt8) (z : Int) (hz : z = (x.toNat : Int)) : Bit w.heap.size 1 x v (w.alloc (.cells #[.int .u8 z] 5)) := by
  subst hz
  refine ⟨Lay.Rd.of_heap (ls := [x]) (heap_alloc_eq _ _) rfl rfl (show 1 ≤ maxLen by decide), by simp, fun e => ?_⟩
  have := (h.bb.lt _ e).2
  omega
theorem Row.grown {w0 w w' : World} {base : Nat} {v v' : Value} {l l' : List UInt8} (h : Row w0 base v l w) (hb : BB w' base v' l') (hg : w.grownBy w' v.ownBlock) : Row w0 base v' l' w' := by
  have k := Lay.chg_grown hg
  refine ⟨hb, Nat.le_trans h.sz k.size, h.lo, h.cg.trans k (fun i hi hw => ?_)⟩
  have := (h.bb.lt i (by simpa using hi)).1
  have := h.lo
  omega
theorem Bit.grown {g c : Nat} {x : UInt8} {v v' : Value} {w w' : World} (h : Bit g c x v w) (hg : w.grownBy w' v.ownBlock) (hl : v'.ownBlock = v.ownBlock ∨ v'.ownBlock = some w.heap.size) : Bit g c x v' w' := by
  have k := Lay.chg_grown hg
  refine ⟨h.1.frameS k (fun b hb hm => ?_), Nat.lt_of_lt_of_le h.2.1 k.size, fun e => ?_⟩
  · cases hb
    exact h.2.2 (by simpa using hm)
  · rcases hl with e2 | e2
    · exact h.2.2 (e2.symm.trans e)
    · rw [e2] at e
      have := h.2.1
      simp at e
      omega
section
variable {o : Oper} {a : Act} {w w0 : World} {K : Act → World → Prop} {Q : Exit → Act → World → Prop} {tm : Nat → Option Bool} {base : Nat} {v : Value} {l : List UInt8}
theorem armBit (hgd : o.guard = none) (s : Operand) (ho : o.op = .buildSlice 35 1 #[(0, s)]) (x : UInt8) (z : Int) (hz : z = (x.toNat : Int)) (hs : a.eval s = .int .u8 z) (hr : Row w0 base v l w)
    (h : ∀ w' g, Row w0 base v l w' → Bit g 1 x v w' → Chg [] w w' → K (a.put o.dst (.slice (some ⟨g, 0, none⟩) 1 1)) w') : if Region.wanted o tm = true then Oper.wp Tryz.prog o a w K Q else K (a.put o.dst undef) w :=
  armBsV hgd s ho (.int .u8 z) (bs_u8 z) hs (h _ _ (hr.pure ((Chg.refl [] w).alloc _)) (Bit.new hr x z hz) ((Chg.refl [] w).alloc _))
theorem armAppB (hgd : o.guard = none) (s x : Operand) (ho : o.op = .call { callee := .builtin .append, args := #[s, x], argTypes := #[35, 35] }) (hs : a.eval s = v) (hr : Row w0 base v l w) {g c : Nat} {y : UInt8} (hb : Bit g c y v w) (hx : a.eval x = .slice (some ⟨g, 0, none⟩) 1 c) (hl : l.length ≤ 1000)
    (h : ∀ v' w', Row w0 base v' (l ++ [y]) w' → (∀ g' c' y', Bit g' c' y' v w → Bit g' c' y' v' w') → K (a.put o.dst v') w') : if Region.wanted o tm = true then Oper.wp Tryz.prog o a w K Q else K (a.put o.dst undef) w :=
  Lay.armApp (L := byteL) Tryz.infoByte hgd s x ho base v l hs hr.bb ⟨g, 0, none⟩ 1 c hx [y] hb.1 (by simp; omega) (by simp; omega) hr.sz (fun v' w' h1 h2 h3 => h v' w' (hr.grown h1 h2) (fun _ _ _ hb' => hb'.grown h2 h3))
theorem armAppS (hgd : o.guard = none) (s x : Operand) (ho : o.op = .call { callee := .builtin .append, args := #[s, x], argTypes := #[35, 9] }) (hs : a.eval s = v) (hr : Row w0 base v l w) (t : ByteArray) (hx : a.eval x = .string t) (hl : l.length ≤ 1000) (ht : t.size ≤ 1000)
    (h : ∀ v' w', Row w0 base v' (l ++ t.data.toList) w' → (∀ g' c' y', Bit g' c' y' v w → Bit g' c' y' v' w') → K (a.put o.dst v') w') : if Region.wanted o tm = true then Oper.wp Tryz.prog o a w K Q else K (a.put o.dst undef) w :=
  armStr hgd s x ho base v l hs hr.bb t hx (by omega) hr.sz (fun v' w' h1 h2 h3 => h v' w' (hr.grown h1 h2) (fun _ _ _ hb' => hb'.grown h2 h3))
end
end Go.Proofs.YtppbcgffdpdklaaGreatDoor
