/- chain.Make of no starts, at an image of three segments. -/
import Derived.Test.YtpnldfinobnpoaaGreatDoorNamed
namespace Go.Proofs.YtpnldfinobnpoaaGreatDoor
open Go.RowKit
set_option maxRecDepth 100000

/-- May imports be laid in a format? -/
def okM (d : Nat) (fm : Int) (l : List Imp) : Bool := (decide (fm = 1) || decide (fm = 2) || decide (fm = 3)) && decide (l.length ≤ 4096) && l.all (okI d fm)
/-- A head's seven words. -/
def hdW (fm : Int) (l : List Imp) : List Nat := [0, 28, 48, 48 + (nmAll fm l).out.length, l.length, fm.toNat, 0]
def hdB (ws : List Nat) : List UInt8 := ws.flatMap fun n => leB n 4
/-- A head's bytes. -/
def mkB (fm : Int) (l : List Imp) : List UInt8 := hdB (hdW fm l) ++ (laid0 3 ++ List.replicate 4 0) ++ (nmAll fm l).out ++ (nmAll fm l).ns
def i64L : Lay Int := ⟨1, fun b => [.int .i64 b], 0, fun _ => rfl, by decide, fun x u hu => by
  simp only [List.mem_singleton] at hu
  subst hu
  rfl⟩
def MkPost (ok : Bool) (base : Nat) (l : List UInt8) (e : Ending) (w : World) : Prop := match ok with
  | true => ∃ v, e = .returned (.tuple #[v, .int .i64 0]) ∧ BB w base v l
  | false => e = .returned (.tuple #[.slice none 0 0, .int .i64 2])
theorem MkPost.bad {ok : Bool} (h : ok = false) {base : Nat} {l : List UInt8} {w : World} : MkPost ok base l (.returned (.tuple #[.slice none 0 0, .int .i64 2])) w := by subst h; rfl
theorem hdB_snoc (ws : List Nat) (n : Nat) : hdB (ws ++ [n]) = hdB ws ++ leB n 4 := by simp [hdB]
theorem hdB_len (ws : List Nat) : (hdB ws).length = 4 * ws.length := by
  induction ws with
  | nil => rfl
  | cons a r ih =>
    have : hdB (a :: r) = leB a 4 ++ hdB r := rfl
    rw [this, List.length_append, ih, leB_len, List.length_cons]
    omega
theorem rdF_no {fm : Int} (h : ¬ (fm = 1 ∨ fm = 2 ∨ fm = 3)) (w : (Lit.int .i64 fm).wf = true) : (rdF (IntKind.u64.wrap fm)).getD .nilFunc = .nilFunc := by
  have b := bounds_i64 w
  have e1 : IntKind.u64.wrap fm ≠ 1 := by rw [IntKind.wrap_u64]; omega
  have e2 : IntKind.u64.wrap fm ≠ 2 := by rw [IntKind.wrap_u64]; omega
  have e3 : IntKind.u64.wrap fm ≠ 3 := by rw [IntKind.wrap_u64]; omega
  simp [rdF, Map.put, e1, e2, e3]
theorem rdF_yes {fm : Int} (h : fm = 1 ∨ fm = 2 ∨ fm = 3) : ∃ f, (rdF (IntKind.u64.wrap fm)).getD .nilFunc = .func f #[] #[] := by
  rcases h with rfl | rfl | rfl
  · exact ⟨.func 70, by simp [rdF, Map.put, IntKind.wrap_u64]⟩
  · exact ⟨.func 71, by simp [rdF, Map.put, IntKind.wrap_u64]⟩
  · exact ⟨.func 72, by simp [rdF, Map.put, IntKind.wrap_u64]⟩
set_option maxHeartbeats 1000000 in
theorem cmake_any (c : Chn) (hst : c.starts.n = 0) (l : List Imp) (hs : ∀ x ∈ l, x.sym.size ≤ 300) (m : Img) (hn : m.segs.n = 3) (fm : Int) (wf : (Lit.int .i64 fm).wf = true) (w : World) (rd : impL.Rd w c.imps.v l) :
    Calls Tryz.prog 20 #[chnL.val c, imgL.val m, .int .i64 fm] w fun e w' => MkPost (okM m.deps.n fm l) w.heap.size (mkB fm l) e w' ∧ Chg [] w w' := by
  obtain ⟨a, cap, he, hc1, hc2⟩ := rd.shape
  have q1 := fun W => (Lay.run_eql_func (P := Tryz.prog) Tryz.underlying87 W).1
  have q2 := fun W => (Lay.run_eql_func (P := Tryz.prog) Tryz.underlying87 W).2.1
  by_cases h1 : fm = 1 ∨ fm = 2 ∨ fm = 3
  case neg =>
    have HOK : Hid (okM m.deps.n fm l = false) := by
      refine Lib.hid ?_
      have : ¬ (fm = 1) ∧ ¬ (fm = 2) ∧ ¬ (fm = 3) := by omega
      simp [okM, this]
    have HNO := Lib.hid (rdF_no h1 wf)
    have Rd := Lib.hid rd
    have He := Lib.hid he
    have H1 := Lib.hid h1
    clear rd he h1
    clear wf
    go_enter Tryz.func20, Tryz.ntmps20
    go_wp2_with ((with_reducible refine Lay.bxL (L := chnL) 51 c ?_ ?_); exact rfl; intro W1 bc ebc cbc xbc; replace ebc := Lib.hid ebc; replace cbc := Lib.hid cbc; replace xbc := Lib.hid xbc; refine Hid.out ?_)
    refine Lib.hid ?_
    go_wp2_with ((with_reducible refine Lay.bxL (L := imgL) 30 m ?_ ?_); exact rfl; intro W2 bm ebm cbm xbm; replace ebm := Lib.hid ebm; replace cbm := Lib.hid cbm; replace xbm := Lib.hid xbm; refine Hid.out ?_)
    refine Lib.hid ?_
    go_wp2_with fail
    refine (readers_any _).mono ?_
    rintro e W3 ⟨br, rfl, hm3, hc3⟩
    have Hm3 := Lib.hid hm3
    have Hc3 := Lib.hid hc3
    clear hm3 hc3
    go_wp2_with ((with_reducible refine getV Tryz.tRdC Hm3.out (IntKind.u64.wrap fm) .nilFunc HNO.out ?_ ?_ ?_); exact rfl; exact rfl; refine Hid.out ?_)
    refine Lib.hid ?_
    go_wp2
    go_ret2
    exact ⟨MkPost.bad HOK.out, (cbc.out.then cbm.out).then Hc3.out⟩
  obtain ⟨fv, hfv⟩ := rdF_yes h1
  have e1 : (decide (fm = 1) || decide (fm = 2) || decide (fm = 3)) = true := by simp; omega
  by_cases h2 : l.length ≤ 4096
  case neg =>
    have HOK : Hid (okM m.deps.n fm l = false) := Lib.hid (by simp only [okM, e1]; simp [h2])
    have d2 : decide ((4096 : Int) < l.length) = true := by simp; omega
    have Rd := Lib.hid rd
    have H1 := Lib.hid h1
    have E1 := Lib.hid e1
    have H2 := Lib.hid h2
    have Hfv := Lib.hid hfv
    clear rd h1 e1 h2 hfv
    clear wf
    have x1 : c.imps.v = .slice a l.length cap := he
    go_enter Tryz.func20, Tryz.ntmps20
    go_wp2_with ((with_reducible refine Lay.bxL (L := chnL) 51 c ?_ ?_); exact rfl; intro W1 bc ebc cbc xbc; replace ebc := Lib.hid ebc; replace cbc := Lib.hid cbc; replace xbc := Lib.hid xbc; refine Hid.out ?_)
    refine Lib.hid ?_
    go_wp2_with ((with_reducible refine Lay.bxL (L := imgL) 30 m ?_ ?_); exact rfl; intro W2 bm ebm cbm xbm; replace ebm := Lib.hid ebm; replace cbm := Lib.hid cbm; replace xbm := Lib.hid xbm; refine Hid.out ?_)
    refine Lib.hid ?_
    go_wp2_with fail
    refine (readers_any _).mono ?_
    rintro e W3 ⟨br, rfl, hm3, hc3⟩
    have Hm3 := Lib.hid hm3
    have Hc3 := Lib.hid hc3
    clear hm3 hc3
    have XC := Lib.hid ((xbc.out.frame cbm.out).frame Hc3.out)
    have XM := Lib.hid (xbm.out.frame Hc3.out)
    have y0 := Chn.c_starts XC.out
    have y1 := Chn.c_imps XC.out
    rw [hst] at y0
    rw [show Value.slice c.imps.a c.imps.n c.imps.cap = .slice a l.length cap from he] at y1
    go_wp2_with ((with_reducible refine getV Tryz.tRdC Hm3.out (IntKind.u64.wrap fm) (.func fv #[] #[]) Hfv.out ?_ ?_ ?_); exact rfl; exact rfl; refine Hid.out ?_)
    refine Lib.hid ?_
    go_wp2
    go_ret2
    exact ⟨MkPost.bad HOK.out, (cbc.out.then cbm.out).then Hc3.out⟩
  have d2 : decide ((4096 : Int) < l.length) = false := by simp; omega
  cases hall : l.all (okI m.deps.n fm) with
  | false =>
    have HOK : Hid (okM m.deps.n fm l = false) := Lib.hid (by simp only [okM, hall]; simp)
    have HNM : Hid (∀ W, impL.Rd W c.imps.v l → Calls Tryz.prog 62 #[.slice a l.length cap, imgL.val m, .int .i64 fm] W fun e w' => e = .returned (.tuple #[.slice none 0 0, .slice none 0 0, .bool false]) ∧ Chg [] W w') := Lib.hid (fun W r => by have := named_any l h2 hs c.imps.v m fm W r; rw [hall, he] at this; exact this)
    have Rd := Lib.hid rd
    have H1 := Lib.hid h1
    have E1 := Lib.hid e1
    have H2 := Lib.hid h2
    have Hfv := Lib.hid hfv
    have Hall := Lib.hid hall
    clear rd h1 e1 h2 hfv hall
    clear wf
    have x1 : c.imps.v = .slice a l.length cap := he
    go_enter Tryz.func20, Tryz.ntmps20
    go_wp2_with ((with_reducible refine Lay.bxL (L := chnL) 51 c ?_ ?_); exact rfl; intro W1 bc ebc cbc xbc; replace ebc := Lib.hid ebc; replace cbc := Lib.hid cbc; replace xbc := Lib.hid xbc; refine Hid.out ?_)
    refine Lib.hid ?_
    go_wp2_with ((with_reducible refine Lay.bxL (L := imgL) 30 m ?_ ?_); exact rfl; intro W2 bm ebm cbm xbm; replace ebm := Lib.hid ebm; replace cbm := Lib.hid cbm; replace xbm := Lib.hid xbm; refine Hid.out ?_)
    refine Lib.hid ?_
    go_wp2_with fail
    refine (readers_any _).mono ?_
    rintro e W3 ⟨br, rfl, hm3, hc3⟩
    have Hm3 := Lib.hid hm3
    have Hc3 := Lib.hid hc3
    clear hm3 hc3
    have XC := Lib.hid ((xbc.out.frame cbm.out).frame Hc3.out)
    have XM := Lib.hid (xbm.out.frame Hc3.out)
    have y0 := Chn.c_starts XC.out
    have y1 := Chn.c_imps XC.out
    rw [hst] at y0
    rw [show Value.slice c.imps.a c.imps.n c.imps.cap = .slice a l.length cap from he] at y1
    go_wp2_with ((with_reducible refine getV Tryz.tRdC Hm3.out (IntKind.u64.wrap fm) (.func fv #[] #[]) Hfv.out ?_ ?_ ?_); exact rfl; exact rfl; refine Hid.out ?_)
    refine Lib.hid ?_
    go_wp2_with ((with_reducible refine ldG Tryz.tImg m (XM.out.in) ?_ ?_ ?_); exact rfl; exact rfl; refine Hid.out ?_)
    refine Lib.hid ?_
    go_wp2_with fail
    refine (may_nil c.starts.a c.starts.cap m _).mono ?_
    rintro e W4 ⟨rfl, hc4⟩
    have C4 := Lib.hid (Hc3.out.then hc4)
    have XM4 := Lib.hid (XM.out.frame hc4)
    have XC4 := Lib.hid (XC.out.frame hc4)
    clear hc4 XM XC
    clear y0 y1
    have y0 := Chn.c_starts XC4.out
    have y1 := Chn.c_imps XC4.out
    rw [hst] at y0
    rw [show Value.slice c.imps.a c.imps.n c.imps.cap = .slice a l.length cap from he] at y1
    go_wp2_with ((with_reducible refine Lay.ldL Tryz.tImg m (XM4.out.in) ?_ ?_); exact rfl; refine Hid.out ?_)
    refine Lib.hid ?_
    go_wp2_with fail
    refine (HNM.out _ (((Rd.out.frame cbc.out).frame cbm.out).frame C4.out)).mono ?_
    rintro e W5 ⟨rfl, hc5⟩
    have C5 := Lib.hid (C4.out.then hc5)
    clear hc5
    go_wp2
    go_ret2
    exact ⟨MkPost.bad HOK.out, (cbc.out.then cbm.out).then C5.out⟩
  | true =>
    have HOK : Hid (okM m.deps.n fm l = true) := Lib.hid (by simp only [okM, e1, hall]; simp [h2])
    have HNM : Hid (∀ W, impL.Rd W c.imps.v l → Calls Tryz.prog 62 #[.slice a l.length cap, imgL.val m, .int .i64 fm] W fun e w' => (∃ v1 v2, e = .returned (.tuple #[v1, v2, .bool true]) ∧ BB w' W.heap.size v1 (nmAll fm l).out ∧ BB w' W.heap.size v2 (nmAll fm l).ns) ∧ Chg [] W w') := Lib.hid (fun W r => by have := named_any l h2 hs c.imps.v m fm W r; rw [hall, he] at this; exact this)
    have hfit := nmAll_fit fm l hs l.length (Nat.le_refl _)
    rw [List.take_length] at hfit
    have ho := hfit.out
    have hns := hfit.ns
    have hfm : 1 ≤ fm ∧ fm ≤ 3 := by omega
    have Rd := Lib.hid rd
    have H1 := Lib.hid h1
    have E1 := Lib.hid e1
    have Hfv := Lib.hid hfv
    have Hall := Lib.hid hall
    have Hfit := Lib.hid hfit
    have Hfm := Lib.hid hfm
    clear rd h1 e1 hfv hall hfit hfm
    clear wf
    have x1 : c.imps.v = .slice a l.length cap := he
    go_enter Tryz.func20, Tryz.ntmps20
    go_wp2_with ((with_reducible refine Lay.bxL (L := chnL) 51 c ?_ ?_); exact rfl; intro W1 bc ebc cbc xbc; replace ebc := Lib.hid ebc; replace cbc := Lib.hid cbc; replace xbc := Lib.hid xbc; refine Hid.out ?_)
    refine Lib.hid ?_
    go_wp2_with ((with_reducible refine Lay.bxL (L := imgL) 30 m ?_ ?_); exact rfl; intro W2 bm ebm cbm xbm; replace ebm := Lib.hid ebm; replace cbm := Lib.hid cbm; replace xbm := Lib.hid xbm; refine Hid.out ?_)
    refine Lib.hid ?_
    go_wp2_with fail
    refine (readers_any _).mono ?_
    rintro e W3 ⟨br, rfl, hm3, hc3⟩
    have Hm3 := Lib.hid hm3
    have Hc3 := Lib.hid hc3
    clear hm3 hc3
    have XC := Lib.hid ((xbc.out.frame cbm.out).frame Hc3.out)
    have XM := Lib.hid (xbm.out.frame Hc3.out)
    have y0 := Chn.c_starts XC.out
    have y1 := Chn.c_imps XC.out
    rw [hst] at y0
    rw [show Value.slice c.imps.a c.imps.n c.imps.cap = .slice a l.length cap from he] at y1
    go_wp2_with ((with_reducible refine getV Tryz.tRdC Hm3.out (IntKind.u64.wrap fm) (.func fv #[] #[]) Hfv.out ?_ ?_ ?_); exact rfl; exact rfl; refine Hid.out ?_)
    refine Lib.hid ?_
    go_wp2_with ((with_reducible refine ldG Tryz.tImg m (XM.out.in) ?_ ?_ ?_); exact rfl; exact rfl; refine Hid.out ?_)
    refine Lib.hid ?_
    go_wp2_with fail
    refine (may_nil c.starts.a c.starts.cap m _).mono ?_
    rintro e W4 ⟨rfl, hc4⟩
    have C4 := Lib.hid (Hc3.out.then hc4)
    have XM4 := Lib.hid (XM.out.frame hc4)
    have XC4 := Lib.hid (XC.out.frame hc4)
    clear hc4 XM XC
    clear y0 y1
    have y0 := Chn.c_starts XC4.out
    have y1 := Chn.c_imps XC4.out
    rw [hst] at y0
    rw [show Value.slice c.imps.a c.imps.n c.imps.cap = .slice a l.length cap from he] at y1
    go_wp2_with ((with_reducible refine Lay.ldL Tryz.tImg m (XM4.out.in) ?_ ?_); exact rfl; refine Hid.out ?_)
    refine Lib.hid ?_
    go_wp2_with fail
    refine (HNM.out _ (((Rd.out.frame cbc.out).frame cbm.out).frame C4.out)).mono ?_
    rintro e W5 ⟨⟨v1, v2, rfl, hb1, hb2⟩, hc5⟩
    obtain ⟨a1, c1, rfl, hl1, hm1⟩ := hb1.rd.shape
    have C5 := Lib.hid (C4.out.then hc5)
    have B1 := Lib.hid (hb1)
    have B2 := Lib.hid (hb2)
    have XC5 := Lib.hid (XC4.out.frame hc5)
    have XM5 := Lib.hid (XM4.out.frame hc5)
    clear hb1 hb2 hc5 XC4 XM4
    clear y0 y1
    have y0 := Chn.c_starts XC5.out
    have y1 := Chn.c_imps XC5.out
    rw [hst] at y0
    rw [show Value.slice c.imps.a c.imps.n c.imps.cap = .slice a l.length cap from he] at y1
    go_wp2_with ((with_reducible refine Lay.ldL Tryz.tImg m (XM5.out.in) ?_ ?_); exact rfl; refine Hid.out ?_)
    refine Lib.hid ?_
    go_wp2_with fail
    refine (laid_nil c.starts.a c.starts.cap m 3 (by decide) hn _).mono ?_
    rintro e W6 ⟨vb, rfl, hbb, hc6⟩
    have BB6 := Lib.hid (hbb)
    have D6 := Lib.hid (hc6)
    clear hbb hc6 XM5 y0 y1
    go_wp2_with fail
    go_loopw [11] (fun s11 wr => ∃ j : Nat, j ≤ 4 ∧ BB wr W5.heap.size s11 (laid0 3 ++ List.replicate j 0) ∧ Chg [] W5 wr) (fun s11 _ => match s11 with | .slice _ n _ => 20 - n | _ => 0)
    case atStart => exact ⟨0, Nat.zero_le _, by simpa using BB6.out, D6.out⟩
    case round =>
      obtain ⟨j, hj, hu, hch⟩ := hrel
      have hj5 : j = 0 ∨ j = 1 ∨ j = 2 ∨ j = 3 ∨ j = 4 := by omega
      rcases hj5 with rfl | rfl | rfl | rfl | rfl
      · obtain ⟨a8, c8, rfl, hl8, hm8⟩ := hu.rd.shape
        have hle : (laid0 3 ++ List.replicate 0 (0 : UInt8)).length = 16 := rfl
        rw [hle] at hl8 hu
        replace hu : BB wr W5.heap.size (.slice a8 16 c8) (laid0 3 ++ List.replicate 0 0) := hu
        rw [hle]
        have Hu := Lib.hid hu
        have Hch := Lib.hid hch
        clear hu hch
        go_wp2_with (at_builtin; refine Lay.app (L := byteL) Tryz.infoByte rfl _ _ rfl W5.heap.size (.slice a8 16 c8) (laid0 3 ++ List.replicate 0 0) rfl (Hu.out.pure ((Chg.refl _ _).alloc _)) _ rfl [0] (Lay.Rd.of_heap (heap_alloc_eq _ _) rfl rfl (show 1 ≤ maxLen by decide)) (by rw [hle]; decide) (by rw [hle]; decide) (Nat.le_trans Hch.out.size (by simp)) ?_; intro vb wb hov hgv hlc; refine Hid.out ?_)
        refine Lib.hid ?_
        have C7 : Hid (Chg [] W5 wb) := Lib.hid ((Hch.out.alloc (.cells #[.int .u8 0] 5)).trans (Lay.chg_grown hgv) (fun i hi hw => by have := (Hu.out.lt i (by simpa using hi)).1; omega))
        have B7 : Hid (BB wb W5.heap.size vb (laid0 3 ++ List.replicate 1 0)) := Lib.hid (hov)
        clear hov hgv hlc
        go_wp2
        go_roundw
        case rel => exact ⟨1, by decide, B7.out, C7.out⟩
        case measure =>
          obtain ⟨a9, c9, rfl, _, _⟩ := B7.out.rd.shape
          show 20 - (laid0 3 ++ List.replicate 1 (0 : UInt8)).length < 20 - 16
          decide
      · obtain ⟨a8, c8, rfl, hl8, hm8⟩ := hu.rd.shape
        have hle : (laid0 3 ++ List.replicate 1 (0 : UInt8)).length = 17 := rfl
        rw [hle] at hl8 hu
        replace hu : BB wr W5.heap.size (.slice a8 17 c8) (laid0 3 ++ List.replicate 1 0) := hu
        rw [hle]
        have Hu := Lib.hid hu
        have Hch := Lib.hid hch
        clear hu hch
        go_wp2_with (at_builtin; refine Lay.app (L := byteL) Tryz.infoByte rfl _ _ rfl W5.heap.size (.slice a8 17 c8) (laid0 3 ++ List.replicate 1 0) rfl (Hu.out.pure ((Chg.refl _ _).alloc _)) _ rfl [0] (Lay.Rd.of_heap (heap_alloc_eq _ _) rfl rfl (show 1 ≤ maxLen by decide)) (by rw [hle]; decide) (by rw [hle]; decide) (Nat.le_trans Hch.out.size (by simp)) ?_; intro vb wb hov hgv hlc; refine Hid.out ?_)
        refine Lib.hid ?_
        have C7 : Hid (Chg [] W5 wb) := Lib.hid ((Hch.out.alloc (.cells #[.int .u8 0] 5)).trans (Lay.chg_grown hgv) (fun i hi hw => by have := (Hu.out.lt i (by simpa using hi)).1; omega))
        have B7 : Hid (BB wb W5.heap.size vb (laid0 3 ++ List.replicate 2 0)) := Lib.hid (hov)
        clear hov hgv hlc
        go_wp2
        go_roundw
        case rel => exact ⟨2, by decide, B7.out, C7.out⟩
        case measure =>
          obtain ⟨a9, c9, rfl, _, _⟩ := B7.out.rd.shape
          show 20 - (laid0 3 ++ List.replicate 2 (0 : UInt8)).length < 20 - 17
          decide
      · obtain ⟨a8, c8, rfl, hl8, hm8⟩ := hu.rd.shape
        have hle : (laid0 3 ++ List.replicate 2 (0 : UInt8)).length = 18 := rfl
        rw [hle] at hl8 hu
        replace hu : BB wr W5.heap.size (.slice a8 18 c8) (laid0 3 ++ List.replicate 2 0) := hu
        rw [hle]
        have Hu := Lib.hid hu
        have Hch := Lib.hid hch
        clear hu hch
        go_wp2_with (at_builtin; refine Lay.app (L := byteL) Tryz.infoByte rfl _ _ rfl W5.heap.size (.slice a8 18 c8) (laid0 3 ++ List.replicate 2 0) rfl (Hu.out.pure ((Chg.refl _ _).alloc _)) _ rfl [0] (Lay.Rd.of_heap (heap_alloc_eq _ _) rfl rfl (show 1 ≤ maxLen by decide)) (by rw [hle]; decide) (by rw [hle]; decide) (Nat.le_trans Hch.out.size (by simp)) ?_; intro vb wb hov hgv hlc; refine Hid.out ?_)
        refine Lib.hid ?_
        have C7 : Hid (Chg [] W5 wb) := Lib.hid ((Hch.out.alloc (.cells #[.int .u8 0] 5)).trans (Lay.chg_grown hgv) (fun i hi hw => by have := (Hu.out.lt i (by simpa using hi)).1; omega))
        have B7 : Hid (BB wb W5.heap.size vb (laid0 3 ++ List.replicate 3 0)) := Lib.hid (hov)
        clear hov hgv hlc
        go_wp2
        go_roundw
        case rel => exact ⟨3, by decide, B7.out, C7.out⟩
        case measure =>
          obtain ⟨a9, c9, rfl, _, _⟩ := B7.out.rd.shape
          show 20 - (laid0 3 ++ List.replicate 3 (0 : UInt8)).length < 20 - 18
          decide
      · obtain ⟨a8, c8, rfl, hl8, hm8⟩ := hu.rd.shape
        have hle : (laid0 3 ++ List.replicate 3 (0 : UInt8)).length = 19 := rfl
        rw [hle] at hl8 hu
        replace hu : BB wr W5.heap.size (.slice a8 19 c8) (laid0 3 ++ List.replicate 3 0) := hu
        rw [hle]
        have Hu := Lib.hid hu
        have Hch := Lib.hid hch
        clear hu hch
        go_wp2_with (at_builtin; refine Lay.app (L := byteL) Tryz.infoByte rfl _ _ rfl W5.heap.size (.slice a8 19 c8) (laid0 3 ++ List.replicate 3 0) rfl (Hu.out.pure ((Chg.refl _ _).alloc _)) _ rfl [0] (Lay.Rd.of_heap (heap_alloc_eq _ _) rfl rfl (show 1 ≤ maxLen by decide)) (by rw [hle]; decide) (by rw [hle]; decide) (Nat.le_trans Hch.out.size (by simp)) ?_; intro vb wb hov hgv hlc; refine Hid.out ?_)
        refine Lib.hid ?_
        have C7 : Hid (Chg [] W5 wb) := Lib.hid ((Hch.out.alloc (.cells #[.int .u8 0] 5)).trans (Lay.chg_grown hgv) (fun i hi hw => by have := (Hu.out.lt i (by simpa using hi)).1; omega))
        have B7 : Hid (BB wb W5.heap.size vb (laid0 3 ++ List.replicate 4 0)) := Lib.hid (hov)
        clear hov hgv hlc
        go_wp2
        go_roundw
        case rel => exact ⟨4, by decide, B7.out, C7.out⟩
        case measure =>
          obtain ⟨a9, c9, rfl, _, _⟩ := B7.out.rd.shape
          show 20 - (laid0 3 ++ List.replicate 4 (0 : UInt8)).length < 20 - 19
          decide
      · obtain ⟨W8, rfl⟩ : ∃ x, x = wr := ⟨_, rfl⟩
        obtain ⟨a8, c8, rfl, hl8, hm8⟩ := hu.rd.shape
        rw [show (laid0 3 ++ List.replicate 4 (0 : UInt8)).length = 20 from rfl] at hl8 hu
        replace hu : BB W8 W5.heap.size (.slice a8 20 c8) (laid0 3 ++ List.replicate 4 0) := hu
        rw [show (laid0 3 ++ List.replicate 4 (0 : UInt8)).length = 20 from rfl]
        have XC8 := Lib.hid (XC5.out.frame hch)
        have y1 := Chn.c_imps XC8.out
        rw [show Value.slice c.imps.a c.imps.n c.imps.cap = .slice a l.length cap from he] at y1
        have Hu := Lib.hid hu
        have Hch := Lib.hid hch
        clear hu hch
        go_wp2_with fail
        have HWD : Hid (∀ k, k < 7 → IntKind.u64.wrap (([0, 28, 48, 48 + ((nmAll fm l).out.length : Int), (l.length : Int), fm, 0] : List Int).getD k 0) = (((hdW fm l).getD k 0 : Nat) : Int)) := by
          refine Lib.hid ?_
          intro k hk
          have hk7 : k = 0 ∨ k = 1 ∨ k = 2 ∨ k = 3 ∨ k = 4 ∨ k = 5 ∨ k = 6 := by omega
          have := Hfm.out
          rcases hk7 with rfl | rfl | rfl | rfl | rfl | rfl | rfl <;> simp [hdW, IntKind.wrap_u64] <;> omega
        go_loopw [13, 71] (fun s13 s71 wq => ∃ k : Nat, k ≤ 7 ∧ s71 = .int .i64 (k : Int) ∧ BB wq (W8.heap.size + 1) s13 (hdB ((hdW fm l).take k)) ∧ i64L.Rd wq (.slice (some ⟨W8.heap.size, 0, none⟩) 7 7) [0, 28, 48, 48 + ((nmAll fm l).out.length : Int), (l.length : Int), fm, 0] ∧ Chg [] W8 wq) (fun _ s71 _ => 7 - (intOf s71).toNat)
        case atStart => exact ⟨0, Nat.zero_le _, rfl, Lay.Buf.nil _ _, Lay.Rd.of_heap (heap_alloc_eq _ _) rfl rfl (show 7 ≤ maxLen by decide), (Chg.refl _ _).alloc _⟩
        case round =>
          obtain ⟨k, hk, rfl, hq, hrr, hcq⟩ := hrel
          have hszq : W8.heap.size + 1 ≤ wr.heap.size := by
            obtain ⟨b, off, e0, hb, _⟩ := hrr.at (by simp)
            cases e0
            omega
          by_cases hlt : k < 7
          · obtain ⟨b, off, e0, hb, hcell⟩ := hrr.at (by simp)
            cases e0
            have hI := hcell k hlt 0 (by decide)
            rw [show i64L.n = 1 from rfl, Nat.mul_one, Nat.zero_add, Nat.add_zero] at hI
            have c0 : wr.cell? ⟨W8.heap.size, k, none⟩ = some (.int .i64 (([0, 28, 48, 48 + ((nmAll fm l).out.length : Int), (l.length : Int), fm, 0] : List Int).getD k 0)) := hI
            have hwd := HWD.out k hlt
            have htk : (hdW fm l).take (k + 1) = (hdW fm l).take k ++ [(hdW fm l).getD k 0] := by
              rw [List.take_add_one]
              have : k < (hdW fm l).length := hlt
              simp [List.getD_eq_getElem?_getD, this]
            have hlq : (hdB ((hdW fm l).take k)).length ≤ 28 := by rw [hdB_len, List.length_take]; omega
            generalize ([0, 28, 48, 48 + ((nmAll fm l).out.length : Int), (l.length : Int), fm, 0] : List Int).getD k 0 = z at c0 hwd
            generalize (hdW fm l).getD k 0 = N at hwd htk
            clear hI hcell hb
            have Hq := Lib.hid hq
            have Hrr := Lib.hid hrr
            have Hcq := Lib.hid hcq
            have Hszq := Lib.hid hszq
            have Htk := Lib.hid htk
            have Hlq := Lib.hid hlq
            clear hq hrr hcq hszq htk hlq
            go_wp2_with fail
            refine (put_any _ u13 (W8.heap.size + 1) N 4 (by decide) _ Hq.out (Nat.le_trans Hlq.out (by decide)) Hszq.out).mono ?_
            rintro e W9 ⟨v9, rfl, hb9, hc9, _⟩
            rw [← hdB_snoc, ← Htk.out] at hb9
            have C9 : Hid (Chg [] W8 W9) := Lib.hid (Hcq.out.trans hc9 (fun i hi hw => by have := (Hq.out.lt i (by simpa using hi)).1; omega))
            have R9 := Lib.hid (Hrr.out.frameS hc9 (fun b hb hm => by have := (Hq.out.lt b (by simpa using hm)).1; simp [Value.ownBlock] at hb; omega))
            have Hb9 := Lib.hid hb9
            clear hb9
            clear hc9
            go_wp2
            go_roundw
            case rel => exact ⟨k + 1, hlt, by go_num, Hb9.out, R9.out, C9.out⟩
            case measure => simp [intOf]; omega
          · obtain rfl : k = 7 := by omega
            have hh : hdB ((hdW fm l).take 7) = hdB (hdW fm l) := by rw [List.take_of_length_le (show (hdW fm l).length ≤ 7 from Nat.le_refl _)]
            rw [hh] at hq
            have hl0 : (hdB (hdW fm l)).length = 28 := hdB_len _
            have Hq := Lib.hid hq
            have Hrr := Lib.hid hrr
            have Hcq := Lib.hid hcq
            have Hszq := Lib.hid hszq
            clear hq hrr hcq hszq
            have G1 := Lib.hid (Hu.out.rd.frame Hcq.out)
            go_wp2_with (at_builtin; refine Lay.app (L := byteL) Tryz.infoByte rfl _ _ rfl (W8.heap.size + 1) u13 (hdB (hdW fm l)) rfl Hq.out _ rfl (laid0 3 ++ List.replicate 4 0) G1.out (by rw [hl0]; decide) (by rw [hl0]; decide) Hszq.out ?_; intro va wa hov hgv hlc; refine Hid.out ?_)
            refine Lib.hid ?_
            have CA : Hid (Chg [] W8 wa) := Lib.hid (Hcq.out.trans (Lay.chg_grown hgv) (fun i hi hw => by have := (Hq.out.lt i (by simpa using hi)).1; omega))
            have BA := Lib.hid (hov)
            have SA := Lib.hid (Nat.le_trans Hszq.out hgv.size)
            have hl1 : (hdB (hdW fm l) ++ (laid0 3 ++ List.replicate 4 0)).length = 48 := by rw [List.length_append, hl0]; rfl
            clear hov hgv hlc
            have G2 := Lib.hid ((B1.out.rd.frame Hch.out).frame CA.out)
            go_wp2_with (at_builtin; refine Lay.app (L := byteL) Tryz.infoByte rfl _ _ rfl (W8.heap.size + 1) va (hdB (hdW fm l) ++ (laid0 3 ++ List.replicate 4 0)) rfl BA.out _ rfl (nmAll fm l).out G2.out (by rw [hl1]; omega) (by rw [hl1]; omega) SA.out ?_; intro vc wc hov hgv hlc; refine Hid.out ?_)
            refine Lib.hid ?_
            have CC : Hid (Chg [] W8 wc) := Lib.hid (CA.out.trans (Lay.chg_grown hgv) (fun i hi hw => by have := (BA.out.lt i (by simpa using hi)).1; omega))
            have BC := Lib.hid (hov)
            have SC := Lib.hid (Nat.le_trans SA.out hgv.size)
            have hl2 : (hdB (hdW fm l) ++ (laid0 3 ++ List.replicate 4 0) ++ (nmAll fm l).out).length = 48 + (nmAll fm l).out.length := by rw [List.length_append, hl1]
            clear hov hgv hlc
            have G3 := Lib.hid ((B2.out.rd.frame Hch.out).frame CC.out)
            go_wp2_with (at_builtin; refine Lay.app (L := byteL) Tryz.infoByte rfl _ _ rfl (W8.heap.size + 1) vc (hdB (hdW fm l) ++ (laid0 3 ++ List.replicate 4 0) ++ (nmAll fm l).out) rfl BC.out _ rfl (nmAll fm l).ns G3.out (by rw [hl2]; omega) (by rw [hl2]; omega) SC.out ?_; intro vd wd hov hgv hlc; refine Hid.out ?_)
            refine Lib.hid ?_
            have CD : Hid (Chg [] W8 wd) := Lib.hid (CC.out.trans (Lay.chg_grown hgv) (fun i hi hw => by have := (BC.out.lt i (by simpa using hi)).1; omega))
            have BD := Lib.hid (hov)
            clear hov hgv hlc
            go_wp2
            go_ret2
            rw [HOK.out]
            have CW : Hid (Chg [] w W8) := Lib.hid (((cbc.out.then cbm.out).then C5.out).then Hch.out)
            exact ⟨⟨_, rfl, BD.out.mono (Nat.le_trans CW.out.size (Nat.le_succ _))⟩, CW.out.then CD.out⟩
end Go.Proofs.YtpnldfinobnpoaaGreatDoor
