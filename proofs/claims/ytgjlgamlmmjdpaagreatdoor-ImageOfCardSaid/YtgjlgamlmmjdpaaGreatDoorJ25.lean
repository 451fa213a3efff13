/- Lemmas, laid together: part 25 of 43. Conditions: none but each lemma's own. -/
import Derived.Test.YtgjlgamlmmjdpaaGreatDoorJ5
import Derived.Test.YtgjlgamlmmjdpaaGreatDoorJ24
import Derived.Test.YtgjlgamlmmjdpaaGreatDoorJ16
import Derived.Test.YtgjlgamlmmjdpaaGreatDoorJ15
import Derived.BigQuiet
import Derived.Deep.QuietTactic
/- image.segments. -/
namespace Go.Proofs.YtgjlgamlmmjdpaaGreatDoor
open Go.RowKit
set_option maxRecDepth 100000

/-- May the first segment that is laid be so? -/
def firstB (h : Int) (s : Seg) : Bool := decide (s.off = 0) && (!decide (s.fsize < h) && (!(bits BinOp.and IntKind.i64 s.prot 1 == 0) && !(bits BinOp.and IntKind.i64 s.prot 2 != 0)))
def segsB (n h : Int) (ls : List Seg) : Bool := match idx (fun s => !holeS s) ls with
  | none => false
  | some f => goesB n 0 (fun _ => false) ls && firstB h (ls.getD f .zero)
/-- Why the segments may not be (0: they may). -/
def segsE (n h : Int) (ls : List Seg) : Int := if segsB n h ls = true then 0 else 8
def nmF (N : ByteArray → Bool) : ByteArray → Option Value := fun q => if N q then some (.agg #[.bool true]) else none
theorem nmF_put (N : ByteArray → Bool) (c : ByteArray) : Map.put (nmF N) c (.agg #[.bool true]) = nmF (fun k => if k = c then true else N k) := by
  funext k
  unfold Map.put nmF
  by_cases h : k = c
  · simp [h]
  · simp [h]
theorem nmF_getD (N : ByteArray → Bool) (c : ByteArray) : (nmF N c).getD (.agg #[.bool false]) = .agg #[.bool (N c)] := by
  unfold nmF
  cases h : N c
  · rw [if_neg (by decide)]; rfl
  · rw [if_pos rfl]; rfl
theorem Tryz.tNm : Map.Ty Map.strK Tryz.prog 86 (.agg #[.bool false]) := ⟨9, 88, by kernel_rfl, by kernel_rfl, fun w => by kernel_rfl⟩
theorem nm_field (b : Bool) (w : World) : (Instr.field 88 (.agg #[.bool b]) 0).run Tryz.prog w = .ok (.bool b) w := by
  have hu := Tryz.underlying88
  simp [Instr.field, run_underlying hu, asAgg, part, isAgg, run_underlying Tryz.underlying4]
theorem nm_look {w : World} {b : Nat} {N : ByteArray → Bool} (h : Map.Is Map.strK w b (nmF N)) (c : ByteArray) : (Instr.lookup 86 (.map (some b)) (.string c) false).run Tryz.prog w = .ok (.agg #[.bool (N c)]) w := by
  obtain ⟨kt, et, h1, h2, h3⟩ := Tryz.tNm.m
  have := (Map.run_get h1 h2 (h3 w) h c).1
  rw [nmF_getD] at this
  exact this
/-- The loop's state. -/
structure MsR (Wm : World) (n : Int) (ls : List Seg) (bq : Nat) (k : Nat) (at_ : Int) (N : ByteArray → Bool) (wr : World) : Prop where
  chg : Chg [] Wm wr
  mp : Map.Is Map.strK wr bq (nmF N)
  go : goesB n at_ N (ls.drop k) = goesB n 0 (fun _ => false) ls
theorem goes_cons (n at_ : Int) (N : ByteArray → Bool) (s : Seg) (r : List Seg) : goesB n at_ N (s :: r) = (placeB n s && (!N s.name && (decide (at_ ≤ s.addr) && goesB n (s.addr + s.size) (fun x => if x = s.name then true else N x) r))) := rfl
theorem placeB_end {n : Int} {s : Seg} (h : placeB n s = true) : s.addr + s.size ≤ 140737488355328 := by
  unfold placeB withinI at h
  simp only [Bool.and_eq_true, decide_eq_true_eq] at h
  omega
set_option maxHeartbeats 8000000 in
theorem segments_any (m : Img) (ls : List Seg) (hls : SegsB ls) (n h : Int) (hn : n < 18446744073709551616) (w : World) (rd : segL.Rd w m.segs.v ls) :
    Calls Tryz.prog 17 #[imgL.val m, .int .u64 n, .int .u64 h] w fun e w' => e = .returned (.int .i64 (segsE n h ls)) ∧ Chg [] w w' := by
  have HF := Lib.hid (first_any m ls)
  obtain ⟨a, cap, hv, hc1, hc2⟩ := rd.shape
  have rd' := rd
  rw [hv] at rd'
  have hlen : ls.length ≤ 9223372036854775807 := Nat.le_trans hc1 hc2
  have Rd := Lib.hid rd
  have RD2 := Lib.hid rd'
  have Hc2 := Lib.hid hc2
  have Hlen := Lib.hid hlen
  clear rd rd' hc2 hlen
  clear hc1
  cases hf : idx (fun s => !holeS s) ls with
  | none =>
    have hE : segsE n h ls = 8 := by unfold segsE segsB; rw [hf]; rfl
    rw [hE]
    rw [hf] at HF
    unfold idxI at HF
    have HE := Lib.hid hE
    have Hf := Lib.hid hf
    have Hls := Lib.hid hls
    have Hn := Lib.hid hn
    have Hv := Lib.hid hv
    clear hE hf hls hn hv
    go_enter Tryz.func17, Tryz.ntmps17
    go_wp2_with ((with_reducible refine Lay.bxL (L := imgL) 32 m ?_ ?_); exact rfl; intro W1 bm ebm cbm xbm; replace ebm := Lib.hid ebm; replace cbm := Lib.hid cbm; replace xbm := Lib.hid xbm; refine Hid.out ?_)
    refine Lib.hid ?_
    go_wp2_with ((with_reducible refine Lay.ldL Tryz.tImg m (xbm.out.in) ?_ ?_); exact rfl; refine Hid.out ?_)
    refine Lib.hid ?_
    go_wp2_with fail
    refine (HF.out _ (Rd.out.frame cbm.out)).mono ?_
    rintro e Wf ⟨rfl, hc⟩
    have Cf := Lib.hid (cbm.out.then hc)
    have Xf := Lib.hid (xbm.out.frame hc)
    clear hc
    go_wp2
    go_ret
    exact ⟨rfl, Cf.out⟩
  | some f =>
    have hfl := idx_lt hf
    have hEE : segsE n h ls = if (goesB n 0 (fun _ => false) ls && firstB h (ls.getD f .zero)) = true then 0 else 8 := by unfold segsE segsB; rw [hf]
    obtain ⟨E, hE0⟩ : ∃ E, E = segsE n h ls := ⟨_, rfl⟩
    rw [← hE0] at hEE ⊢
    rw [hf] at HF
    unfold idxI at HF
    have df : ¬ (f : Int) < 0 := by omega
    unfold SlV.v at hv
    have HEE := Lib.hid hEE
    have HE0 := Lib.hid hE0
    have Hf := Lib.hid hf
    have Hls := Lib.hid hls
    have Hn := Lib.hid hn
    clear hEE hE0 hf hls hn
    go_enter Tryz.func17, Tryz.ntmps17
    go_wp2_with ((with_reducible refine Lay.bxL (L := imgL) 32 m ?_ ?_); exact rfl; intro W1 bm ebm cbm xbm; replace ebm := Lib.hid ebm; replace cbm := Lib.hid cbm; replace xbm := Lib.hid xbm; refine Hid.out ?_)
    refine Lib.hid ?_
    go_wp2_with ((with_reducible refine Lay.ldL Tryz.tImg m (xbm.out.in) ?_ ?_); exact rfl; refine Hid.out ?_)
    refine Lib.hid ?_
    go_wp2_with fail
    refine (HF.out _ (Rd.out.frame cbm.out)).mono ?_
    rintro e Wf ⟨rfl, hc⟩
    have Cf := Lib.hid (cbm.out.then hc)
    have Xf := Lib.hid (xbm.out.frame hc)
    clear hc
    go_wp2_with ((with_reducible refine Map.mkL Map.strK 86 ?_); intro Wm bq ebq cbq mbq; replace ebq := Lib.hid ebq; replace cbq := Lib.hid cbq; replace mbq := Lib.hid mbq; refine Hid.out ?_)
    refine Lib.hid ?_
    have x4 := Img.c_segs (Xf.out.frame cbq.out)
    rw [hv] at x4
    have R0 : Hid (MsR Wf n ls bq 0 0 (fun _ => false) Wm) := Lib.hid (⟨cbq.out, mbq.out, rfl⟩)
    go_wp2_with fail
    clear x4
    go_loopw [8, 21] (fun s8 s21 wr => ∃ (k : Nat) (at_ : Int) (N : ByteArray → Bool), k ≤ ls.length ∧ s21 = .int .i64 (k : Int) ∧ s8 = .int .u64 at_ ∧ MsR Wf n ls bq k at_ N wr) (fun _ s21 _ => ls.length - (intOf s21).toNat)
    case atStart => exact ⟨0, 0, _, Nat.zero_le _, rfl, rfl, R0.out⟩
    case round =>
      obtain ⟨k, at_, N, hk, rfl, rfl, hr⟩ := hrel
      have R := Lib.hid (hr)
      clear hr
      by_cases hlt : k < ls.length
      · have dlt : decide ((k : Int) < (ls.length : Int)) = true := decide_eq_true (by omega)
        obtain ⟨g, o, hao, _, hin⟩ := RD2.out.at (by omega)
        have hi := (hin k hlt).frame (Cf.out.then R.out.chg)
        have hgo := R.out.go
        rw [drop_getD ls k Seg.zero hlt] at hgo
        have hsb := Hls.out k hlt
        obtain ⟨s, hs⟩ : ∃ s, s = ls.getD k Seg.zero := ⟨_, rfl⟩
        rw [show ls.getD k segL.d = s from hs.symm] at hi
        rw [← hs] at hgo hsb
        rw [goes_cons] at hgo
        rw [show segL.n = 7 from rfl] at hi
        subst hao
        have hmp := fun w => mayPlace_any s hsb n Hn.out w
        have hend := fun h : placeB n s = true => placeB_end h
        have hd1 : 0 ≤ s.addr := hsb.1.1
        have hd2 : 0 ≤ s.size := hsb.2.1.1
        have Hi := Lib.hid hi
        have Hin := Lib.hid hin
        have Hs := Lib.hid hs
        have Hsb := Lib.hid hsb
        clear hi hin hs hsb
        cases hp : placeB n s with
        | false =>
          rw [hp] at hmp hgo
          rw [Bool.false_and] at hgo
          have HE : Hid (E = 8) := Lib.hid (by rw [HEE.out, ← hgo]; rfl)
          have HMP := Lib.hid hmp
          have Hend := Lib.hid hend
          have Hgo := Lib.hid hgo
          have Hp := Lib.hid hp
          have Hd1 := Lib.hid hd1
          have Hd2 := Lib.hid hd2
          clear hmp hend hgo hp hd1 hd2
          go_wp2_with ((with_reducible refine Lay.ldL Tryz.tSeg s (Hi.out) ?_ ?_); exact rfl; refine Hid.out ?_)
          refine Lib.hid ?_
          go_wp2_with ((with_reducible refine Lay.alL Tryz.tSeg ?_); intro Wa bx ebx cbx xbx; replace ebx := Lib.hid ebx; replace cbx := Lib.hid cbx; replace xbx := Lib.hid xbx; refine Hid.out ?_)
          refine Lib.hid ?_
          go_wp2_with ((with_reducible refine Lay.stL Tryz.tSeg s (xbx.out) ?_ ?_ ?_); exact rfl; exact rfl; intro Wb cWb xWb; replace cWb := Lib.hid cWb; replace xWb := Lib.hid xWb; refine Hid.out ?_)
          refine Lib.hid ?_
          go_wp2_with ((with_reducible refine Lay.ldL Tryz.tSeg s (xWb.out.in) ?_ ?_); exact rfl; refine Hid.out ?_)
          refine Lib.hid ?_
          go_wp2_with fail
          refine (HMP.out Wb).mono ?_
          rintro e Wc ⟨rfl, hch⟩
          have X4 := Lib.hid (xWb.out.frame hch)
          have K4 : Hid (Chg [] wr Wc) := Lib.hid ((cbx.out.new cWb.out (by rw [ebx.out]; exact Nat.le_refl _)).then hch)
          clear hch
          have y0 := Seg.c_name X4.out
          have y1 := Seg.c_addr X4.out
          have y2 := Seg.c_size X4.out
          go_wp2
          go_ret
          exact ⟨congrArg (fun z => Ending.returned (.int .i64 z)) HE.out.symm, Cf.out.then (R.out.chg.then K4.out)⟩
        | true =>
          have he := hend hp
          have hw : IntKind.u64.wrap (s.addr + s.size) = s.addr + s.size := by rw [IntKind.wrap_u64]; omega
          rw [hp] at hmp hgo
          rw [Bool.true_and] at hgo
          have hlk := fun W (hW : Chg [] wr W) => nm_look (R.out.mp.frame hW) s.name
          have hfd := nm_field (N s.name)
          cases hnm : N s.name with
          | true =>
            rw [hnm] at hgo hlk hfd
            rw [Bool.not_true, Bool.false_and] at hgo
            have HE : Hid (E = 8) := Lib.hid (by rw [HEE.out, ← hgo]; rfl)
            have HMP := Lib.hid hmp
            have Hend := Lib.hid hend
            have Hgo := Lib.hid hgo
            have Hp := Lib.hid hp
            have Hd1 := Lib.hid hd1
            have Hd2 := Lib.hid hd2
            have He := Lib.hid he
            have Hw := Lib.hid hw
            have Hnm := Lib.hid hnm
            have Hlk := Lib.hid hlk
            clear hmp hend hgo hp hd1 hd2 he hw hnm hlk
            go_wp2_with ((with_reducible refine Lay.ldL Tryz.tSeg s (Hi.out) ?_ ?_); exact rfl; refine Hid.out ?_)
            refine Lib.hid ?_
            go_wp2_with ((with_reducible refine Lay.alL Tryz.tSeg ?_); intro Wa bx ebx cbx xbx; replace ebx := Lib.hid ebx; replace cbx := Lib.hid cbx; replace xbx := Lib.hid xbx; refine Hid.out ?_)
            refine Lib.hid ?_
            go_wp2_with ((with_reducible refine Lay.stL Tryz.tSeg s (xbx.out) ?_ ?_ ?_); exact rfl; exact rfl; intro Wb cWb xWb; replace cWb := Lib.hid cWb; replace xWb := Lib.hid xWb; refine Hid.out ?_)
            refine Lib.hid ?_
            go_wp2_with ((with_reducible refine Lay.ldL Tryz.tSeg s (xWb.out.in) ?_ ?_); exact rfl; refine Hid.out ?_)
            refine Lib.hid ?_
            go_wp2_with fail
            refine (HMP.out Wb).mono ?_
            rintro e Wc ⟨rfl, hch⟩
            have X4 := Lib.hid (xWb.out.frame hch)
            have K4 : Hid (Chg [] wr Wc) := Lib.hid ((cbx.out.new cWb.out (by rw [ebx.out]; exact Nat.le_refl _)).then hch)
            clear hch
            have y0 := Seg.c_name X4.out
            have y1 := Seg.c_addr X4.out
            have y2 := Seg.c_size X4.out
            have hlk := Hlk.out _ K4.out
            go_wp2
            go_ret
            exact ⟨congrArg (fun z => Ending.returned (.int .i64 z)) HE.out.symm, Cf.out.then (R.out.chg.then K4.out)⟩
          | false =>
            rw [hnm] at hgo hlk hfd
            rw [Bool.not_false, Bool.true_and] at hgo
            by_cases hat : at_ ≤ s.addr
            · have dat : decide (s.addr < at_) = false := decide_eq_false (by omega)
              rw [decide_eq_true hat, Bool.true_and] at hgo
              have hw1 : wrap64 ((k : Int) + 1) = (k : Int) + 1 := by have := Hlen.out; unfold wrap64; omega
              have HMP := Lib.hid hmp
              have Hend := Lib.hid hend
              have Hgo := Lib.hid hgo
              have Hp := Lib.hid hp
              have Hd1 := Lib.hid hd1
              have Hd2 := Lib.hid hd2
              have He := Lib.hid he
              have Hw := Lib.hid hw
              have Hnm := Lib.hid hnm
              have Hlk := Lib.hid hlk
              have Hat := Lib.hid hat
              clear hmp hend hgo hp hd1 hd2 he hw hnm hlk hat
              go_wp2_with ((with_reducible refine Lay.ldL Tryz.tSeg s (Hi.out) ?_ ?_); exact rfl; refine Hid.out ?_)
              refine Lib.hid ?_
              go_wp2_with ((with_reducible refine Lay.alL Tryz.tSeg ?_); intro Wa bx ebx cbx xbx; replace ebx := Lib.hid ebx; replace cbx := Lib.hid cbx; replace xbx := Lib.hid xbx; refine Hid.out ?_)
              refine Lib.hid ?_
              go_wp2_with ((with_reducible refine Lay.stL Tryz.tSeg s (xbx.out) ?_ ?_ ?_); exact rfl; exact rfl; intro Wb cWb xWb; replace cWb := Lib.hid cWb; replace xWb := Lib.hid xWb; refine Hid.out ?_)
              refine Lib.hid ?_
              go_wp2_with ((with_reducible refine Lay.ldL Tryz.tSeg s (xWb.out.in) ?_ ?_); exact rfl; refine Hid.out ?_)
              refine Lib.hid ?_
              go_wp2_with fail
              refine (HMP.out Wb).mono ?_
              rintro e Wc ⟨rfl, hch⟩
              have X4 := Lib.hid (xWb.out.frame hch)
              have K4 : Hid (Chg [] wr Wc) := Lib.hid ((cbx.out.new cWb.out (by rw [ebx.out]; exact Nat.le_refl _)).then hch)
              clear hch
              have y0 := Seg.c_name X4.out
              have y1 := Seg.c_addr X4.out
              have y2 := Seg.c_size X4.out
              have hlk := Hlk.out _ K4.out
              have MP4 := Lib.hid (R.out.mp.frame K4.out)
              go_wp2_with ((with_reducible refine Map.setL Tryz.tNm (MP4.out) s.name (.agg #[.bool true]) ?_ ?_ ?_ ?_); exact rfl; exact rfl; exact rfl; intro Wd cWd mWd; replace cWd := Lib.hid cWd; replace mWd := Lib.hid mWd; refine Hid.out ?_)
              refine Lib.hid ?_
              have hm5 := mWd.out
              rw [nmF_put] at hm5
              have hfr : bx ≠ bq := by have := R.out.mp.lt; rw [ebx.out]; omega
              have X5 : segL.Box Wd bx s := X4.out.frameS cWd.out (by simpa using hfr)
              clear y0 y1 y2 hlk
              have y1 := Seg.c_addr X5
              have y2 := Seg.c_size X5
              have hb0 : Wf.heap.size ≤ bq := by rw [ebq.out]; exact Nat.le_refl _
              have R5 : Hid (MsR Wf n ls bq (k + 1) (s.addr + s.size) (fun x => if x = s.name then true else N x) Wd) := Lib.hid (⟨(R.out.chg.then K4.out).new cWd.out hb0, hm5, Hgo.out⟩)
              clear hm5 hfr X5 hb0
              go_wp2
              go_roundw
              case rel => exact ⟨k + 1, _, _, hlt, (congrArg (Value.int .i64) hw1).trans rfl, congrArg (Value.int .u64) Hw.out, R5.out⟩
              case measure =>
                rw [hw1]
                show ls.length - ((k : Int) + 1).toNat < ls.length - (k : Int).toNat
                omega
            · have dat : decide (s.addr < at_) = true := decide_eq_true (by omega)
              rw [decide_eq_false hat, Bool.false_and] at hgo
              have HE : Hid (E = 8) := Lib.hid (by rw [HEE.out, ← hgo]; rfl)
              have HMP := Lib.hid hmp
              have Hend := Lib.hid hend
              have Hgo := Lib.hid hgo
              have Hp := Lib.hid hp
              have Hd1 := Lib.hid hd1
              have Hd2 := Lib.hid hd2
              have He := Lib.hid he
              have Hw := Lib.hid hw
              have Hnm := Lib.hid hnm
              have Hlk := Lib.hid hlk
              have Hat := Lib.hid hat
              clear hmp hend hgo hp hd1 hd2 he hw hnm hlk hat
              go_wp2_with ((with_reducible refine Lay.ldL Tryz.tSeg s (Hi.out) ?_ ?_); exact rfl; refine Hid.out ?_)
              refine Lib.hid ?_
              go_wp2_with ((with_reducible refine Lay.alL Tryz.tSeg ?_); intro Wa bx ebx cbx xbx; replace ebx := Lib.hid ebx; replace cbx := Lib.hid cbx; replace xbx := Lib.hid xbx; refine Hid.out ?_)
              refine Lib.hid ?_
              go_wp2_with ((with_reducible refine Lay.stL Tryz.tSeg s (xbx.out) ?_ ?_ ?_); exact rfl; exact rfl; intro Wb cWb xWb; replace cWb := Lib.hid cWb; replace xWb := Lib.hid xWb; refine Hid.out ?_)
              refine Lib.hid ?_
              go_wp2_with ((with_reducible refine Lay.ldL Tryz.tSeg s (xWb.out.in) ?_ ?_); exact rfl; refine Hid.out ?_)
              refine Lib.hid ?_
              go_wp2_with fail
              refine (HMP.out Wb).mono ?_
              rintro e Wc ⟨rfl, hch⟩
              have X4 := Lib.hid (xWb.out.frame hch)
              have K4 : Hid (Chg [] wr Wc) := Lib.hid ((cbx.out.new cWb.out (by rw [ebx.out]; exact Nat.le_refl _)).then hch)
              clear hch
              have y0 := Seg.c_name X4.out
              have y1 := Seg.c_addr X4.out
              have y2 := Seg.c_size X4.out
              have hlk := Hlk.out _ K4.out
              go_wp2
              go_ret
              exact ⟨congrArg (fun z => Ending.returned (.int .i64 z)) HE.out.symm, Cf.out.then (R.out.chg.then K4.out)⟩
      · obtain rfl : k = ls.length := by omega
        have dlt : decide ((ls.length : Int) < (ls.length : Int)) = false := decide_eq_false (by omega)
        obtain ⟨g, o, hao, _, hin⟩ := RD2.out.at (by omega)
        have hi := (hin f hfl).frame (Cf.out.then R.out.chg)
        have hgo := R.out.go
        rw [List.drop_eq_nil_of_le (Nat.le_refl _)] at hgo
        rw [show goesB n at_ N [] = true from rfl] at hgo
        obtain ⟨s, hs⟩ : ∃ s, s = ls.getD f Seg.zero := ⟨_, rfl⟩
        rw [show ls.getD f segL.d = s from hs.symm] at hi
        rw [show segL.n = 7 from rfl] at hi
        subst hao
        have HE : Hid (E = if firstB h s = true then 0 else 8) := Lib.hid (by rw [HEE.out, ← hgo, hs]; rfl)
        have Hi := Lib.hid hi
        have Hin := Lib.hid hin
        have Hs := Lib.hid hs
        have Hgo := Lib.hid hgo
        clear hi hin hs hgo
        by_cases b1 : s.off = 0
        · have c1 : (s.off != 0) = false := by rw [b1]; rfl
          by_cases b2 : s.fsize < h
          · have c2 : decide (s.fsize < h) = true := decide_eq_true b2
            have HE8 : Hid (E = 8) := Lib.hid (by rw [HE.out]; unfold firstB; simp [b2])
            have x4 := Img.c_segs (Xf.out.frame R.out.chg)
            rw [hv] at x4
            go_wp2_with ((with_reducible refine Lay.ldL Tryz.tSeg s (Hi.out) ?_ ?_); exact rfl; refine Hid.out ?_)
            refine Lib.hid ?_
            go_wp2_with ((with_reducible refine Lay.alL Tryz.tSeg ?_); intro Wa bx ebx cbx xbx; replace ebx := Lib.hid ebx; replace cbx := Lib.hid cbx; replace xbx := Lib.hid xbx; refine Hid.out ?_)
            refine Lib.hid ?_
            go_wp2_with ((with_reducible refine Lay.stL Tryz.tSeg s (xbx.out) ?_ ?_ ?_); exact rfl; exact rfl; intro Wb cWb xWb; replace cWb := Lib.hid cWb; replace xWb := Lib.hid xWb; refine Hid.out ?_)
            refine Lib.hid ?_
            have K4 : Hid (Chg [] wr Wb) := Lib.hid (cbx.out.new cWb.out (by rw [ebx.out]; exact Nat.le_refl _))
            have y3 := Seg.c_off xWb.out
            have y4 := Seg.c_fsize xWb.out
            have y5 := Seg.c_prot xWb.out
            clear x4
            go_wp2
            go_ret
            exact ⟨congrArg (fun z => Ending.returned (.int .i64 z)) HE8.out.symm, Cf.out.then (R.out.chg.then K4.out)⟩
          · have c2 : decide (s.fsize < h) = false := decide_eq_false b2
            cases c3 : (bits BinOp.and IntKind.i64 s.prot 1 == 0) with
            | true =>
              have HE8 : Hid (E = 8) := Lib.hid (by rw [HE.out]; unfold firstB; simp [c3])
              have x4 := Img.c_segs (Xf.out.frame R.out.chg)
              rw [hv] at x4
              go_wp2_with ((with_reducible refine Lay.ldL Tryz.tSeg s (Hi.out) ?_ ?_); exact rfl; refine Hid.out ?_)
              refine Lib.hid ?_
              go_wp2_with ((with_reducible refine Lay.alL Tryz.tSeg ?_); intro Wa bx ebx cbx xbx; replace ebx := Lib.hid ebx; replace cbx := Lib.hid cbx; replace xbx := Lib.hid xbx; refine Hid.out ?_)
              refine Lib.hid ?_
              go_wp2_with ((with_reducible refine Lay.stL Tryz.tSeg s (xbx.out) ?_ ?_ ?_); exact rfl; exact rfl; intro Wb cWb xWb; replace cWb := Lib.hid cWb; replace xWb := Lib.hid xWb; refine Hid.out ?_)
              refine Lib.hid ?_
              have K4 : Hid (Chg [] wr Wb) := Lib.hid (cbx.out.new cWb.out (by rw [ebx.out]; exact Nat.le_refl _))
              have y3 := Seg.c_off xWb.out
              have y4 := Seg.c_fsize xWb.out
              have y5 := Seg.c_prot xWb.out
              clear x4
              go_wp2
              go_ret
              exact ⟨congrArg (fun z => Ending.returned (.int .i64 z)) HE8.out.symm, Cf.out.then (R.out.chg.then K4.out)⟩
            | false =>
              cases c4 : (bits BinOp.and IntKind.i64 s.prot 2 != 0) with
              | true =>
                have HE8 : Hid (E = 8) := Lib.hid (by rw [HE.out]; unfold firstB; rw [c4]; simp)
                have x4 := Img.c_segs (Xf.out.frame R.out.chg)
                rw [hv] at x4
                go_wp2_with ((with_reducible refine Lay.ldL Tryz.tSeg s (Hi.out) ?_ ?_); exact rfl; refine Hid.out ?_)
                refine Lib.hid ?_
                go_wp2_with ((with_reducible refine Lay.alL Tryz.tSeg ?_); intro Wa bx ebx cbx xbx; replace ebx := Lib.hid ebx; replace cbx := Lib.hid cbx; replace xbx := Lib.hid xbx; refine Hid.out ?_)
                refine Lib.hid ?_
                go_wp2_with ((with_reducible refine Lay.stL Tryz.tSeg s (xbx.out) ?_ ?_ ?_); exact rfl; exact rfl; intro Wb cWb xWb; replace cWb := Lib.hid cWb; replace xWb := Lib.hid xWb; refine Hid.out ?_)
                refine Lib.hid ?_
                have K4 : Hid (Chg [] wr Wb) := Lib.hid (cbx.out.new cWb.out (by rw [ebx.out]; exact Nat.le_refl _))
                have y3 := Seg.c_off xWb.out
                have y4 := Seg.c_fsize xWb.out
                have y5 := Seg.c_prot xWb.out
                clear x4
                go_wp2
                go_ret
                exact ⟨congrArg (fun z => Ending.returned (.int .i64 z)) HE8.out.symm, Cf.out.then (R.out.chg.then K4.out)⟩
              | false =>
                have HE8 : Hid (E = 0) := Lib.hid (by rw [HE.out]; unfold firstB; rw [c3, c4, c2, decide_eq_true b1]; rfl)
                have x4 := Img.c_segs (Xf.out.frame R.out.chg)
                rw [hv] at x4
                go_wp2_with ((with_reducible refine Lay.ldL Tryz.tSeg s (Hi.out) ?_ ?_); exact rfl; refine Hid.out ?_)
                refine Lib.hid ?_
                go_wp2_with ((with_reducible refine Lay.alL Tryz.tSeg ?_); intro Wa bx ebx cbx xbx; replace ebx := Lib.hid ebx; replace cbx := Lib.hid cbx; replace xbx := Lib.hid xbx; refine Hid.out ?_)
                refine Lib.hid ?_
                go_wp2_with ((with_reducible refine Lay.stL Tryz.tSeg s (xbx.out) ?_ ?_ ?_); exact rfl; exact rfl; intro Wb cWb xWb; replace cWb := Lib.hid cWb; replace xWb := Lib.hid xWb; refine Hid.out ?_)
                refine Lib.hid ?_
                have K4 : Hid (Chg [] wr Wb) := Lib.hid (cbx.out.new cWb.out (by rw [ebx.out]; exact Nat.le_refl _))
                have y3 := Seg.c_off xWb.out
                have y4 := Seg.c_fsize xWb.out
                have y5 := Seg.c_prot xWb.out
                clear x4
                go_wp2
                go_ret
                exact ⟨congrArg (fun z => Ending.returned (.int .i64 z)) HE8.out.symm, Cf.out.then (R.out.chg.then K4.out)⟩
        · have c1 : (s.off != 0) = true := by rw [bne_iff_ne]; exact b1
          have HE8 : Hid (E = 8) := Lib.hid (by rw [HE.out]; unfold firstB; simp [b1])
          have x4 := Img.c_segs (Xf.out.frame R.out.chg)
          rw [hv] at x4
          go_wp2_with ((with_reducible refine Lay.ldL Tryz.tSeg s (Hi.out) ?_ ?_); exact rfl; refine Hid.out ?_)
          refine Lib.hid ?_
          go_wp2_with ((with_reducible refine Lay.alL Tryz.tSeg ?_); intro Wa bx ebx cbx xbx; replace ebx := Lib.hid ebx; replace cbx := Lib.hid cbx; replace xbx := Lib.hid xbx; refine Hid.out ?_)
          refine Lib.hid ?_
          go_wp2_with ((with_reducible refine Lay.stL Tryz.tSeg s (xbx.out) ?_ ?_ ?_); exact rfl; exact rfl; intro Wb cWb xWb; replace cWb := Lib.hid cWb; replace xWb := Lib.hid xWb; refine Hid.out ?_)
          refine Lib.hid ?_
          have K4 : Hid (Chg [] wr Wb) := Lib.hid (cbx.out.new cWb.out (by rw [ebx.out]; exact Nat.le_refl _))
          have y3 := Seg.c_off xWb.out
          have y4 := Seg.c_fsize xWb.out
          have y5 := Seg.c_prot xWb.out
          clear x4
          go_wp2
          go_ret
          exact ⟨congrArg (fun z => Ending.returned (.int .i64 z)) HE8.out.symm, Cf.out.then (R.out.chg.then K4.out)⟩
end Go.Proofs.YtgjlgamlmmjdpaaGreatDoor
/- The document's Get, at, field, Least, Dep, Cmd (of layer 5). -/
namespace Go.Proofs.YtgjlgamlmmjdpaaGreatDoor
open Go.RowKit
set_option maxRecDepth 100000

theorem leNum_drop (l : List UInt8) (m : Nat) (h : m < l.length) : leNum (l.drop m) = (l.getD m 0).toNat + 256 * leNum (l.drop (m + 1)) := by
  rw [List.drop_eq_getElem_cons h]
  show l[m].toNat + 256 * leNum (l.drop (m + 1)) = _
  simp [List.getD_eq_getElem?_getD, h]
theorem byte_cell {w : World} {b off n cap : Nat} {l : List UInt8} (h : byteL.Rd w (.slice (some ⟨b, off, none⟩) n cap) l) (j : Nat) (hj : j < l.length) : w.cell? ⟨b, off + j, none⟩ = some (.int .u8 (l.getD j 0).toNat) := by
  obtain ⟨_, _, _, e, _, _, _, hx⟩ := h
  cases e
  obtain ⟨b', o', e, _, hc⟩ := hx (by rintro rfl; simp at hj)
  cases e
  have := hc j hj 0 (by decide)
  rw [show byteL.n = 1 from rfl, Nat.mul_one, Nat.add_zero] at this
  rw [this]
  rfl
set_option maxHeartbeats 4000000 in
theorem Get5_any (l : List UInt8) (hl : l.length ≤ 8) (b off cap : Nat) (w : World) (rd : byteL.Rd w (.slice (some ⟨b, off, none⟩) l.length cap) l) :
    Calls Tryz.prog 96 #[.slice (some ⟨b, off, none⟩) l.length cap] w fun e w' => e = .returned (.int .u64 (leNum l)) ∧ w' = w := by
  have Rd := Lib.hid rd
  clear rd
  go_enter Tryz.func96, Tryz.ntmps96
  go_wp2_with fail
  go_loopw [3, 4] (fun s3 s4 wr => ∃ k : Nat, k ≤ l.length ∧ s4 = .int .i64 ((k : Int) - 1) ∧ s3 = .int .u64 (leNum (l.drop k)) ∧ wr = w) (fun _ s4 _ => (intOf s4 + 1).toNat)
  case atStart => exact ⟨l.length, Nat.le_refl _, rfl, by rw [List.drop_length]; rfl, rfl⟩
  case round =>
    obtain ⟨k, hk, rfl, rfl, rfl⟩ := hrel
    cases k with
    | zero =>
      go_wp2
      go_ret
      exact ⟨rfl, rfl⟩
    | succ m =>
      have hc := byte_cell Rd.out m hk
      have hdr := leNum_drop l m hk
      have hb := leNum_lt (l.drop (m + 1))
      have h7 : (l.drop (m + 1)).length ≤ 7 := by rw [List.length_drop]; omega
      have hp : 256 ^ (l.drop (m + 1)).length ≤ 256 ^ 7 := Nat.pow_le_pow_right (by decide) h7
      have hx := (l.getD m 0).toNat_lt
      obtain ⟨N, hN⟩ : ∃ N, N = leNum (l.drop (m + 1)) := ⟨_, rfl⟩
      obtain ⟨x, hxx⟩ : ∃ x, x = (l.getD m 0).toNat := ⟨_, rfl⟩
      rw [← hN, ← hxx] at hdr
      rw [← hN] at hb ⊢
      rw [← hxx] at hc hx
      have hN7 : N < 72057594037927936 := by omega
      have hw : IntKind.u64.wrap (IntKind.u64.wrap ((N : Int) * 256) + (x : Int)) = ((x + 256 * N : Nat) : Int) := by
        rw [IntKind.wrap_u64, IntKind.wrap_u64]; omega
      rw [show (((m + 1 : Nat) : Int) - 1) = (m : Int) by omega]
      have Hb := Lib.hid hb
      have Hp := Lib.hid hp
      have HN := Lib.hid hN
      have Hxx := Lib.hid hxx
      have HN7 := Lib.hid hN7
      have Hdr := Lib.hid hdr
      have H7 := Lib.hid h7
      clear hb hp hN hxx hN7 hdr h7
      go_wp2
      go_roundw
      case rel => exact ⟨m, by omega, rfl, by rw [Hdr.out]; exact congrArg (Value.int .u64) (by omega), trivial⟩
      case measure => simp [intOf]
theorem at5_any (l : List UInt8) (p m : Nat) (hm : m ≤ 8) (hm0 : 0 < m) (hp : p + m ≤ l.length) (v : Value) (w : World) (rd : byteL.Rd w v l) :
    Calls Tryz.prog 83 #[v, .int .i64 p, .int .i64 m] w fun e w' => e = .returned (.int .u64 (leNum ((l.drop p).take m))) ∧ w' = w := by
  obtain ⟨a, cap, rfl, h1, h2⟩ := rd.shape
  have hne : l.length ≠ 0 := by omega
  obtain ⟨b, off, rfl, _⟩ := rd.at hne
  have hlen : ((l.drop p).take m).length = m := by rw [List.length_take, List.length_drop]; omega
  have hsub := Rd_sub rd p m (cap - p) hp (by omega) (by unfold maxLen; omega)
  have hget := Get5_any ((l.drop p).take m) (by omega) b (off + p) (cap - p) w (by rw [hlen]; exact hsub)
  rw [hlen] at hget
  have Rd := Lib.hid rd
  have Hsub := Lib.hid hsub
  have Hget := Lib.hid hget
  have Hlen := Lib.hid hlen
  clear rd hsub hget hlen
  go_enter Tryz.func83, Tryz.ntmps83
  go_wp2_with fail
  refine (Hget.out).mono ?_
  rintro e W ⟨rfl, rfl⟩
  go_wp2
  go_ret
  exact ⟨rfl, rfl⟩
theorem Least5_any (c : Int) (w : World) : Calls Tryz.prog 52 #[.int .u32 c] w fun e w' => e = .returned (.int .i64 (leastF c)) ∧ w' = w := by
  by_cases hk : leastF c = 0
  · rw [hk]
    have e1 : (c == 25) = false := by rw [beq_eq_false_iff_ne]; rintro rfl; exact absurd hk (by decide)
    have e2 : (c == 34) = false := by rw [beq_eq_false_iff_ne]; rintro rfl; exact absurd hk (by decide)
    have e3 : (c == 2147483682) = false := by rw [beq_eq_false_iff_ne]; rintro rfl; exact absurd hk (by decide)
    have e4 : (c == 2) = false := by rw [beq_eq_false_iff_ne]; rintro rfl; exact absurd hk (by decide)
    have e5 : (c == 12) = false := by rw [beq_eq_false_iff_ne]; rintro rfl; exact absurd hk (by decide)
    have e6 : (c == 13) = false := by rw [beq_eq_false_iff_ne]; rintro rfl; exact absurd hk (by decide)
    have e7 : (c == 2147483672) = false := by rw [beq_eq_false_iff_ne]; rintro rfl; exact absurd hk (by decide)
    have e8 : (c == 2147483679) = false := by rw [beq_eq_false_iff_ne]; rintro rfl; exact absurd hk (by decide)
    have e9 : (c == 2147483683) = false := by rw [beq_eq_false_iff_ne]; rintro rfl; exact absurd hk (by decide)
    have ea : (c == 2147483688) = false := by rw [beq_eq_false_iff_ne]; rintro rfl; exact absurd hk (by decide)
    have eb : (c == 2147483699) = false := by rw [beq_eq_false_iff_ne]; rintro rfl; exact absurd hk (by decide)
    have ec : (c == 2147483700) = false := by rw [beq_eq_false_iff_ne]; rintro rfl; exact absurd hk (by decide)
    clear hk
    go_enter Tryz.func52, Tryz.ntmps52
    go_wp2
    go_ret
    exact ⟨rfl, rfl⟩
  · rcases known_cases hk with rfl | rfl | rfl | rfl | rfl | rfl | rfl | rfl | rfl | rfl | rfl | rfl
    all_goals
      clear hk
      go_enter Tryz.func52, Tryz.ntmps52
      go_wp2
      go_ret
      exact ⟨rfl, rfl⟩
theorem Dep5_any (c : Int) (w : World) : Calls Tryz.prog 54 #[.int .u32 c] w fun e w' => e = .returned (.int .i64 (depK c)) ∧ w' = w := by
  unfold depK
  by_cases h1 : c = 12
  · subst h1
    go_enter Tryz.func54, Tryz.ntmps54
    go_wp2
    go_ret
    exact ⟨rfl, rfl⟩
  · rw [if_neg h1]
    have e1 : (c == 12) = false := by rw [beq_eq_false_iff_ne]; exact h1
    by_cases h2 : c = 2147483672
    · subst h2
      clear h1
      go_enter Tryz.func54, Tryz.ntmps54
      go_wp2
      go_ret
      exact ⟨rfl, rfl⟩
    · rw [if_neg h2]
      have e2 : (c == 2147483672) = false := by rw [beq_eq_false_iff_ne]; exact h2
      by_cases h3 : c = 2147483679
      · subst h3
        clear h1 h2
        go_enter Tryz.func54, Tryz.ntmps54
        go_wp2
        go_ret
        exact ⟨rfl, rfl⟩
      · rw [if_neg h3]
        have e3 : (c == 2147483679) = false := by rw [beq_eq_false_iff_ne]; exact h3
        by_cases h4 : c = 2147483683
        · subst h4
          clear h1 h2 h3
          go_enter Tryz.func54, Tryz.ntmps54
          go_wp2
          go_ret
          exact ⟨rfl, rfl⟩
        · rw [if_neg h4]
          have e4 : (c == 2147483683) = false := by rw [beq_eq_false_iff_ne]; exact h4
          clear h1 h2 h3 h4
          go_enter Tryz.func54, Tryz.ntmps54
          go_wp2
          go_ret
          exact ⟨rfl, rfl⟩
/-- The document's number of a command (0: it is too short for one). -/
def cmdN (l : List UInt8) : Nat := if l.length < 8 then 0 else n4 l 0
set_option maxHeartbeats 4000000 in
theorem Cmd5_any (l : List UInt8) (v : Value) (w : World) (rd : byteL.Rd w v l) :
    Calls Tryz.prog 51 #[v] w fun e w' => e = .returned (.tuple #[.int .u32 (cmdN l), .int .i64 (opE l)]) ∧ w' = w := by
  obtain ⟨a, cap, rfl, hc1, hc2⟩ := rd.shape
  unfold cmdN opE
  by_cases h8 : l.length < 8
  · rw [if_pos h8, if_pos h8]
    have d1 : decide ((l.length : Int) < 8) = true := decide_eq_true (by omega)
    have H8 := Lib.hid h8
    have Rd := Lib.hid rd
    clear h8 rd
    go_enter Tryz.func51, Tryz.ntmps51
    go_wp2
    go_ret2
    exact ⟨rfl, rfl⟩
  · rw [if_neg h8, if_neg h8]
    have d1 : decide ((l.length : Int) < 8) = false := decide_eq_false (by omega)
    have hat := at5_any l 0 4 (by decide) (by decide) (by omega) _ w rd
    have hn := n4_lt l 0
    rw [show leNum ((l.drop 0).take 4) = n4 l 0 from rfl] at hat
    obtain ⟨z, hz⟩ : ∃ z, z = n4 l 0 := ⟨_, rfl⟩
    rw [← hz] at hat hn ⊢
    have hw4 : ((z : Nat) : Int) % 4294967296 = (z : Nat) := by omega
    have hle := Least5_any (z : Int) w
    obtain ⟨q, hq⟩ : ∃ q, q = leastF (z : Int) := ⟨_, rfl⟩
    rw [← hq] at hle ⊢
    have HAT := Lib.hid hat
    have Hz := Lib.hid hz
    have Rd := Lib.hid rd
    have HLE := Lib.hid hle
    have Hn := Lib.hid hn
    have H8 := Lib.hid h8
    have Hq := Lib.hid hq
    clear hat hz rd hle hn h8 hq
    by_cases h9 : (l.length : Int) < q
    · rw [if_pos h9]
      have d9 : decide ((l.length : Int) < q) = true := decide_eq_true h9
      have H9 := Lib.hid h9
      clear h9
      go_enter Tryz.func51, Tryz.ntmps51
      go_wp2_with fail
      refine (HAT.out).mono ?_
      rintro e W ⟨rfl, rfl⟩
      go_wp2_with fail
      refine (HLE.out).mono ?_
      rintro e W ⟨rfl, rfl⟩
      go_wp2
      go_ret2
      exact ⟨rfl, rfl⟩
    · rw [if_neg h9]
      have d9 : decide ((l.length : Int) < q) = false := decide_eq_false h9
      have H9 := Lib.hid h9
      clear h9
      go_enter Tryz.func51, Tryz.ntmps51
      go_wp2_with fail
      refine (HAT.out).mono ?_
      rintro e W ⟨rfl, rfl⟩
      go_wp2_with fail
      refine (HLE.out).mono ?_
      rintro e W ⟨rfl, rfl⟩
      go_wp2
      go_ret2
      exact ⟨rfl, rfl⟩
end Go.Proofs.YtgjlgamlmmjdpaaGreatDoor
/- The document's SameSegment (of layer 5): two segments with the same numbers and the same sections are the same. -/
namespace Go.Proofs.YtgjlgamlmmjdpaaGreatDoor
open Go.RowKit
set_option maxRecDepth 100000

/-- A segment in memory, as plain data. -/
def SegRd (w : World) (s : Seg) (p : SegP) : Prop := s.bare = p.s ∧ secL.Rd w (.slice s.secs.a s.secs.n s.secs.cap) p.ks
theorem SegRd.frame {w w' : World} {s : Seg} {p : SegP} (h : SegRd w s p) (k : Chg [] w w') : SegRd w' s p := ⟨h.1, h.2.frame k⟩
set_option maxHeartbeats 1000000 in
theorem SameSeg (s r : Seg) (p : SegP) (w : World) (hs : SegRd w s p) (hr : SegRd w r p) :
    Calls Tryz.prog 16 #[segL.val s, segL.val r] w fun e w' => e = .returned (.bool true) ∧ Chg [] w w' := by
  have hb := hs.1.trans hr.1.symm
  have e0 : s.name = r.name := (congrArg Seg.name hb : s.bare.name = r.bare.name)
  have e1 : s.addr = r.addr := (congrArg Seg.addr hb : s.bare.addr = r.bare.addr)
  have e2 : s.size = r.size := (congrArg Seg.size hb : s.bare.size = r.bare.size)
  have e3 : s.off = r.off := (congrArg Seg.off hb : s.bare.off = r.bare.off)
  have e4 : s.fsize = r.fsize := (congrArg Seg.fsize hb : s.bare.fsize = r.bare.fsize)
  have e5 : s.prot = r.prot := (congrArg Seg.prot hb : s.bare.prot = r.bare.prot)
  have n1 : s.secs.n = p.ks.length := by
    obtain ⟨_, _, he, _, _⟩ := hs.2.shape
    injection he
  have n2 : r.secs.n = p.ks.length := by
    obtain ⟨_, _, he, _, _⟩ := hr.2.shape
    injection he
  have hkm : p.ks.length ≤ 9223372036854775807 := by obtain ⟨_, _, _, h1, h2⟩ := hs.2.shape; omega
  have S0 := Lib.hid (hs.2)
  have T0 := Lib.hid (hr.2)
  obtain ⟨K, hK⟩ : ∃ K, K = p.ks.length := ⟨_, rfl⟩
  rw [← hK] at n1 n2 hkm
  clear hs hr hb
  have HK := Lib.hid hK
  have Hkm := Lib.hid hkm
  clear hK hkm
  go_enter Tryz.func16, Tryz.ntmps16
  go_wp2_with ((with_reducible refine Lay.bxL (L := segL) 42 s ?_ ?_); exact rfl; intro W1 b1 eb1 cb1 xb1; replace eb1 := Lib.hid eb1; replace cb1 := Lib.hid cb1; replace xb1 := Lib.hid xb1; refine Hid.out ?_)
  refine Lib.hid ?_
  go_wp2_with ((with_reducible refine Lay.bxL (L := segL) 42 r ?_ ?_); exact rfl; intro W2 b2 eb2 cb2 xb2; replace eb2 := Lib.hid eb2; replace cb2 := Lib.hid cb2; replace xb2 := Lib.hid xb2; refine Hid.out ?_)
  refine Lib.hid ?_
  have c12 : Chg [] w W2 := cb1.out.then cb2.out
  have x1 := xb1.out.frame cb2.out
  have x2 := xb2.out
  have S2 := Lib.hid (S0.out.frame c12)
  have T2 := Lib.hid (T0.out.frame c12)
  have y0 := Seg.c_name x1
  have y1 := Seg.c_addr x1
  have y2 := Seg.c_size x1
  have y3 := Seg.c_off x1
  have y4 := Seg.c_fsize x1
  have y5 := Seg.c_prot x1
  have y6 := Seg.c_secs x1
  have z0 := Seg.c_name x2
  have z1 := Seg.c_addr x2
  have z2 := Seg.c_size x2
  have z3 := Seg.c_off x2
  have z4 := Seg.c_fsize x2
  have z5 := Seg.c_prot x2
  have z6 := Seg.c_secs x2
  rw [e0] at y0
  rw [e1] at y1
  rw [e2] at y2
  rw [e3] at y3
  rw [e4] at y4
  rw [e5] at y5
  rw [n1] at y6 S2
  rw [n2] at z6 T2
  have X1 := Lib.hid x1
  have X2 := Lib.hid x2
  have E0 := Lib.hid e0
  have E1 := Lib.hid e1
  have E2 := Lib.hid e2
  have E3 := Lib.hid e3
  have E4 := Lib.hid e4
  have E5 := Lib.hid e5
  have N1 := Lib.hid n1
  have N2 := Lib.hid n2
  have C12 := Lib.hid c12
  clear x1 x2 e0 e1 e2 e3 e4 e5 n1 n2 c12
  go_wp2_with fail
  go_loopw [5] (fun s5 wr => ∃ k : Nat, k ≤ K ∧ s5 = .int .i64 (k : Int) ∧ Chg [] W2 wr) (fun s5 _ => K - (intOf s5).toNat)
  case atStart => exact ⟨0, Nat.zero_le _, rfl, Chg.refl _ _⟩
  case round =>
    obtain ⟨k, hk, rfl, hc⟩ := hrel
    replace y6 := hc.cell y6 (by simp)
    replace z6 := hc.cell z6 (by simp)
    have CC := Lib.hid (C12.out.then hc)
    have CW := Lib.hid (hc)
    clear hc y0 y1 y2 y3 y4 y5 z0 z1 z2 z3 z4 z5
    by_cases hlt : k < K
    · have dlt : decide ((k : Int) < (K : Int)) = true := decide_eq_true (by omega)
      have hkl : k < p.ks.length := by rw [← HK.out]; exact hlt
      obtain ⟨g, o, h1, _, hin1⟩ := S2.out.at (by omega)
      obtain ⟨g', o', h2, _, hin2⟩ := T2.out.at (by omega)
      obtain ⟨X, hX⟩ : ∃ X, X = p.ks.getD k secL.d := ⟨_, rfl⟩
      have i1 := (hin1 k hkl).frame CW.out
      have i2 := (hin2 k hkl).frame CW.out
      rw [← hX] at i1 i2
      rw [h1] at y6
      rw [h2] at z6
      have hneq := Sec.neq X X
      rw [decide_eq_true rfl] at hneq
      have hw1 : wrap64 ((k : Int) + 1) = (k : Int) + 1 := by have := Hkm.out; unfold wrap64; omega
      obtain ⟨a0, a1, a2, a3, a4, a5⟩ := Sec.at i1
      obtain ⟨b0, b1, b2, b3, b4, b5⟩ := Sec.at i2
      rw [show secL.n = 6 from rfl] at a0 a1 a2 a3 a4 a5 b0 b1 b2 b3 b4 b5
      have I1 := Lib.hid i1
      have I2 := Lib.hid i2
      have HX := Lib.hid hX
      have Hin1 := Lib.hid hin1
      have Hin2 := Lib.hid hin2
      have H1 := Lib.hid h1
      have H2 := Lib.hid h2
      clear i1 i2 hX hin1 hin2 h1 h2
      go_upto_region 6 with fail
      go_quiet (fail)
      go_wp2
      go_roundw
      case rel => exact ⟨k + 1, hlt, (congrArg (Value.int .i64) hw1).trans rfl, CW.out.then ((Chg.refl _ _).drewN _)⟩
      case measure =>
        rw [hw1]
        show K - ((k : Int) + 1).toNat < K - (k : Int).toNat
        omega
    · obtain rfl : k = K := by omega
      have dlt : decide ((k : Int) < (k : Int)) = false := decide_eq_false (by omega)
      go_wp2
      go_ret
      exact ⟨rfl, CC.out⟩
end Go.Proofs.YtgjlgamlmmjdpaaGreatDoor
