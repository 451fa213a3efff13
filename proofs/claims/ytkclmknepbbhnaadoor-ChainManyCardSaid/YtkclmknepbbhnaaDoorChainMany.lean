/- clevislaw15.ChainMany, walked. -/
import Derived.Test.YtkclmknepbbhnaaDoorSame15
import Derived.Test.YtkclmknepbbhnaaDoorKnown15
namespace Go.Proofs.YtkclmknepbbhnaaDoor
open Go.RowKit
set_option maxRecDepth 100000

def impM (weak : Bool) : Imp := ⟨1, weak, ⟨#[115]⟩, 0⟩
theorem okI_M (weak : Bool) : okI 1 1 (impM weak) = true := by cases weak <;> decide
theorem okM_M (weak : Bool) (n : Nat) : okM 1 1 (List.replicate n (impM weak)) = decide (n ≤ 4096) := by
  unfold okM
  have h : (List.replicate n (impM weak)).all (okI 1 1) = true := by
    rw [List.all_eq_true]
    intro x hx
    rw [(List.mem_replicate.1 hx).2]
    exact okI_M weak
  rw [h, List.length_replicate]
  simp
set_option maxHeartbeats 4000000 in
theorem ChainMany_walk (w : World) (_hg : Env w) (n : Int) (wn : (Lit.int .i64 n).wf = true) (weak : Bool) :
    Calls Tryd.prog 4 #[.int .i64 n, .bool weak] w fun e w' => e = .returned (.bool true) ∧ Chg [] w w' := by
  have HK := Lib.hid (known15)
  have hb := bounds_i64 wn
  by_cases h1 : n < 4090
  · have d1 : decide (n < (4090 : Int)) = true := by simpa using h1
    have H1 := Lib.hid h1
    clear h1
    go_enter Tryd.func4, Tryd.ntmps4
    go_wp2_with fail
    refine (HK.out _).mono ?_
    rintro e W2 ⟨rfl, hc⟩
    have Hc := Lib.hid hc
    clear hc
    go_wp2
    go_ret
    exact ⟨rfl, Hc.out⟩
  have d1 : decide (n < (4090 : Int)) = false := by simp; omega
  by_cases h2 : 4100 < n
  · have d2 : decide ((4100 : Int) < n) = true := by simpa using h2
    have H1 := Lib.hid h1
    clear h1
    go_enter Tryd.func4, Tryd.ntmps4
    go_wp2_with fail
    refine (HK.out _).mono ?_
    rintro e W2 ⟨rfl, hc⟩
    have Hc := Lib.hid hc
    clear hc
    go_wp2
    go_ret
    exact ⟨rfl, Hc.out⟩
  have d2 : decide ((4100 : Int) < n) = false := by simp; omega
  obtain ⟨N, rfl⟩ : ∃ N : Nat, n = N := ⟨n.toNat, by omega⟩
  have hN1 : 4090 ≤ N := by omega
  have hN2 : N ≤ 4100 := by omega
  have HPL := Lib.hid (fun w => plain15_any 1 (by decide) w)
  obtain ⟨x, hx⟩ : ∃ x, x = impM weak := ⟨_, rfl⟩
  have HV : Hid ([Value.int .i64 1, .bool weak, .string ⟨#[115]⟩, .int .i64 0] = impL.f x) := Lib.hid (by rw [hx]; rfl)
  obtain ⟨l, hl⟩ : ∃ l, l = List.replicate N x := ⟨_, rfl⟩
  have hll : l.length = N := by rw [hl]; exact List.length_replicate
  have hxs : x.sym.size = 1 := by rw [hx]; rfl
  have HX : Hid (∀ y ∈ l, y.sym.size ≤ 300) := by
    refine Lib.hid ?_
    intro y hy
    rw [hl] at hy
    rw [(List.mem_replicate.1 hy).2, hxs]
    decide
  have HW : Hid (∀ y ∈ l, y.wf) := by
    refine Lib.hid ?_
    intro y hy
    rw [hl] at hy
    rw [(List.mem_replicate.1 hy).2, hx]
    show (Lit.int .i64 1).wf = true ∧ (Lit.int .i64 0).wf = true
    decide
  have HOK : Hid (okM 1 1 l = decide (N ≤ 4096)) := Lib.hid (by rw [hl, hx]; exact okM_M weak N)
  have HTK : Hid (∀ k, k < N → List.replicate k x ++ [x] = List.replicate (k + 1) x) := Lib.hid (fun k _ => (List.replicate_succ' ..).symm)
  have HL := Lib.hid (hl)
  have H1 := Lib.hid h1
  have H2 := Lib.hid h2
  have Wn := Lib.hid wn
  have Hb := Lib.hid hb
  have Hx := Lib.hid hx
  have Hxs := Lib.hid hxs
  clear h1 h2 wn hb hx hxs
  clear hl
  go_enter Tryd.func4, Tryd.ntmps4
  go_wp2_with ((with_reducible refine Lay.alL Tryd.tChn ?_); intro W1 bc ebc cbc xbc; replace ebc := Lib.hid ebc; replace cbc := Lib.hid cbc; replace xbc := Lib.hid xbc; refine Hid.out ?_)
  refine Lib.hid ?_
  go_wp2_with fail
  go_loopw [6] (fun s6 wr => ∃ (k : Nat) (sl : SlV), k ≤ N ∧ s6 = .int .i64 (k : Int) ∧ chnL.Box wr bc ⟨⟨none, 0, 0⟩, sl⟩ ∧ impL.Buf 23 wr W1.heap.size sl.v (List.replicate k x) ∧ Chg [bc] W1 wr) (fun s6 _ => N - (intOf s6).toNat)
  case atStart => exact ⟨0, ⟨none, 0, 0⟩, Nat.zero_le _, rfl, xbc.out, Lay.Buf.nil _ _, Chg.refl _ _⟩
  case round =>
    obtain ⟨k, ⟨ad, nd, cd⟩, hk, rfl, hbx, hu, hch⟩ := hrel
    obtain ⟨_, _, he, hc1, hc2⟩ := hu.rd.shape
    cases he
    have hlen : (List.replicate k x).length = k := List.length_replicate
    rw [hlen] at hc1 hbx hu
    replace hu : impL.Buf 23 wr W1.heap.size (.slice ad k cd) (List.replicate k x) := hu
    have hlt0 := xbc.out.lt
    by_cases hlt : k < N
    · have e1 := HTK.out k hlt
      have y1 := Chn.c_imps hbx
      have z1 := hbx.frozen 1
      have Hlen := Lib.hid hlen
      have B := Lib.hid hbx
      have U := Lib.hid hu
      have HC := Lib.hid hch
      have E1 := Lib.hid e1
      clear hlen hbx hu hch e1
      clear z1
      go_wp2_with (at_builtin; refine Lay.app (L := impL) Tryd.infoImp rfl _ _ rfl W1.heap.size (.slice ad k cd) (List.replicate k x) rfl (U.out.pure ((Chg.refl _ _).alloc _)) _ rfl [x] (Lay.Rd.of_heap (heap_alloc_eq _ _) (by rw [Lay.vals_single]; exact HV.out) rfl (show 1 ≤ maxLen by decide)) (by rw [Hlen.out]; simp; omega) (by rw [Hlen.out]; simp; omega) (Nat.le_trans HC.out.size (by simp)) ?_; intro v' wb hov hgv hloc; refine Hid.out ?_)
      refine Lib.hid ?_
      clear hloc y1
      rw [E1.out] at hov
      obtain ⟨a', c', rfl, hl', hm'⟩ := hov.rd.shape
      have e2 : (List.replicate (k + 1) x).length = k + 1 := List.length_replicate
      rw [e2] at hov hl'
      rw [e2]
      have hrow : bc ∉ (Value.ownBlock (.slice ad k cd)).toList := by
        intro hm
        have := (U.out.lt bc (by simpa using hm)).1
        omega
      have B2 := (B.out.alloc (.cells #[.int .i64 1, .bool weak, .string ⟨#[115]⟩, .int .i64 0] 23)).frameS (Lay.chg_grown hgv) hrow
      have C2 : Hid (Chg [bc] W1 wb) := by
        refine Lib.hid ?_
        refine (HC.out.alloc (.cells #[.int .i64 1, .bool weak, .string ⟨#[115]⟩, .int .i64 0] 23)).trans (Lay.chg_grown hgv) (fun i hi hw => ?_)
        have := (U.out.lt i (by simpa using hi)).1
        omega
      have y1 := Chn.c_imps B2
      have z1 := B2.frozen 1
      have B3 := Lib.hid B2
      have Hov := Lib.hid hov
      have Hgv := Lib.hid hgv
      have E2 := Lib.hid e2
      have Hrow := Lib.hid hrow
      clear B2 hov hgv e2 hrow
      go_wp2
      go_roundw
      case rel =>
        refine ⟨k + 1, ⟨a', k + 1, c'⟩, hlt, by go_num, Chn.set_imps B3.out ⟨a', k + 1, c'⟩, ?_, C2.out.setCell _ _ (.inl (by simp))⟩
        refine Hov.out.frame ((Chg.refl [bc] wb).setCell _ _ (.inl (by simp))) (fun b hb hm => ?_)
        have := (Hov.out.lt b hb).1
        simp at hm
        omega
      case measure => simp [intOf]; omega
    · obtain rfl : k = N := by omega
      obtain ⟨W2, rfl⟩ : ∃ x, x = wr := ⟨_, rfl⟩
      rw [← HL.out] at hu
      have CW : Hid (Chg [] w W2) := Lib.hid (cbc.out.trans hch (fun i hi hw => by have := ebc.out; simp at hi; omega))
      have RL := Lib.hid (hu.rd)
      have BC := Lib.hid (hbx)
      clear hbx hu hch
      have Hlen := Lib.hid hlen
      clear hlen
      go_wp2_with fail
      refine (HPL.out _).mono ?_
      rintro e W3 ⟨sg, dp, rfl, hs, hd, hc⟩
      have n1 := seg_n hs
      have n2 := dep_n hd
      rw [show (plainDeps 1).length = 1 from List.length_replicate] at n2
      have C3 := Lib.hid (CW.out.then hc)
      have B3 := Lib.hid (BC.out.frame hc)
      have R3 := Lib.hid (RL.out.frame hc)
      clear hs hd hc
      obtain ⟨m, hm⟩ : ∃ m, m = plainImg sg dp := ⟨_, rfl⟩
      have m1 : m.segs.n = 3 := by rw [hm]; exact n1
      have m2 : m.deps.n = 1 := by rw [hm]; exact n2
      rw [← hm]
      clear hm n1 n2
      go_wp2_with ((with_reducible refine Lay.alL Tryd.tImg ?_); intro W4 bm ebm cbm xbm; replace ebm := Lib.hid ebm; replace cbm := Lib.hid cbm; replace xbm := Lib.hid xbm; refine Hid.out ?_)
      refine Lib.hid ?_
      go_wp2_with ((with_reducible refine Lay.stL Tryd.tImg m (xbm.out) ?_ ?_ ?_); exact rfl; exact rfl; intro W5 cW5 xW5; replace cW5 := Lib.hid cW5; replace xW5 := Lib.hid xW5; refine Hid.out ?_)
      refine Lib.hid ?_
      have D5 : Hid (Chg [] W3 W5) := Lib.hid (cbm.out.new cW5.out (by rw [ebm.out]; exact Nat.le_refl _))
      have M5 := Lib.hid (xW5.out)
      have B5 := Lib.hid (B3.out.frame D5.out)
      have R5 := Lib.hid (R3.out.frame D5.out)
      have C5 := Lib.hid (C3.out.then D5.out)
      have hw5 : w.heap.size ≤ W5.heap.size := C5.out.size
      have hbm5 : bm < W5.heap.size := M5.out.lt
      have Hw5 := Lib.hid hw5
      have Hbm5 := Lib.hid hbm5
      clear hw5 hbm5
      clear ebm cbm xbm cW5 xW5 B3 R3 C3 D5
      obtain ⟨c, hcc⟩ : ∃ c : Chn, c = ⟨⟨none, 0, 0⟩, ⟨ad, k, cd⟩⟩ := ⟨_, rfl⟩
      have c0 : c.starts.n = 0 := by rw [hcc]
      have CI : Hid (c.imps.v = .slice ad k cd) := Lib.hid (by rw [hcc]; rfl)
      rw [← hcc] at B5
      clear hcc
      have RC5 : Hid (impL.Rd W5 c.imps.v l) := Lib.hid (by rw [CI.out]; exact R5.out)
      have HMK : Hid (∀ W, impL.Rd W c.imps.v l → Calls Tryd.prog 7 #[chnL.val c, imgL.val m, .int .i64 1] W fun e w' => MkPost (decide (k ≤ 4096)) W.heap.size (mkB 1 l) e w' ∧ Chg [] W w') := Lib.hid (fun W r => by have := cmake_any c c0 l HX.out m m1 1 (by decide) W r; rw [m2, HOK.out] at this; exact this)
      go_wp2_with ((with_reducible refine Lay.ldL Tryd.tChn c (B5.out.in) ?_ ?_); exact rfl; refine Hid.out ?_)
      refine Lib.hid ?_
      go_wp2_with ((with_reducible refine Lay.ldL Tryd.tImg m (M5.out.in) ?_ ?_); exact rfl; refine Hid.out ?_)
      refine Lib.hid ?_
      go_wp2_with fail
      refine (HMK.out _ RC5.out).mono ?_
      rintro e W6 ⟨hpost, hc⟩
      have B6 := Lib.hid (B5.out.frame hc)
      have M6 := Lib.hid (M5.out.frame hc)
      have R6 := Lib.hid (RC5.out.frame hc)
      have C6 := Lib.hid (C5.out.then hc)
      clear hc HMK B5 M5 RC5 C5 R5
      by_cases hbig : 4096 < k
      · have d3 : decide ((4096 : Int) < (k : Int)) = true := by simp; omega
        rw [show decide (k ≤ 4096) = false by simp; omega] at hpost
        replace hpost : e = .returned (.tuple #[.slice none 0 0, .int .i64 2]) := hpost
        subst hpost
        go_wp2_with fail
        refine (HK.out _).mono ?_
        rintro e W7 ⟨rfl, hc⟩
        have C7 := Lib.hid (C6.out.then hc)
        clear hc
        go_wp2
        go_ret
        exact ⟨rfl, C7.out⟩
      have d3 : decide ((4096 : Int) < (k : Int)) = false := by simp; omega
      rw [show decide (k ≤ 4096) = true by simp; omega] at hpost
      obtain ⟨v, rfl, hbb⟩ := hpost
      obtain ⟨hh, hlb⟩ := head_mk 1 (by decide) 1 l (by rw [HOK.out]; simp; omega) HW.out
      have hfit := nmAll_fit 1 l HX.out l.length (Nat.le_refl _)
      rw [List.take_length] at hfit
      have ho := hfit.out
      have hn := hfit.ns
      have hL28 := hh.len
      have ho2 : (nmAll 1 l).out.length ≤ 1000000 := by omega
      have HRD : Hid (∀ W v, byteL.Rd W v (mkB 1 l) → Calls Tryd.prog 9 #[v, imgL.val m] W fun e w' => (∃ c : Chn, e = .returned (.tuple #[chnL.val c, .int .i64 0]) ∧ c.starts = ⟨none, 0, 0⟩ ∧ impL.Rd w' c.imps.v l) ∧ Chg [] W w') := Lib.hid (fun W v r => cread_any _ 1 3 1 l _ _ _ hh m m2 m1 v W r)
      obtain ⟨B', hB'⟩ : ∃ B', B' = ((mkB 1 l).set 16 1).set 17 16 := ⟨_, rfl⟩
      obtain ⟨t1, t2, t3, t4, t5, t6, t7, t8⟩ := many_words l 1 (by decide) (by decide) (by omega) ho2 B' hB'
      have hBl : B'.length = (mkB 1 l).length := by rw [hB', List.length_set, List.length_set]
      have HRM : Hid (∀ W v, byteL.Rd W v B' → Calls Tryd.prog 9 #[v, imgL.val m] W fun e w' => e = .returned (.tuple #[chnL.val .zero, .int .i64 11]) ∧ Chg [] W w') := Lib.hid (fun W v r => cread_many B' 1 _ _ _ 4097 t1 (by rw [hBl]; exact hL28.2) (.inl rfl) t2 t3 t4 t5 t6 (by decide) t7 t8 m v W r)
      clear t1 t2 t3 t4 t5 t6 t7 t8
      obtain ⟨g, cap, rfl, hg0, hg1, hg2, hg3, hown, hfr, _⟩ := hbb.at (by omega)
      have Hh := Lib.hid hh
      have Hfit := Lib.hid hfit
      have Ho := Lib.hid ho
      have Hn := Lib.hid hn
      have Ho2 := Lib.hid ho2
      have HB' := Lib.hid hB'
      have HBl := Lib.hid hBl
      have Hfr := Lib.hid hfr
      have Hown := Lib.hid hown
      have Hlb := Lib.hid hlb
      clear hh hfit ho hn ho2 hB' hBl hfr hown hlb
      have hlen28 : 28 ≤ (mkB 1 l).length := hL28.1
      generalize hLB : (mkB 1 l).length = LB at *
      have d28 : decide ((LB : Int) < 28) = false := by simp; omega
      have BB6 := Lib.hid (hbb)
      have HLB := Lib.hid hLB
      clear hLB
      clear hbb
      go_wp2_with ((with_reducible refine Lay.ldL Tryd.tImg m (M6.out.in) ?_ ?_); exact rfl; refine Hid.out ?_)
      refine Lib.hid ?_
      go_wp2_with fail
      refine (HRD.out _ _ BB6.out.rd).mono ?_
      rintro e W7 ⟨⟨c7, rfl, hst, hrd⟩, hc⟩
      have C7 := Lib.hid (C6.out.then hc)
      have B7 := Lib.hid (B6.out.frame hc)
      have M7 := Lib.hid (M6.out.frame hc)
      have R7 := Lib.hid (R6.out.frame hc)
      have BB7 := Lib.hid (BB6.out.pure hc)
      have S7 : Hid (impL.Rd W7 c7.imps.v l) := Lib.hid (hrd)
      have c70 : c7.starts.n = 0 := by rw [hst]
      clear hst hrd hc B6 M6 R6 C6 BB6
      go_wp2_with ((with_reducible refine Lay.alL Tryd.tChn ?_); intro W8 bz ebz cbz xbz; replace ebz := Lib.hid ebz; replace cbz := Lib.hid cbz; replace xbz := Lib.hid xbz; refine Hid.out ?_)
      refine Lib.hid ?_
      go_wp2_with ((with_reducible refine Lay.stL Tryd.tChn c7 (xbz.out) ?_ ?_ ?_); exact rfl; exact rfl; intro W9 cW9 xW9; replace cW9 := Lib.hid cW9; replace xW9 := Lib.hid xW9; refine Hid.out ?_)
      refine Lib.hid ?_
      have D9 : Hid (Chg [] W7 W9) := Lib.hid (cbz.out.new cW9.out (by rw [ebz.out]; exact Nat.le_refl _))
      have C9 := Lib.hid (C7.out.then D9.out)
      have B9 := Lib.hid (B7.out.frame D9.out)
      have M9 := Lib.hid (M7.out.frame D9.out)
      have R9 := Lib.hid (R7.out.frame D9.out)
      have S9 := Lib.hid (S7.out.frame D9.out)
      have BB9 := Lib.hid (BB7.out.pure D9.out)
      have X9 := Lib.hid (xW9.out)
      clear cbz xbz ebz cW9 xW9 B7 M7 R7 S7 BB7 C7 D9
      go_upto_region 13 with fail
      go_wp2_with ((with_reducible refine ldG Tryd.tChn c7 (X9.out.in) ?_ ?_ ?_); exact rfl; exact rfl; refine Hid.out ?_)
      refine Lib.hid ?_
      go_wp2_with ((with_reducible refine ldG Tryd.tChn c (B9.out.in) ?_ ?_ ?_); exact rfl; exact rfl; refine Hid.out ?_)
      refine Lib.hid ?_
      go_wp2_with fail
      refine (rsame_any l c7 c c70 c0 _ S9.out R9.out).mono ?_
      rintro e WA ⟨rfl, hc⟩
      have CA := Lib.hid (C9.out.then hc)
      have MA := Lib.hid (M9.out.frame hc)
      have BBA := Lib.hid (BB9.out.pure hc)
      clear hc B9 M9 R9 S9 BB9 C9
      have hz : ∀ j, WA.frozen? ⟨g, j, none⟩ = false := by
        obtain ⟨g', cap', e, _, _, _, _, _, hf, _⟩ := BBA.out.at (by have := HLB.out; omega)
        cases e
        exact hf
      have z16 := hz 16
      have z17 := hz 17
      obtain ⟨E1, hE1⟩ : ∃ V, byteL.In WA g 16 V := ⟨(mkB 1 l).getD 16 0, by
        obtain ⟨b, off, e, _, hx⟩ := BBA.out.rd.at (by have := HLB.out; omega)
        cases e
        have := hx 16 (by have := HLB.out; omega)
        rwa [show byteL.n = 1 from rfl, Nat.mul_one, Nat.zero_add] at this⟩
      obtain ⟨E2, hE2⟩ : ∃ V, byteL.In WA g 17 V := ⟨(mkB 1 l).getD 17 0, by
        obtain ⟨b, off, e, _, hx⟩ := BBA.out.rd.at (by have := HLB.out; omega)
        cases e
        have := hx 17 (by have := HLB.out; omega)
        rwa [show byteL.n = 1 from rfl, Nat.mul_one, Nat.zero_add] at this⟩
      have k16 : WA.cell? ⟨g, 16, none⟩ = some (.int .u8 E1.toNat) := hE1 0 (by decide)
      have k17 : WA.cell? ⟨g, 17, none⟩ = some (.int .u8 E2.toNat) := hE2 0 (by decide)
      have f16 : decide ((16 : Int) < (LB : Int)) = true := by simp; omega
      have f17 : decide ((17 : Int) < (LB : Int)) = true := by simp; omega
      have g16 : 16 < LB := by omega
      have g17 : 17 < LB := by omega
      clear hz hE1 hE2
      go_upto_region 16 with fail
      have hg5 : W5.heap.size ≤ g := (BBA.out.lt g rfl).1
      refine Lay.with_world (fun W => byteL.Rd W (.slice (some ⟨g, 0, none⟩) LB cap) B' ∧ imgL.Box W bm m ∧ Chg [] w W) ⟨?_, ?_, ?_⟩ (fun WE hWE => ?_)
      · have h1 : BB (WA.setCell ⟨g, 16, none⟩ (.int .u8 1)) W5.heap.size (.slice (some ⟨g, 0, none⟩) LB cap) ((mkB 1 l).set 16 1) := by
          have := BBA.out.set rfl 16 (by have := HLB.out; omega) 0 (by decide) (.int .u8 1) 1 rfl
          exact this
        have h2 := h1.set rfl 17 (by rw [List.length_set]; have := HLB.out; omega) 0 (by decide) (.int .u8 16) 16 rfl
        have := h2.rd
        rw [← HB'.out] at this
        exact this
      · have := Hbm5.out
        exact (MA.out.setCell _ _ (by dsimp only; omega)).setCell _ _ (by dsimp only; omega)
      · have := Hw5.out
        exact (CA.out.setCell _ _ (.inr (by dsimp only; omega))).setCell _ _ (.inr (by dsimp only; omega))
      obtain ⟨h1, h2, h3⟩ := hWE
      clear z16 z17 k16 k17 f16 f17
      have RE := Lib.hid h1
      have ME := Lib.hid h2
      have CE := Lib.hid h3
      clear h1 h2 h3
      go_wp2_with ((with_reducible refine Lay.ldL Tryd.tImg m (ME.out.in) ?_ ?_); exact rfl; refine Hid.out ?_)
      refine Lib.hid ?_
      go_wp2_with fail
      refine (HRM.out _ _ RE.out).mono ?_
      rintro e WF ⟨rfl, hc⟩
      have CF := Lib.hid (CE.out.then hc)
      clear hc
      go_wp2_with ((with_reducible refine Lay.alL Tryd.tChn ?_); intro WG by2 eby2 cby2 xby2; replace eby2 := Lib.hid eby2; replace cby2 := Lib.hid cby2; replace xby2 := Lib.hid xby2; refine Hid.out ?_)
      refine Lib.hid ?_
      go_wp2_with ((with_reducible refine Lay.stL Tryd.tChn Chn.zero (xby2.out) ?_ ?_ ?_); exact rfl; exact rfl; intro WH cWH xWH; replace cWH := Lib.hid cWH; replace xWH := Lib.hid xWH; refine Hid.out ?_)
      refine Lib.hid ?_
      have CH := Lib.hid (CF.out.then (cby2.out.new cWH.out (by rw [eby2.out]; exact Nat.le_refl _)))
      go_wp2_with fail
      refine (HK.out _).mono ?_
      rintro e WI ⟨rfl, hc⟩
      have CI2 := Lib.hid (CH.out.then hc)
      clear hc
      go_wp2
      go_ret
      exact ⟨rfl, CI2.out⟩
end Go.Proofs.YtkclmknepbbhnaaDoor
