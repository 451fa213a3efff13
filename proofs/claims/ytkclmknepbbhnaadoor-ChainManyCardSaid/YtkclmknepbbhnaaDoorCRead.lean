/- chain.Read, where it reads imports without an error, and no segment has a start; and where it says too many. -/
import Derived.Test.YtkclmknepbbhnaaDoorStarts0
import Derived.Test.YtkclmknepbbhnaaDoorTextN
namespace Go.Proofs.YtkclmknepbbhnaaDoor
open Go.RowKit
set_option maxRecDepth 100000

theorem rdF_read {fm : Int} (h : fm = 1 ∨ fm = 2 ∨ fm = 3) : ∃ f, rdF fm = some (.func f #[] #[]) ∧ ∃ g, f = .func g ∧ (∀ (args : Array Value) (w : World), (callFunc g args).run Tryd.prog w = .ok (.enter g args) w) ∧ ∀ (b : Nat) (s : CS) (w : World), CurB w b s → Calls Tryd.prog g #[.pointer (some ⟨b, 0, none⟩)] w fun e w' => e = .returned (rawL.val (rawS fm s)) ∧ CurB w' b (rawE fm s) ∧ Chg [b] w w' := by
  rcases h with rfl | rfl | rfl
  · refine ⟨.func 32, by simp [rdF, Map.put], _, rfl, fun args w => by kernel_rfl, fun b s w h => ?_⟩
    unfold rawS rawE
    rw [if_neg (by decide), if_neg (by decide), if_neg (by decide), if_neg (by decide)]
    exact short_any b s w h
  · refine ⟨.func 33, by simp [rdF, Map.put], _, rfl, fun args w => by kernel_rfl, fun b s w h => ?_⟩
    unfold rawS rawE
    rw [if_neg (by decide), if_pos rfl, if_neg (by decide), if_pos rfl]
    exact long_any b s w h
  · refine ⟨.func 34, by simp [rdF, Map.put], _, rfl, fun args w => by kernel_rfl, fun b s w h => ?_⟩
    unfold rawS rawE
    rw [if_pos rfl, if_pos rfl]
    exact wide_any b s w h
/-- What stands in a head whose imports are l. -/
structure Head (B : List UInt8) (d n : Nat) (fm : Int) (l : List Imp) (at_ ims nms : Nat) : Prop where
  len : 28 ≤ B.length ∧ B.length ≤ 2147483647
  fmt : fm = 1 ∨ fm = 2 ∨ fm = 3
  many : l.length ≤ 4096
  w0 : WN B 0 4 = 0
  w1 : WN B 4 4 = at_
  w2 : WN B 8 4 = ims
  w3 : WN B 12 4 = nms
  w4 : WN B 16 4 = l.length
  w5 : ((WN B 20 4 : Nat) : Int) = fm
  w6 : WN B 24 4 = 0
  at1 : at_ + 4 + 4 * n ≤ B.length
  at2 : WN B at_ 4 = n
  at3 : ∀ i, i < n → WN B (at_ + 4 + 4 * i) 4 = 0
  imp : ims + isz fm * l.length ≤ B.length
  one : ∀ k, k < l.length → ∃ p q : Nat, rawS fm (cs B (ims + isz fm * k)) = ⟨(l.getD k .zero).ord, (l.getD k .zero).weak, ⟨#[]⟩, (l.getD k .zero).add, (p : Nat)⟩ ∧ nms + p ≤ B.length ∧ textS (cs B (nms + p)) 255 = cs B q ∧ textL (cs B (nms + p)) 255 = (l.getD k .zero).sym.data.toList ∧ (l.getD k .zero).sym.size ≠ 0 ∧ ordB (l.getD k .zero).ord d = true
theorem Tryd.infoImp : Lay.Info Tryd.prog 35 23 impL.n 40 := Lay.Info.mk' (z := .agg #[.int .i64 0, .bool false, .string ⟨#[]⟩, .int .i64 0]) (by kernel_rfl) (by kernel_rfl) rfl
/-- A cursor's bytes do not lie in a block of newer make, nor in one of chains. -/
theorem CurB.frameN {w0 w w' : World} {b : Nat} {s s0 : CS} {S : List Nat} (h : CurB w b s) (k : Chg S w w') (h0 : CurB w0 b s0) (hq : ∀ i ∈ S, w0.heap.size ≤ i) : CurB w' b s := by
  have hb0 := h0.lt
  obtain ⟨a, n, cap, hb, h1, h2', h3, h4, h5, h6⟩ := h
  refine ⟨a, n, cap, k.heap hb (fun hm => by have := hq _ hm; omega), h1, h2', h3, h4, h5, fun hn => ?_⟩
  obtain ⟨d, off, c, ha, hdb, hd, hc⟩ := h6 hn
  have hd2 : d ∉ S := fun hm => by have := hq _ hm; omega
  exact ⟨d, off, c, ha, hdb, k.heap hd hd2, fun j hj => k.cell (hc j hj) hd2⟩
theorem CurB.frameC {w w' : World} {b q : Nat} {s : CS} {x : Chn} (h : CurB w b s) (hx : chnL.Box w q x) (hne : b ≠ q) (k : Chg [q] w w') : CurB w' b s := by
  obtain ⟨a, n, cap, hb, h1, h2', h3, h4, h5, h6⟩ := h
  refine ⟨a, n, cap, k.heap hb (by simpa using hne), h1, h2', h3, h4, h5, fun hn => ?_⟩
  obtain ⟨d, off, c, ha, hdb, hd, hc⟩ := h6 hn
  have hd2 : d ∉ [q] := by
    intro hm
    rw [List.mem_singleton] at hm
    subst hm
    obtain ⟨E, hE⟩ := hx
    have := hc 0 hn
    rw [cell_of_heap hE] at this
    have e : (chnL.f x).toArray[off + 0]? = (chnL.f x)[off + 0]? := List.getElem?_toArray ..
    rw [e] at this
    have hm := List.mem_of_getElem? this
    simp [chnL, Chn.cells] at hm
  exact ⟨d, off, c, ha, hdb, k.heap hd hd2, fun j hj => k.cell (hc j hj) hd2⟩
def errC (p : Nat) (n : Int) (w : World) : Prop := w.heap[p]? = some (.cells #[.int .i64 n] 40 (0, 0))
theorem results2 {P : Program} {fn : Func} {t u : Tmp} {T T2 : TypeId} {tmps : Array Value} {p q : Addr} {v v2 : Value} {w : World} (hr : fn.results = #[.cell t T, .cell u T2]) (h1 : tmps.getD t undef = .pointer (some p)) (h2 : tmps.getD u undef = .pointer (some q)) (l1 : (loadVar T p).run P w = .ok v w) (l2 : (loadVar T2 q).run P w = .ok v2 w) : (results fn tmps).run P w = .ok (.tuple #[v, v2]) w := by
  rw [Array.getD_eq_getD_getElem?] at h1 h2
  simp [results, hr, h1, h2, asAddr, l1, l2]
theorem load_errC {w : World} {p : Addr} {n : Int} (h : w.cell? p = some (.int .i64 n)) : (loadVar 40 p).run Tryd.prog w = .ok (.int .i64 n) w := by
  simp [loadVar, Tryd.isAgg40, h]
/-- What a reading keeps. -/
structure RS (w : World) (base bm bc be : Nat) (m : Img) (x : Chn) (W : World) : Prop where
  im : imgL.Box W bm m
  ch : chnL.Box W bc x
  er : errC be 0 W
  cg : Chg [] w W
  lt : bm < base ∧ bc < base ∧ be < base ∧ w.heap.size ≤ bc ∧ w.heap.size ≤ be ∧ w.heap.size ≤ base ∧ bc ≠ bm ∧ bc ≠ be
theorem RS.step {w : World} {base bm bc be : Nat} {m : Img} {x : Chn} {W W' : World} {S : List Nat} (h : RS w base bm bc be m x W) (k : Chg S W W') (hS : ∀ i ∈ S, base ≤ i) : RS w base bm bc be m x W' := by
  obtain ⟨h1, h2, h3, h4, h5⟩ := h
  exact ⟨h1.frameS k (fun hm => by have := hS _ hm; omega), h2.frameS k (fun hm => by have := hS _ hm; omega), k.heap h3 (fun hm => by have := hS _ hm; omega), h4.trans k (fun i hi hw => by have := hS _ hi; omega), h5⟩
theorem RS.pure {w : World} {base bm bc be : Nat} {m : Img} {x : Chn} {W W' : World} (h : RS w base bm bc be m x W) (k : Chg [] W W') : RS w base bm bc be m x W' := h.step k (by simp)
theorem RS.one {w : World} {base bm bc be : Nat} {m : Img} {x : Chn} {W W' : World} {b : Nat} (h : RS w base bm bc be m x W) (k : Chg [b] W W') (hb : base ≤ b) : RS w base bm bc be m x W' := h.step k (by simpa using hb)
theorem RS.imps {w : World} {base bm bc be : Nat} {m : Img} {x : Chn} {W : World} (h : RS w base bm bc be m x W) (s : SlV) : RS w base bm bc be m { x with imps := s } (W.setCell ⟨bc, 1, none⟩ (.slice s.a s.n s.cap)) := by
  obtain ⟨h1, h2, h3, h4, h5⟩ := h
  exact ⟨h1.setCell _ _ (by dsimp only; omega), Chn.set_imps h2 s, (heap_setCell_ne (by dsimp only; omega) _).trans h3, h4.setCell _ _ (.inr (by dsimp only; omega)), h5⟩
theorem RS.sts {w : World} {base bm bc be : Nat} {m : Img} {x : Chn} {W : World} (h : RS w base bm bc be m x W) (s : SlV) : RS w base bm bc be m { x with starts := s } (W.setCell ⟨bc, 0, none⟩ (.slice s.a s.n s.cap)) := by
  obtain ⟨h1, h2, h3, h4, h5⟩ := h
  exact ⟨h1.setCell _ _ (by dsimp only; omega), Chn.set_starts h2 s, (heap_setCell_ne (by dsimp only; omega) _).trans h3, h4.setCell _ _ (.inr (by dsimp only; omega)), h5⟩
set_option maxHeartbeats 4000000 in
theorem cread_any (B : List UInt8) (d n : Nat) (fm : Int) (l : List Imp) (at_ ims nms : Nat) (hh : Head B d n fm l at_ ims nms) (m : Img) (hd : m.deps.n = d) (hn : m.segs.n = n) (v : Value) (w : World) (rd : byteL.Rd w v B) :
    Calls Tryd.prog 9 #[v, imgL.val m] w fun e w' => (∃ c : Chn, e = .returned (.tuple #[chnL.val c, .int .i64 0]) ∧ c.starts = ⟨none, 0, 0⟩ ∧ impL.Rd w' c.imps.v l) ∧ Chg [] w w' := by
  obtain ⟨⟨hl1, hl2⟩, hfm, hmany, hw0, hw1, hw2, hw3, hw4, hw5, hw6, hat1, hat2, hat3, himp, hone⟩ := hh
  obtain ⟨fv, hfv, g, rfl, hcf, hrd⟩ := rdF_read hfm
  obtain ⟨a, cap, rfl, hc1, hc2⟩ := rd.shape
  have hmf : ∀ (fn : Fn) (first cap : Array Value) (w : World), (Instr.makeFunc fn first cap).run Tryd.prog w = .ok (.func fn first cap) w := fun _ _ _ _ => rfl
  have HNW : Hid (∀ W, Chg [] w W → Calls Tryd.prog 21 #[.slice a B.length cap, .bool false] W fun e w' => ∃ b, e = .returned (.pointer (some ⟨b, 0, none⟩)) ∧ W.heap.size ≤ b ∧ CurB w' b (cs B 0) ∧ Chg [] W w') := Lib.hid (fun W h => New_cur _ B false W (Rd_of_byte (rd.frame h)) (by omega))
  have HNV : Hid (∀ w (b p : Nat), p + 4 ≤ B.length → CurB w b (cs B p) → Calls Tryd.prog 25 #[.pointer (some ⟨b, 0, none⟩), .int .i64 4] w fun e w' => e = .returned (.int .u64 (WN B p 4)) ∧ CurB w' b (cs B (p + 4)) ∧ Chg [b] w w') := by
    refine Lib.hid ?_
    intro w b p hp hc
    have := Number_cur b (cs B p) 4 w hc
    rw [show ((4 : Int)) = ((4 : Nat) : Int) from rfl, numV (by decide) hp, numS (by decide) hp] at this
    exact this
  have HST : Hid (∀ (b q : Nat) (w : World), CurB w b (cs B q) → Calls Tryd.prog 26 #[.pointer (some ⟨b, 0, none⟩), imgL.val m, .int .u64 at_] w fun e w' => e = .returned (.slice none 0 0) ∧ (∃ p, CurB w' b (cs B p)) ∧ Chg [b] w w') := Lib.hid (fun b q w h => starts0_any B hl2 m n hn q at_ hat1 hat2 hat3 b w h)
  have HFV : Hid ((rdF fm).getD .nilFunc = .func (.func g) #[] #[]) := Lib.hid (by rw [hfv]; rfl)
  have HRD : Hid (∀ (b : Nat) (s : CS) (w : World), CurB w b s → Calls Tryd.prog g #[.pointer (some ⟨b, 0, none⟩)] w fun e w' => e = .returned (rawL.val (rawS fm s)) ∧ CurB w' b (rawE fm s) ∧ Chg [b] w w') := Lib.hid (hrd)
  have HIS : Hid (∀ k, k < l.length → rawE fm (cs B (ims + isz fm * k)) = cs B (ims + isz fm * (k + 1))) := by
    refine Lib.hid ?_
    intro k hk
    rw [rawE_cs, Nat.mul_succ, Nat.add_assoc]
    have : isz fm * (k + 1) ≤ isz fm * l.length := Nat.mul_le_mul_left _ hk
    rw [Nat.mul_succ] at this
    omega
  have HSK : Hid (∀ (b p q : Nat) (w : World), q ≤ B.length → CurB w b (cs B p) → Calls Tryd.prog 27 #[.pointer (some ⟨b, 0, none⟩), .int .u64 q] w fun e w' => e = .returned (.tuple #[]) ∧ CurB w' b (cs B q) ∧ Chg [b] w w') := by
    refine Lib.hid ?_
    intro b p q w hq hc
    have := seek_any b (cs B p) q w hc
    rw [sekC hq (Nat.le_trans hq hl2)] at this
    exact this
  have HW0 := Lib.hid hw0
  have HW1 := Lib.hid hw1
  have HW2 := Lib.hid hw2
  have HW3 := Lib.hid hw3
  have HW4 := Lib.hid hw4
  have HW5 := Lib.hid hw5
  have HW6 := Lib.hid hw6
  have HONE := Lib.hid hone
  have Hfv := Lib.hid hfv
  have Hrd := Lib.hid hrd
  have HRDD := Lib.hid rd
  have Hat2 := Lib.hid hat2
  have Hat3 := Lib.hid hat3
  clear hw0 hw1 hw2 hw3 hw4 hw5 hw6 hone hfv hrd rd hat2 hat3
  have himp0 : ims ≤ B.length := by
    have : 0 ≤ isz fm * l.length := Nat.zero_le _
    omega
  have Himp := Lib.hid himp
  clear himp
  have w5 : ((WN B 20 4 : Nat) : Int) = fm := HW5.out
  generalize hL : B.length = L at *
  have HL := Lib.hid hL
  clear hL
  have q1 := fun W => (Lay.run_eql_func (P := Tryd.prog) Tryd.underlying55 W).2.2.2
  have dmany : decide ((l.length : Int) ≤ 4096) = true := by simp; omega
  go_enter_defers Tryd.func9, Tryd.ntmps9
  go_wp2_with ((with_reducible refine Lay.bxL (L := imgL) 33 m ?_ ?_); exact rfl; intro W1 bm ebm cbm xbm; replace ebm := Lib.hid ebm; replace cbm := Lib.hid cbm; replace xbm := Lib.hid xbm; refine Hid.out ?_)
  refine Lib.hid ?_
  go_wp2_with ((with_reducible refine Lay.alL Tryd.tChn ?_); intro W2 bc ebc cbc xbc; replace ebc := Lib.hid ebc; replace cbc := Lib.hid cbc; replace xbc := Lib.hid xbc; refine Hid.out ?_)
  refine Lib.hid ?_
  go_upto_region 1 with fail
  obtain ⟨be, hbe⟩ : ∃ x, x = W2.heap.size := ⟨_, rfl⟩
  rw [← hbe]
  refine Lay.with_world (fun W => RS w W.heap.size bm bc be m .zero W) ⟨(xbm.out.frame cbc.out).alloc _, xbc.out.alloc _, by rw [hbe]; exact heap_alloc_eq _ _, (cbm.out.then cbc.out).alloc _, ?_⟩ (fun W hW => ?_)
  · have h1 := ebm.out
    have h2 := ebc.out
    have h3 := cbm.out.size
    have h4 := xbc.out.lt
    have h5 := (xbm.out.frame cbc.out).lt
    have h6 := xbm.out.lt
    have e9 : (W2.alloc (.cells #[.int .i64 0] 40)).heap.size = W2.heap.size + 1 := by simp
    rw [e9]
    omega
  have R0 := Lib.hid (hW)
  clear hW hbe ebm cbm xbm ebc cbc xbc
  go_wp2_with fail
  refine (HNW.out _ R0.out.cg).mono ?_
  rintro e W3 ⟨c, rfl, hcb, hcu, hch⟩
  have R3 := Lib.hid (R0.out.pure hch)
  have C3 := Lib.hid (hcu)
  have hc0 : W.heap.size ≤ c := hcb
  clear hcu hch hcb
  have d28 : decide ((28 : Int) ≤ (L : Int)) = true := by simp; omega
  go_wp2_with fail
  refine (need_ok 3 _).mono ?_
  rintro e W4 ⟨rfl, rfl⟩
  go_wp2_with fail
  refine (HNV.out _ c 0 (by omega) C3.out).mono ?_
  rintro e W5 ⟨rfl, hc, hg⟩
  rw [HW0.out]
  have C5 := Lib.hid (hc)
  have R5 := Lib.hid (R3.out.one hg hc0)
  clear hc hg
  go_wp2_with fail
  refine (HNV.out _ c 4 (by omega) C5.out).mono ?_
  rintro e W6 ⟨rfl, hc, hg⟩
  rw [HW1.out]
  have C6 := Lib.hid (hc)
  have R6 := Lib.hid (R5.out.one hg hc0)
  clear hc hg
  go_wp2_with fail
  refine (HNV.out _ c 8 (by omega) C6.out).mono ?_
  rintro e W7 ⟨rfl, hc, hg⟩
  rw [HW2.out]
  have C7 := Lib.hid (hc)
  have R7 := Lib.hid (R6.out.one hg hc0)
  clear hc hg
  go_wp2_with fail
  refine (HNV.out _ c 12 (by omega) C7.out).mono ?_
  rintro e W8 ⟨rfl, hc, hg⟩
  rw [HW3.out]
  have C8 := Lib.hid (hc)
  have R8 := Lib.hid (R7.out.one hg hc0)
  clear hc hg
  go_wp2_with fail
  refine (HNV.out _ c 16 (by omega) C8.out).mono ?_
  rintro e W9 ⟨rfl, hc, hg⟩
  rw [HW4.out]
  have C9 := Lib.hid (hc)
  have R9 := Lib.hid (R8.out.one hg hc0)
  clear hc hg
  go_wp2_with fail
  refine (HNV.out _ c 20 (by omega) C9.out).mono ?_
  rintro e WA ⟨rfl, hc, hg⟩
  rw [HW5.out]
  have CA := Lib.hid (hc)
  have RA := Lib.hid (R9.out.one hg hc0)
  clear hc hg
  go_wp2_with fail
  refine (HNV.out _ c 24 (by omega) CA.out).mono ?_
  rintro e WB ⟨rfl, hc, hg⟩
  rw [HW6.out]
  have CB := Lib.hid (hc)
  have RB := Lib.hid (RA.out.one hg hc0)
  clear hc hg
  go_wp2_with fail
  refine (readers_any _).mono ?_
  rintro e WC ⟨br, rfl, hm3, hg⟩
  have Hm3 := Lib.hid hm3
  clear hm3
  have CC := Lib.hid (CB.out.frame hg)
  have RC := Lib.hid (RB.out.pure hg)
  clear hg
  go_wp2_with ((with_reducible refine getV Tryd.tRdC Hm3.out fm (.func (.func g) #[] #[]) HFV.out ?_ ?_ ?_); exact rfl; exact rfl; refine Hid.out ?_)
  refine Lib.hid ?_
  go_wp2_with fail
  refine (need_ok 15 _).mono ?_
  rintro e WD ⟨rfl, rfl⟩
  go_wp2_with fail
  refine (need_ok 16 _).mono ?_
  rintro e WD ⟨rfl, rfl⟩
  go_wp2_with fail
  refine (need_ok 11 _).mono ?_
  rintro e WD ⟨rfl, rfl⟩
  go_wp2_with ((with_reducible refine Lay.ldL Tryd.tImg m (RC.out.im.in) ?_ ?_); exact rfl; refine Hid.out ?_)
  refine Lib.hid ?_
  go_wp2_with fail
  refine (HST.out c _ _ CC.out).mono ?_
  rintro e WE ⟨rfl, ⟨p1, hc⟩, hg⟩
  have CE := Lib.hid (hc)
  have RE := Lib.hid (RC.out.one hg hc0)
  have HNEC : Hid (c ≠ bc) := Lib.hid (by have := RE.out.lt; omega)
  clear hc hg
  have y0 := Chn.c_starts RE.out.ch
  have z0 := RE.out.ch.frozen 0
  go_upto_region 12 with fail
  refine Lay.with_world (fun W' => CurB W' c (cs B p1) ∧ RS w W.heap.size bm bc be m .zero W') ⟨CE.out.frameC RE.out.ch HNEC.out ((Chg.refl [bc] _).setCell _ _ (.inl (by simp))), RE.out.sts ⟨none, 0, 0⟩⟩ (fun WF hWF => ?_)
  obtain ⟨hc, hr⟩ := hWF
  clear y0 z0
  have CF := Lib.hid (hc)
  have RF := Lib.hid (hr)
  clear hc hr
  go_wp2_with fail
  refine (HSK.out c p1 ims _ himp0 CF.out).mono ?_
  rintro e WG ⟨rfl, hc, hg⟩
  have CG := Lib.hid (hc)
  have RG := Lib.hid (RF.out.one hg hc0)
  clear hc hg
  go_wp2_with fail
  refine (HNW.out _ RG.out.cg).mono ?_
  rintro e WH ⟨t, rfl, htb, hcu, hch⟩
  have CH := Lib.hid (CG.out.frame hch)
  have TH := Lib.hid (hcu)
  have RH := Lib.hid (RG.out.pure hch)
  have ht0 : W.heap.size ≤ t := Nat.le_trans (by have := CG.out.lt; omega) htb
  have hct : c < t := by have := CG.out.lt; omega
  have htz : t < WH.heap.size := hcu.lt
  have hcz : c < WH.heap.size := by omega
  have hbz : W.heap.size ≤ WH.heap.size := by omega
  clear htb hcu hch
  have Htz := Lib.hid htz
  have Hcz := Lib.hid hcz
  clear htz hcz
  go_wp2_with fail
  go_loopw [65] (fun s65 wr => ∃ (k q : Nat) (sl : SlV), k ≤ l.length ∧ s65 = .int .u64 (k : Int) ∧ CurB wr c (cs B (ims + isz fm * k)) ∧ CurB wr t (cs B q) ∧ RS w W.heap.size bm bc be m ⟨⟨none, 0, 0⟩, sl⟩ wr ∧ impL.Buf 23 wr WH.heap.size sl.v (l.take k) ∧ WH.heap.size ≤ wr.heap.size) (fun s65 _ => l.length - (intOf s65).toNat)
  case atStart => exact ⟨0, 0, ⟨none, 0, 0⟩, Nat.zero_le _, rfl, by rw [Nat.mul_zero, Nat.add_zero]; exact CH.out, TH.out, RH.out, Lay.Buf.nil _ _, Nat.le_refl _⟩
  case round =>
    obtain ⟨k, q, sl, hk, rfl, hcc, htt, hr, hu, hsz⟩ := hrel
    by_cases hlt : k < l.length
    · obtain ⟨p, q2, e1, e2, e3, e4, e5, e6⟩ := HONE.out k hlt
      have e7 := HIS.out k hlt
      have e8 := take_snoc hlt
      obtain ⟨ad, nd, cd⟩ := sl
      obtain ⟨_, _, he, hk1, hk2⟩ := hu.rd.shape
      cases he
      have hlen : (l.take k).length = k := by rw [List.length_take]; omega
      rw [hlen] at hk1 hr hu
      replace hu : impL.Buf 23 wr WH.heap.size (.slice ad k cd) (l.take k) := hu
      have h3 := HRD.out c (cs B (ims + isz fm * k)) wr hcc
      rw [e1, e7] at h3
      generalize l.getD k .zero = x at *
      have w1 : IntKind.u64.wrap ((nms : Int) + (p : Int)) = ((nms + p : Nat) : Int) := by rw [IntKind.wrap_u64]; omega
      have hnp : nms + p ≤ L := e2
      have e4s : (⟨(textL (cs B (nms + p)) 255).toArray⟩ : ByteArray) = x.sym := by rw [e4]
      have e5n : ¬ x.sym.toList = [] := by
        intro e
        rw [Lib.toList_data] at e
        have := str_len x.sym
        rw [e] at this
        exact e5 this.symm
      have e5e : x.sym.toList.isEmpty = false := by cases e : x.sym.toList with | nil => exact absurd e e5n | cons a b => rfl
      have hcz2 : CurB W4 c (cs B 0) := C3.out
      have E1 := Lib.hid e1
      have E3 := Lib.hid e3
      have E4 := Lib.hid e4
      have E5 := Lib.hid e5
      have E6 := Lib.hid e6
      have E7 := Lib.hid e7
      have E8 := Lib.hid e8
      have Hcc := Lib.hid hcc
      have Htt := Lib.hid htt
      have Hr := Lib.hid hr
      have Hu := Lib.hid hu
      have Hlen := Lib.hid hlen
      have H3 := Lib.hid h3
      have HCZ := Lib.hid hcz2
      have E4s := Lib.hid e4s
      clear e1 e3 e4 e5 e6 e7 e8 hcc htt hr hu hlen h3 hcz2 e4s
      go_wp2_with fail
      refine H3.out.mono ?_
      rintro e V1 ⟨rfl, hc, hg⟩
      have C1 := Lib.hid (hc)
      have T1 := Lib.hid (Htt.out.frame2 Hcc.out (by omega) hg)
      have R1 := Lib.hid (Hr.out.one hg hc0)
      have U1 := Lib.hid (Hu.out.frame hg (fun b hb hm => by have := (Hu.out.lt b hb).1; simp at hm; have := Hcz.out; omega))
      have hs1 : WH.heap.size ≤ V1.heap.size := Nat.le_trans hsz hg.size
      clear hc hg
      go_wp2_with ((with_reducible refine Lay.alL Tryd.tRaw ?_); intro V2 bx ebx cbx xbx; replace ebx := Lib.hid ebx; replace cbx := Lib.hid cbx; replace xbx := Lib.hid xbx; refine Hid.out ?_)
      refine Lib.hid ?_
      go_wp2_with ((with_reducible refine Lay.stL Tryd.tRaw (⟨x.ord, x.weak, ⟨#[]⟩, x.add, (p : Nat)⟩ : Raw) (xbx.out) ?_ ?_ ?_); exact rfl; exact rfl; intro V3 cV3 xV3; replace cV3 := Lib.hid cV3; replace xV3 := Lib.hid xV3; refine Hid.out ?_)
      refine Lib.hid ?_
      have hbx : WH.heap.size ≤ bx := by rw [ebx.out]; exact hs1
      have D3 : Hid (Chg [bx] V1 V3) := Lib.hid (cbx.out.add.same cV3.out)
      have C3b := Lib.hid (C1.out.frameN D3.out CH.out (by simpa using hbx))
      have T3b := Lib.hid (T1.out.frameN D3.out TH.out (by simpa using hbx))
      have R3b := Lib.hid (R1.out.step D3.out (by simp; omega))
      have N3 : Hid (∀ b, (Value.slice ad k cd).ownBlock = some b → b ≠ bx) := by
        refine Lib.hid ?_
        intro b hb
        have := (U1.out.lt b hb).2
        rw [ebx.out]
        omega
      have U3 := Lib.hid (U1.out.frame D3.out (fun b hb hm => N3.out b hb (by simpa using hm)))
      have hs3 : WH.heap.size ≤ V3.heap.size := Nat.le_trans hs1 D3.out.size
      have X3 := Lib.hid (xV3.out)
      clear cbx xbx cV3 xV3
      go_wp2_with fail
      refine (well_ok c _ _ C3b.out rfl).mono ?_
      rintro e V4 ⟨rfl, hg⟩
      have G4 := Lib.hid (hg)
      clear hg
      have X4 := Lib.hid (X3.out.frame G4.out)
      have x0 := Raw.c_ord X4.out
      have I4 := Lib.hid ((R3b.out.pure G4.out))
      go_wp2_with ((with_reducible refine Lay.ldL Tryd.tImg m (I4.out.im.in) ?_ ?_); exact rfl; refine Hid.out ?_)
      refine Lib.hid ?_
      go_wp2_with fail
      refine (ordinal_any x.ord m _).mono ?_
      rintro e V5 ⟨rfl, hg⟩
      rw [hd, E6.out]
      have G5 := Lib.hid (G4.out.then hg)
      clear hg x0 X4 I4
      go_wp2_with fail
      refine (need_ok 22 _).mono ?_
      rintro e V5b ⟨rfl, rfl⟩
      have X5 := Lib.hid (X3.out.frame G5.out)
      have x4 := Raw.c_name X5.out
      have T5 := Lib.hid (T3b.out.frame G5.out)
      go_wp2_with fail
      refine (HSK.out t q (nms + p) _ hnp T5.out).mono ?_
      rintro e V6 ⟨rfl, hc, hg⟩
      have T6 := Lib.hid (hc)
      have G6 : Hid (Chg [t] V3 V6) := Lib.hid (G5.out.add.same hg)
      clear hc hg x4
      go_wp2_with fail
      refine (Text_cur t _ 255 _ T6.out).mono ?_
      rintro e V7 ⟨rfl, hc, hg⟩
      rw [E4s.out]
      rw [E3.out] at hc
      have T7 := Lib.hid (hc)
      have G7 := Lib.hid (G6.out.same hg)
      clear hc hg T6 G6 T5 X5 G5 G4
      have htx : t < bx := by have := Htz.out; omega
      have X7 := Lib.hid (X3.out.frameS G7.out (by simp; omega))
      have C7b := Lib.hid (C3b.out.frame2 T3b.out (by omega) G7.out)
      have R7b := Lib.hid (R3b.out.one G7.out ht0)
      have U7 := Lib.hid (U3.out.frame G7.out (fun b hb hm => by have := (U3.out.lt b hb).1; simp at hm; have := Htz.out; omega))
      have hs7 : WH.heap.size ≤ V7.heap.size := Nat.le_trans hs3 G7.out.size
      clear X3 C3b T3b R3b U3 G7 C1 T1 R1 U1 D3
      have y2 := Raw.c_sym X7.out
      have z2 := X7.out.frozen 2
      go_upto_region 21 with fail
      refine Lay.with_world (fun W' => rawL.Box W' bx ⟨x.ord, x.weak, x.sym, x.add, (p : Nat)⟩ ∧ Chg [bx] V7 W') ⟨Raw.set_sym X7.out x.sym, (Chg.refl [bx] _).setCell _ _ (.inl (by simp))⟩ (fun V8 hV => ?_)
      obtain ⟨hx, hg⟩ := hV
      clear y2 z2
      have X8 := Lib.hid (hx)
      have C8b := Lib.hid (C7b.out.frameN hg CH.out (by simpa using hbx))
      have T8 := Lib.hid (T7.out.frameN hg TH.out (by simpa using hbx))
      have R8b := Lib.hid (R7b.out.step hg (by simp; omega))
      have U8 := Lib.hid (U7.out.frame hg (fun b hb hm => N3.out b hb (by simpa using hm)))
      have hs8 : WH.heap.size ≤ V8.heap.size := Nat.le_trans hs7 hg.size
      clear hx hg X7 C7b T7 R7b U7
      go_wp2_with fail
      refine (Err_ok t _ _ T8.out rfl).mono ?_
      rintro e V9 ⟨rfl, hg⟩
      have X9 := Lib.hid (X8.out.frame hg)
      have C9b := Lib.hid (C8b.out.frame hg)
      have T9 := Lib.hid (T8.out.frame hg)
      have R9b := Lib.hid (R8b.out.pure hg)
      have U9 := Lib.hid (U8.out.pure hg)
      have hs9 : WH.heap.size ≤ V9.heap.size := Nat.le_trans hs8 hg.size
      clear hg X8 C8b T8 R8b U8
      have y2 := Raw.c_sym X9.out
      go_wp2_with fail
      refine (need_ok 10 _).mono ?_
      rintro e V9b ⟨rfl, rfl⟩
      clear y2
      have y1 := Chn.c_imps R9b.out.ch
      have I9 : Hid (impL.In V9b bx 0 x) := by
        refine Lib.hid ?_
        intro c hc
        have := X9.out.in c (Nat.lt_of_lt_of_le hc (by decide))
        rw [this]
        have hc4 : c = 0 ∨ c = 1 ∨ c = 2 ∨ c = 3 := by have : c < 4 := hc; omega
        rcases hc4 with rfl | rfl | rfl | rfl <;> rfl
      go_wp2_with ((with_reducible refine Lay.ldL Tryd.tImp x (I9.out) ?_ ?_); exact rfl; refine Hid.out ?_)
      refine Lib.hid ?_
      go_wp2_with ((with_reducible refine bs1 (x) (imp_built x) ?_ ?_ ?_); exact rfl; exact rfl; intro VA va cva rva; replace cva := Lib.hid cva; replace rva := Lib.hid rva; refine Hid.out ?_)
      refine Lib.hid ?_
      have UA := Lib.hid (U9.out.pure cva.out)
      go_wp2_with (at_builtin; refine Lay.app (L := impL) Tryd.infoImp rfl _ _ rfl WH.heap.size (.slice ad k cd) (l.take k) rfl UA.out _ rfl [x] rva.out (by rw [Hlen.out]; simp; omega) (by rw [Hlen.out]; simp; omega) (Nat.le_trans hs9 cva.out.size) ?_; intro vb VB hov hgv hlc; refine Hid.out ?_)
      refine Lib.hid ?_
      have DB : Hid (Chg (Value.slice ad k cd).ownBlock.toList V9b VB) := Lib.hid (cva.out.add.same (Lay.chg_grown hgv))
      have SB : Hid (∀ i ∈ (Value.slice ad k cd).ownBlock.toList, WH.heap.size ≤ i) := Lib.hid (fun i hi => (UA.out.lt i (by simpa using hi)).1)
      rw [← E8.out] at hov
      have UB := Lib.hid (hov)
      obtain ⟨ab, cb, rfl, hb1, hb2⟩ := hov.rd.shape
      have hlen1 : (l.take (k + 1)).length = k + 1 := by rw [List.length_take]; omega
      have CB9 := Lib.hid (C9b.out.frameN DB.out CH.out SB.out)
      have TB9 := Lib.hid (T9.out.frameN DB.out TH.out SB.out)
      have RB9 := Lib.hid (R9b.out.step DB.out (fun i hi => Nat.le_trans hbz (SB.out i hi)))
      have hsB : WH.heap.size ≤ VB.heap.size := Nat.le_trans hs9 DB.out.size
      rw [hlen1] at UB
      rw [hlen1]
      clear hov hgv hlc y1 C9b T9 R9b U9 UA X9 I9 cva rva hb1 hb2
      have Hlen1 := Lib.hid hlen1
      clear hlen1
      have z1 := RB9.out.ch.frozen 1
      have y1 := Chn.c_imps RB9.out.ch
      go_wp2
      go_roundw
      case rel =>
        have hl3 := RB9.out.lt
        have hw : VB.setCell ⟨bc, 1, none⟩ (.slice ab (k + 1) cb) = VB.setCell ⟨bc, 1, none⟩ (.slice ab (k + 1) cb) := rfl
        have hgc : Chg [bc] VB (VB.setCell ⟨bc, 1, none⟩ (.slice ab (k + 1) cb)) := (Chg.refl _ _).setCell _ _ (.inl (by simp))
        refine ⟨k + 1, q2, ⟨ab, k + 1, cb⟩, hlt, by go_num, CB9.out.frameC RB9.out.ch (by omega) hgc, TB9.out.frameC RB9.out.ch (by omega) hgc, RB9.out.imps ⟨ab, k + 1, cb⟩, UB.out.frame hgc (fun b hb hm => by have := (UB.out.lt b hb).1; simp at hm; omega), Nat.le_trans hsB hgc.size⟩
      case measure => simp [intOf]; omega
    · obtain rfl : k = l.length := by omega
      rw [List.take_length] at hu
      have Hcc := Lib.hid hcc
      have Htt := Lib.hid htt
      have Hr := Lib.hid hr
      have Hu := Lib.hid hu
      clear hcc htt hr hu
      go_wp2_with ((with_reducible refine Lay.ldL Tryd.tChn (⟨⟨none, 0, 0⟩, sl⟩ : Chn) (Hr.out.ch.in) ?_ ?_); exact rfl; refine Hid.out ?_)
      refine Lib.hid ?_
      go_wp2_with ((with_reducible refine Lay.stL Tryd.tChn (⟨⟨none, 0, 0⟩, sl⟩ : Chn) (Hr.out.ch) ?_ ?_ ?_); exact rfl; exact rfl; intro V1 cV1 xV1; replace cV1 := Lib.hid cV1; replace xV1 := Lib.hid xV1; refine Hid.out ?_)
      refine Lib.hid ?_
      have hlt3 := Hr.out.lt
      have hnb : be ∉ [bc] := by simp; omega
      have E1 : Hid (errC be 0 V1) := Lib.hid (cV1.out.heap Hr.out.er hnb)
      have y0 : V1.cell? ⟨be, 0, none⟩ = some (.int .i64 0) := cell_of_heap E1.out 0
      have z0 : V1.frozen? ⟨be, 0, none⟩ = false := frozen_of_heap E1.out 0
      go_wp2
      obtain ⟨WZ, hWZ⟩ : ∃ x, x = V1.setCell ⟨be, 0, none⟩ (.int .i64 0) := ⟨_, rfl⟩
      rw [← hWZ]
      have hbe : Chg [be] V1 WZ := by rw [hWZ]; exact (Chg.refl _ _).setCell _ _ (.inl (by simp))
      have hct : Chg [] w WZ := (Hr.out.cg.trans cV1.out (fun i hi hw => by simp at hi; omega)).trans hbe (fun i hi hw => by simp at hi; omega)
      have hrd' : impL.Rd WZ sl.v l := ((Hu.out.frame cV1.out (fun b hb hm => by have := (Hu.out.lt b hb).1; simp at hm; omega)).frame hbe (fun b hb hm => by have := (Hu.out.lt b hb).1; simp at hm; omega)).rd
      have w0 : WZ.cell? ⟨be, 0, none⟩ = some (.int .i64 0) := by rw [hWZ]; exact World.cell?_setCell_same _ _ _ y0
      have hbx : chnL.Box WZ bc ⟨⟨none, 0, 0⟩, sl⟩ := xV1.out.frameS hbe (by simp; omega)
      clear hWZ hbe
      refine leaves_cons (f := 23) (args := #[.pointer (some ⟨be, 0, none⟩)]) (by simp) (by simp [go_sem]) ?_
      refine (caught_idle ⟨be, 0, none⟩ _).mono ?_
      rintro e u' w'' ⟨rfl, rfl, rfl⟩
      refine leaves_cons (f := 22) (args := #[.pointer (some ⟨be, 0, none⟩), .pointer (some ⟨bc, 0, none⟩)]) (by simp [settle]) (by simp [go_sem]) ?_
      refine (clos_ok ⟨be, 0, none⟩ _ _ _ w0).mono ?_
      rintro e u' w'' ⟨rfl, rfl, rfl⟩
      have h2 : (loadVar 38 ⟨bc, 0, none⟩).run Tryd.prog w'' = .ok (chnL.val ⟨⟨none, 0, 0⟩, sl⟩) w'' := Lay.run_load_rec Tryd.tChn hbx.in
      simp only [settle, Leaves]
      refine ⟨.tuple #[chnL.val ⟨⟨none, 0, 0⟩, sl⟩, .int .i64 0], ?_, ⟨_, rfl, rfl, hrd'⟩, hct⟩
      exact results2 Tryd.results9 rfl rfl h2 (load_errC w0)
set_option maxHeartbeats 4000000 in
theorem cread_many (B : List UInt8) (fm : Int) (at_ ims nms N : Nat) (hl1 : 28 ≤ B.length) (hl2 : B.length ≤ 2147483647) (hfm : fm = 1 ∨ fm = 2 ∨ fm = 3) (hw0 : WN B 0 4 = 0) (hw1 : WN B 4 4 = at_) (hw2 : WN B 8 4 = ims) (hw3 : WN B 12 4 = nms) (hw4 : WN B 16 4 = N) (hN : 4096 < N) (hw5 : ((WN B 20 4 : Nat) : Int) = fm) (hw6 : WN B 24 4 = 0) (m : Img) (v : Value) (w : World) (rd : byteL.Rd w v B) :
    Calls Tryd.prog 9 #[v, imgL.val m] w fun e w' => e = .returned (.tuple #[chnL.val .zero, .int .i64 11]) ∧ Chg [] w w' := by
  obtain ⟨fv, hfv, g, rfl, hcf, hrd⟩ := rdF_read hfm
  obtain ⟨a, cap, rfl, hc1, hc2⟩ := rd.shape
  have hmf : ∀ (fn : Fn) (first cap : Array Value) (w : World), (Instr.makeFunc fn first cap).run Tryd.prog w = .ok (.func fn first cap) w := fun _ _ _ _ => rfl
  have HNW : Hid (∀ W, Chg [] w W → Calls Tryd.prog 21 #[.slice a B.length cap, .bool false] W fun e w' => ∃ b, e = .returned (.pointer (some ⟨b, 0, none⟩)) ∧ W.heap.size ≤ b ∧ CurB w' b (cs B 0) ∧ Chg [] W w') := Lib.hid (fun W h => New_cur _ B false W (Rd_of_byte (rd.frame h)) (by omega))
  have HNV : Hid (∀ w (b p : Nat), p + 4 ≤ B.length → CurB w b (cs B p) → Calls Tryd.prog 25 #[.pointer (some ⟨b, 0, none⟩), .int .i64 4] w fun e w' => e = .returned (.int .u64 (WN B p 4)) ∧ CurB w' b (cs B (p + 4)) ∧ Chg [b] w w') := by
    refine Lib.hid ?_
    intro w b p hp hc
    have := Number_cur b (cs B p) 4 w hc
    rw [show ((4 : Int)) = ((4 : Nat) : Int) from rfl, numV (by decide) hp, numS (by decide) hp] at this
    exact this
  have HFV : Hid ((rdF fm).getD .nilFunc = .func (.func g) #[] #[]) := Lib.hid (by rw [hfv]; rfl)
  have HW0 := Lib.hid hw0
  have HW1 := Lib.hid hw1
  have HW2 := Lib.hid hw2
  have HW3 := Lib.hid hw3
  have HW4 := Lib.hid hw4
  have HW5 := Lib.hid hw5
  have HW6 := Lib.hid hw6
  have Hfv := Lib.hid hfv
  have Hrd := Lib.hid hrd
  have HRDD := Lib.hid rd
  clear hw0 hw1 hw2 hw3 hw4 hw5 hw6 hfv hrd rd
  have w5 : ((WN B 20 4 : Nat) : Int) = fm := HW5.out
  generalize hL : B.length = L at *
  have HL := Lib.hid hL
  clear hL
  have q1 := fun W => (Lay.run_eql_func (P := Tryd.prog) Tryd.underlying55 W).2.2.2
  have dmany : decide ((N : Int) ≤ 4096) = false := by simp; omega
  go_enter_defers Tryd.func9, Tryd.ntmps9
  go_wp2_with ((with_reducible refine Lay.bxL (L := imgL) 33 m ?_ ?_); exact rfl; intro W1 bm ebm cbm xbm; replace ebm := Lib.hid ebm; replace cbm := Lib.hid cbm; replace xbm := Lib.hid xbm; refine Hid.out ?_)
  refine Lib.hid ?_
  go_wp2_with ((with_reducible refine Lay.alL Tryd.tChn ?_); intro W2 bc ebc cbc xbc; replace ebc := Lib.hid ebc; replace cbc := Lib.hid cbc; replace xbc := Lib.hid xbc; refine Hid.out ?_)
  refine Lib.hid ?_
  go_upto_region 1 with fail
  obtain ⟨be, hbe⟩ : ∃ x, x = W2.heap.size := ⟨_, rfl⟩
  rw [← hbe]
  refine Lay.with_world (fun W => RS w W.heap.size bm bc be m .zero W) ⟨(xbm.out.frame cbc.out).alloc _, xbc.out.alloc _, by rw [hbe]; exact heap_alloc_eq _ _, (cbm.out.then cbc.out).alloc _, ?_⟩ (fun W hW => ?_)
  · have h1 := ebm.out
    have h2 := ebc.out
    have h3 := cbm.out.size
    have h4 := xbc.out.lt
    have h5 := (xbm.out.frame cbc.out).lt
    have h6 := xbm.out.lt
    have e9 : (W2.alloc (.cells #[.int .i64 0] 40)).heap.size = W2.heap.size + 1 := by simp
    rw [e9]
    omega
  have R0 := Lib.hid (hW)
  clear hW hbe ebm cbm xbm ebc cbc xbc
  go_wp2_with fail
  refine (HNW.out _ R0.out.cg).mono ?_
  rintro e W3 ⟨c, rfl, hcb, hcu, hch⟩
  have R3 := Lib.hid (R0.out.pure hch)
  have C3 := Lib.hid (hcu)
  have hc0 : W.heap.size ≤ c := hcb
  clear hcu hch hcb
  have d28 : decide ((28 : Int) ≤ (L : Int)) = true := by simp; omega
  go_wp2_with fail
  refine (need_ok 3 _).mono ?_
  rintro e W4 ⟨rfl, rfl⟩
  go_wp2_with fail
  refine (HNV.out _ c 0 (by omega) C3.out).mono ?_
  rintro e W5 ⟨rfl, hc, hg⟩
  rw [HW0.out]
  have C5 := Lib.hid (hc)
  have R5 := Lib.hid (R3.out.one hg hc0)
  clear hc hg
  go_wp2_with fail
  refine (HNV.out _ c 4 (by omega) C5.out).mono ?_
  rintro e W6 ⟨rfl, hc, hg⟩
  rw [HW1.out]
  have C6 := Lib.hid (hc)
  have R6 := Lib.hid (R5.out.one hg hc0)
  clear hc hg
  go_wp2_with fail
  refine (HNV.out _ c 8 (by omega) C6.out).mono ?_
  rintro e W7 ⟨rfl, hc, hg⟩
  rw [HW2.out]
  have C7 := Lib.hid (hc)
  have R7 := Lib.hid (R6.out.one hg hc0)
  clear hc hg
  go_wp2_with fail
  refine (HNV.out _ c 12 (by omega) C7.out).mono ?_
  rintro e W8 ⟨rfl, hc, hg⟩
  rw [HW3.out]
  have C8 := Lib.hid (hc)
  have R8 := Lib.hid (R7.out.one hg hc0)
  clear hc hg
  go_wp2_with fail
  refine (HNV.out _ c 16 (by omega) C8.out).mono ?_
  rintro e W9 ⟨rfl, hc, hg⟩
  rw [HW4.out]
  have C9 := Lib.hid (hc)
  have R9 := Lib.hid (R8.out.one hg hc0)
  clear hc hg
  go_wp2_with fail
  refine (HNV.out _ c 20 (by omega) C9.out).mono ?_
  rintro e WA ⟨rfl, hc, hg⟩
  rw [HW5.out]
  have CA := Lib.hid (hc)
  have RA := Lib.hid (R9.out.one hg hc0)
  clear hc hg
  go_wp2_with fail
  refine (HNV.out _ c 24 (by omega) CA.out).mono ?_
  rintro e WB ⟨rfl, hc, hg⟩
  rw [HW6.out]
  have CB := Lib.hid (hc)
  have RB := Lib.hid (RA.out.one hg hc0)
  clear hc hg
  go_wp2_with fail
  refine (readers_any _).mono ?_
  rintro e WC ⟨br, rfl, hm3, hg⟩
  have Hm3 := Lib.hid hm3
  clear hm3
  have CC := Lib.hid (CB.out.frame hg)
  have RC := Lib.hid (RB.out.pure hg)
  clear hg
  go_wp2_with ((with_reducible refine getV Tryd.tRdC Hm3.out fm (.func (.func g) #[] #[]) HFV.out ?_ ?_ ?_); exact rfl; exact rfl; refine Hid.out ?_)
  refine Lib.hid ?_
  go_wp2_with fail
  refine (need_ok 15 _).mono ?_
  rintro e WD ⟨rfl, rfl⟩
  go_wp2_with fail
  refine (need_ok 16 _).mono ?_
  rintro e WD ⟨rfl, rfl⟩
  go_wp2_with fail
  refine (need_bad 11 _).mono ?_
  rintro e WD ⟨rfl, rfl⟩
  unfold stopE
  have y0 : WD.cell? ⟨be, 0, none⟩ = some (.int .i64 0) := cell_of_heap RC.out.er 0
  have z0 : WD.frozen? ⟨be, 0, none⟩ = false := frozen_of_heap RC.out.er 0
  refine leaves_cons (f := 23) (args := #[.pointer (some ⟨be, 0, none⟩)]) (by simp) (by simp [go_sem]) ?_
  refine (caught_stop ⟨be, 0, none⟩ _ 11 _ y0 z0).mono ?_
  rintro e u' w'' ⟨rfl, rfl, rfl⟩
  obtain ⟨WZ, hWZ⟩ : ∃ x, x = (WD.alloc (.cells #[.int .i64 11] 99)).setCell ⟨be, 0, none⟩ (.int .i64 11) := ⟨_, rfl⟩
  rw [← hWZ]
  have hl3 := RC.out.lt
  have hbe : Chg [be] WD WZ := by rw [hWZ]; exact ((Chg.refl _ _).alloc _).setCell _ _ (.inl (by simp))
  have hct : Chg [] w WZ := RC.out.cg.trans hbe (fun i hi hw => by simp at hi; omega)
  have w0 : WZ.cell? ⟨be, 0, none⟩ = some (.int .i64 11) := by
    rw [hWZ]
    exact World.cell?_setCell_same _ _ _ (by rw [World.cell?_alloc_lt _ _ _ (World.block_lt_of_cell? _ _ y0)]; exact y0)
  have hbx : chnL.Box WZ bc .zero := RC.out.ch.frameS hbe (by simp; omega)
  clear hWZ hbe
  refine leaves_cons (f := 22) (args := #[.pointer (some ⟨be, 0, none⟩), .pointer (some ⟨bc, 0, none⟩)]) (by simp [settle]) (by simp [go_sem]) ?_
  refine (clos_bad ⟨be, 0, none⟩ bc .zero 11 (by decide) _ _ w0 hbx).mono ?_
  rintro e u' w'' ⟨rfl, rfl, hb2, hg2⟩
  have w1 : w''.cell? ⟨be, 0, none⟩ = some (.int .i64 11) := hg2.cell w0 (by simp; omega)
  have h2 : (loadVar 38 ⟨bc, 0, none⟩).run Tryd.prog w'' = .ok (chnL.val .zero) w'' := Lay.run_load_rec Tryd.tChn hb2.in
  simp only [settle]
  refine ⟨.tuple #[chnL.val .zero, .int .i64 11], ?_, rfl, hct.trans hg2 (fun i hi hw => by simp at hi; omega)⟩
  exact results2 Tryd.results9 rfl rfl h2 (load_errC w1)
end Go.Proofs.YtkclmknepbbhnaaDoor
