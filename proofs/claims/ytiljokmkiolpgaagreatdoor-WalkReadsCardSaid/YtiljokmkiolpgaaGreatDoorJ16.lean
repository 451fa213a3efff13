/- Lemmas, laid together: part 16 of 42. Conditions: none but each lemma's own. -/
import Derived.Test.YtiljokmkiolpgaaGreatDoorJ15
import Derived.Test.YtiljokmkiolpgaaGreatDoorJ4
import Derived.Test.YtiljokmkiolpgaaGreatDoorJ3
import Derived.Test.YtiljokmkiolpgaaGreatDoorJ2
import Derived.Test.YtiljokmkiolpgaaGreatDoorJ11
import Derived.Test.YtiljokmkiolpgaaGreatDoorJ14
import Derived.Test.YtiljokmkiolpgaaGreatDoorJ12
import Derived.Test.YtiljokmkiolpgaaGreatDoorJ1
namespace Go.Proofs.YtiljokmkiolpgaaGreatDoor
open Go.RowKit
set_option maxRecDepth 100000
theorem startOf_any (B : List UInt8) (b q : Nat) (s : CS) (hs1 : q ≤ B.length → s = cs B q) (hs2 : B.length < q → s.failed = true) (m : Img) (ls : List Seg) (hls : SegsB ls) (hend : ∀ k, k < ls.length → (ls.getD k .zero).size ≤ 140737488355328) (i : Nat) (hi : i < ls.length) (w : World) (hg : Env w) (hlo : 1 < b) (hcu : CurB w b s) (rd : segL.Rd w m.segs.v ls) (hso : ∀ k, m.segs.v.ownBlock = some k → k ∉ [b]) :
  Calls Tryz.prog 88 #[.pointer (some ⟨b, 0, none⟩), imgL.val m, .int .i64 i] w (SoP w b B (startC B ls i q)) := by
 by_cases h : q + 22 ≤ B.length
 ·rw [hs1 (by omega)] at hcu
  exact startOf_main B b q h m ls hls hend i hi w hg hlo hcu rd hso
 ·have e : startC B ls i q = .bad 3 := by unfold startC; rw [if_neg h]
  rw [e]
  refine startOf_short B b s ?_ m i w hg hlo hcu
  by_cases hq : q ≤ B.length
  ·rw [hs1 hq]
   have n1 : q + 4 ≤ B.length ∨ B.length < q + 4 := by omega
   rcases n1 with h1 | h1
   ·rw [show ((4 : Int)) = ((4 : Nat) : Int) from rfl, show ((2 : Int)) = ((2 : Nat) : Int) from rfl, show ((8 : Int)) = ((8 : Nat) : Int) from rfl, numS (by decide) h1]
    rcases Nat.lt_or_ge B.length (q + 4 + 2) with h2 | h2
    ·exact numF (numF (numF (numF (numX h2) _) _) _) _
    ·rw [numS (by decide) h2]
     rcases Nat.lt_or_ge B.length (q + 4 + 2 + 2) with h3 | h3
     ·exact numF (numF (numF (numX h3) _) _) _
     ·rw [numS (by decide) h3]
      rcases Nat.lt_or_ge B.length (q + 4 + 2 + 2 + 8) with h4 | h4
      ·exact numF (numF (numX h4) _) _
      ·rw [numS (by decide) h4]
       rcases Nat.lt_or_ge B.length (q + 4 + 2 + 2 + 8 + 4) with h5 | h5
       ·exact numF (numX h5) _
       ·rw [numS (by decide) h5]
        exact numX (by omega)
   ·exact numF (numF (numF (numF (numF (numX h1) _) _) _) _) _
  ·exact numF (numF (numF (numF (numF (numF (hs2 (by omega)) _) _) _) _) _) _
def SsP (w : World) (b : Nat) (B : List UInt8) (r : ChR (List StP)) (e : Ending) (w' : World) : Prop :=
 Chg [b] w w' ∧ match r with
 | .ok ss => ∃ (sl : SlV) (xs : List Sta) (p : Nat), e = .returned (.slice sl.a sl.n sl.cap) ∧ staL.Buf 51 w' w.heap.size (.slice sl.a sl.n sl.cap) xs ∧ StsIn w' w.heap.size xs ss ∧ CurB w' b (cs B p)
 | .bad n => e = stopE n
theorem ssP_bad {w : World} {b : Nat} {B : List UInt8} {R : ChR (List StP)} {n : Int} {w' : World} (hR : R = .bad n) (h : Chg [b] w w') : SsP w b B R (stopE n) w' := by rw [hR]; exact ⟨h, rfl⟩
theorem stsC_succ (B : List UInt8) (ls : List Seg) (q n i : Nat) (acc : List StP) : stsC B ls q (n + 1) i acc = if q + 4 + 4 * i + 4 ≤ B.length then (if WN B (q + 4 + 4 * i) 4 = 0 then stsC B ls q n (i + 1) acc else (startC B ls i (q + WN B (q + 4 + 4 * i) 4)).then fun s => stsC B ls q n (i + 1) (acc ++ [s])) else .bad 3 := rfl
theorem seek_st {B : List UInt8} (hB : B.length ≤ 2147483647) (p q : Nat) : (q ≤ B.length → seekC (cs B p) q = cs B q) ∧ (B.length < q → (seekC (cs B p) q).failed = true) :=
 ⟨fun h => sekC h (Nat.le_trans h hB), fun h => sekX h⟩
structure SsW (w W : World) (b bm : Nat) (m : Img) : Prop where
 im : imgL.Box W bm m
 cg : Chg [b] w W
 b_lt : b < w.heap.size
 lo : w.heap.size ≤ bm
theorem SsW.high {w W W' : World} {b bm : Nat} {m : Img} (h : SsW w W b bm m) {S : List Nat} (k : Chg S W W') (hS : ∀ i ∈ S, i = b ∨ bm < i) : SsW w W' b bm m := by
 have h1 := h.b_lt
 have h2 := h.lo
 exact ⟨h.im.frameS k (fun hm => by rcases hS _ hm with e | e <;> omega), h.cg.trans k (fun i hi hw => (hS i hi).elim (fun e => List.mem_singleton.2 e) (fun e => absurd hw (by omega))), h1, h2⟩
theorem SsW.one {w W W' : World} {b bm : Nat} {m : Img} (h : SsW w W b bm m) (k : Chg [b] W W') : SsW w W' b bm m := h.high k (fun _ hi => .inl (List.mem_singleton.1 hi))
theorem SsW.pure {w W W' : World} {b bm : Nat} {m : Img} (h : SsW w W b bm m) (k : Chg [] W W') : SsW w W' b bm m := h.high k (fun _ hi => by cases hi)
theorem num_bad {B : List UInt8} {s : CS} {q k : Nat} (hs1 : q ≤ B.length → s = cs B q) (hs2 : B.length < q → s.failed = true) (h : B.length < q + k) : (numberS s k).failed = true := by
 rcases Nat.lt_or_ge B.length q with h1 | h1
 ·exact numF (hs2 h1) _
 ·rw [hs1 h1]; exact numX h
set_option maxHeartbeats 8000000 in
theorem starts_any (B : List UInt8) (hB : B.length ≤ 2147483647) (b p0 q : Nat) (hq : q < 4294967296) (m : Img) (ls : List Seg) (hls : SegsB ls) (hend : ∀ k, k < ls.length → (ls.getD k .zero).size ≤ 140737488355328) (hn1 : ls.length ≤ 1048576) (w : World) (hg : Env w) (hlo : 1 < b) (hcu : CurB w b (cs B p0)) (rd : segL.Rd w m.segs.v ls) (hso : ∀ k, m.segs.v.ownBlock = some k → k ∉ [b]) :
  Calls Tryz.prog 47 #[.pointer (some ⟨b, 0, none⟩), imgL.val m, .int .u64 q] w (SsP w b B (startsC B ls q)) := by
 obtain ⟨R, hR⟩ : ∃ R, R = startsC B ls q := ⟨_, rfl⟩
 rw [← hR]
 unfold startsC at hR
 have hnum : ∀ (p k : Nat), okSize k = true → p + k ≤ B.length → ∀ w, CurB w b (cs B p) → Calls Tryz.prog 45 #[.pointer (some ⟨b, 0, none⟩), .int .i64 k] w fun e w' => e = .returned (.int .u64 (WN B p k)) ∧ CurB w' b (cs B (p + k)) ∧ Chg [b] w w' := by
  intro p k hk hp w hc
  have := Number_cur b (cs B p) k w hc
  rw [numV hk hp, numS hk hp] at this
  exact this
 obtain ⟨_, _, hv, hc1, hc2⟩ := rd.shape
 obtain ⟨sa, sn, sc, hse⟩ : ∃ a n c, m.segs = ⟨a, n, c⟩ := ⟨_, _, _, rfl⟩
 have hsn : m.segs.n = ls.length := by
  unfold SlV.v at hv
  injection hv
 have hlt := hcu.lt
 have HSO := hY (fun s q hs1 hs2 i hi w hg hcu rd => startOf_any B b q s hs1 hs2 m ls hls hend i hi w hg hlo hcu rd hso)
 have HSK := hY (fun s n w h => seek_any b s n w h)
 have HNC := hY (fun s w h => Number_cur b s 4 w h)
 have hst0 := seek_st hB p0 q
 obtain ⟨s0, hs0⟩ : ∃ s0, s0 = seekC (cs B p0) q := ⟨_, rfl⟩
 rw [← hs0] at hst0
 have HST := hY (fun p q => seek_st hB p q)
 have HCU := hY hcu
 have RD := hY rd
 have Hso := hY hso
 have Hls := hY hls
 have Hend := hY hend
 have Hnum := hY hnum
 have HR := hY hR
 have Hg := hY hg
 have Hc1 := hY hc1
 have Hc2 := hY hc2
 have Hv := hY hv
 have Hse := hY hse
 have Hs0 := hY hs0
 have HB := hY hB
 clear hcu rd hso hls hend hnum hR hg hc1 hc2 hv hse hs0 hB
 go_enter Tryz.func47, Tryz.ntmps47
 go_wp2_with ((with_reducible refine Lay.bxQ (L := imgL) 32 m ?_ ?_); exact rfl)
 refine hY fun W1 bm ebm cbm xbm => ?_
 have S1 : Hid (SsW w W1 b bm m) := hY (⟨xbm.out, cbm.out.add, hlt, by rw [ebm.out]; exact Nat.le_refl _⟩)
 have C1 := hY (HCU.out.frame cbm.out)
 clear ebm cbm xbm
 go_wp2_with fail
 refine (HSK.out _ q _ C1.out).mono ?_
 rintro e W2 ⟨rfl, hc, hg⟩
 rw [← Hs0.out] at hc
 have C2 := hY (hc)
 have S2 := hY (S1.out.one hg)
 clear hc hg C1 S1
 by_cases h4 : q + 4 ≤ B.length
 case neg =>
  have HB : Hid (R = .bad 3) := hY (by rw [HR.out, if_neg h4])
  have hf : (numberS s0 (4 : Nat)).failed = true := num_bad hst0.1 hst0.2 (by omega)
  have Hf := hY hf
  have Hst0 := hY hst0
  have H4 := hY h4
  clear hf hst0 h4
  go_wp2_with fail
  refine (HNC.out _ _ C2.out).mono ?_
  rintro e W3 ⟨rfl, hc, hg⟩
  have C3 := hY (hc)
  have S3 := hY (S2.out.one hg)
  clear hc hg
  go_wp2_with fail
  refine (well_bad b _ _ (Hg.out.frame S3.out.cg (by simp; omega)) C3.out Hf.out).mono ?_
  rintro e W4 ⟨rfl, hc⟩
  exact And.intro rfl (ssP_bad HB.out (S3.out.pure hc).cg)
 case pos =>
 have hc2 := C2.out
 rw [hst0.1 (by omega)] at hc2
 have C2q := hY (hc2)
 clear hc2 C2
 obtain ⟨n, hn⟩ : ∃ n, n = WN B q 4 := ⟨_, rfl⟩
 have hnb : n < 4294967296 := by rw [hn]; exact WN_lt B q 4
 have HNQ := hY (Hnum.out q 4 (by decide) h4)
 rw [← hn] at HNQ
 have hr := HR.out
 clear HR
 rw [if_pos h4, ← hn] at hr
 have HR := hY hr
 have Hn := hY hn
 have Hst0 := hY hst0
 have H4 := hY h4
 have Hnb := hY hnb
 clear hr hn hst0 h4 hnb
 go_wp2_with fail
 refine (HNQ.out _ C2q.out).mono ?_
 rintro e W3 ⟨rfl, hc, hg⟩
 have C3 := hY (hc)
 have S3 := hY (S2.out.one hg)
 clear hc hg C2q S2
 go_wp2_with fail
 refine (well_ok b _ _ C3.out rfl).mono ?_
 rintro e W4 ⟨rfl, hc⟩
 have C4 := hY (C3.out.frame hc)
 have S4 := hY (S3.out.pure hc)
 clear hc C3 S3
 have y4 := Img.c_segs S4.out.im
 rw [hsn] at y4
 have hwn : IntKind.u64.wrap (ls.length : Int) = (ls.length : Int) := by rw [IntKind.wrap_u64]; omega
 by_cases h8 : n ≤ ls.length
 case neg =>
  have HB : Hid (R = .bad 8) := hY (by rw [HR.out, if_neg h8])
  have d8 : decide (n ≤ ls.length) = false := decide_eq_false h8
  have H8 := hY h8
  have Hsn := hY hsn
  clear h8 hsn
  go_wp2_with fail
  refine (needC_bad 8 _).mono ?_
  rintro e W5 ⟨rfl, rfl⟩
  exact And.intro rfl (ssP_bad HB.out S4.out.cg)
 case pos =>
 have d8 : decide (n ≤ ls.length) = true := decide_eq_true h8
 have hr := HR.out
 clear HR
 rw [if_pos h8] at hr
 have HR := hY hr
 clear hr
 go_wp2_with fail
 refine (needC_ok 8 _).mono ?_
 rintro e W5 ⟨rfl, rfl⟩
 clear d8 y4 hwn
 have hwi : wrap64 (n : Int) = (n : Int) := by unfold wrap64; omega
 have HBM : Hid (bm < W5.heap.size) := hY (S4.out.im.lt)
 go_wp2_with fail
 clear hwi
 go_loopw [6, 26] (fun s6 s26 wr => ∃ (k p : Nat) (ss : List StP) (xs : List Sta) (sl : SlV), k ≤ n ∧ s6 = .slice sl.a sl.n sl.cap ∧ s26 = .int .i64 (k : Int) ∧ stsC B ls q (n - k) k ss = stsC B ls q n 0 [] ∧ CurB wr b (cs B p) ∧ SsW w wr b bm m ∧ staL.Buf 51 wr W5.heap.size (.slice sl.a sl.n sl.cap) xs ∧ StsIn wr W5.heap.size xs ss ∧ W5.heap.size ≤ wr.heap.size ∧ xs.length ≤ k) (fun _ s26 _ => n - (intOf s26).toNat)
 case atStart => exact ⟨0, q + 4, [], [], ⟨none, 0, 0⟩, Nat.zero_le _, rfl, rfl, rfl, C4.out, S4.out, Lay.Buf.nil _ _, StsIn.nil _ _, Nat.le_refl _, Nat.le_refl _⟩
 case round =>
  obtain ⟨k, p, ss, xs, sl, hk, rfl, rfl, hst, hcc, hsw, hbu, hsi, hsz, hxl⟩ := hrel
  by_cases hlt2 : k < n
  ·have hw1 : IntKind.i64.wrap ((k : Int) + 1) = (k : Int) + 1 := by rw [IntKind.wrap_i64]; omega
   have e1 : (q : Int) + 4 + 4 * (k : Int) = ((q + 4 + 4 * k : Nat) : Int) := by omega
   obtain ⟨r, hr⟩ : ∃ r, n - k = r + 1 := ⟨n - k - 1, by omega⟩
   rw [hr, stsC_succ] at hst
   have hr2 : n - (k + 1) = r := by omega
   obtain ⟨P, hP⟩ : ∃ P, P = q + 4 + 4 * k := ⟨_, rfl⟩
   rw [← hP] at hst e1
   have hPb : P < 4311744516 := by omega
   have w1 : IntKind.u64.wrap ((q : Int) + 4 + 4 * (k : Int)) = (P : Int) := by rw [e1, IntKind.wrap_u64]; omega
   have hkl : k < ls.length := by omega
   have CC := hY hcc
   have SW := hY hsw
   have BU := hY hbu
   have SI := hY hsi
   have SZ := hY hsz
   have Hr := hY hr
   have Hr2 := hY hr2
   have HP := hY hP
   have Hk := hY hk
   have Hxl := hY hxl
   have E1 := hY e1
   clear hcc hsw hbu hsi hsz hr hr2 hP hk hxl e1
   go_wp2_with fail
   refine (HSK.out _ P _ CC.out).mono ?_
   rintro e W6 ⟨rfl, hc, hg⟩
   have C6 := hY (hc)
   have S6 := hY (SW.out.one hg)
   have B6 := hY (BU.out.frame hg (fun j hj hm => by have := (BU.out.lt j hj).1; have := HBM.out; have := SW.out.lo; have := SW.out.b_lt; simp at hm; omega))
   have I6 := hY (SI.out.low hg (fun j hj => by have := HBM.out; have := SW.out.lo; have := SW.out.b_lt; simp at hj; omega))
   have Z6 := hY (Nat.le_trans SZ.out hg.size)
   clear hc hg CC SW BU SI SZ
   have hsp := HST.out p P
   obtain ⟨s6, hs6⟩ : ∃ s6, s6 = seekC (cs B p) P := ⟨_, rfl⟩
   rw [← hs6] at C6 hsp
   by_cases h4 : P + 4 ≤ B.length
   case neg =>
    have HB : Hid (R = .bad 3) := hY (by rw [HR.out, ← hst, if_neg h4])
    have hf : (numberS s6 (4 : Nat)).failed = true := num_bad hsp.1 hsp.2 (by omega)
    have Hf := hY hf
    have Hsp := hY hsp
    have H4 := hY h4
    have Hst := hY hst
    have Hs6 := hY hs6
    clear hf hsp h4 hst hs6
    go_wp2_with fail
    refine (HNC.out _ _ C6.out).mono ?_
    rintro e W7 ⟨rfl, hc, hg⟩
    have C7 := hY (hc)
    have S7 := hY (S6.out.one hg)
    clear hc hg
    go_wp2_with fail
    refine (well_bad b _ _ (Hg.out.frame S7.out.cg (by simp; omega)) C7.out Hf.out).mono ?_
    rintro e W8 ⟨rfl, hc⟩
    exact And.intro rfl (ssP_bad HB.out (S7.out.pure hc).cg)
   case pos =>
   have hc6 := C6.out
   rw [hsp.1 (by omega)] at hc6
   clear C6
   have C6 := hY (hc6)
   clear hc6
   obtain ⟨t, ht⟩ : ∃ t, t = WN B P 4 := ⟨_, rfl⟩
   have htb : t < 4294967296 := by rw [ht]; exact WN_lt B P 4
   have HNQ2 := hY (Hnum.out P 4 (by decide) h4)
   rw [← ht] at HNQ2
   rw [if_pos h4, ← ht] at hst
   have Ht := hY ht
   have Hsp := hY hsp
   have H4 := hY h4
   have Hs6 := hY hs6
   clear ht hsp h4 hs6
   go_wp2_with fail
   refine (HNQ2.out _ C6.out).mono ?_
   rintro e W7 ⟨rfl, hc, hg⟩
   have C7 := hY (hc)
   have S7 := hY (S6.out.one hg)
   have B7 := hY (B6.out.frame hg (fun j hj hm => by have := (B6.out.lt j hj).1; have := HBM.out; have := S6.out.lo; have := S6.out.b_lt; simp at hm; omega))
   have I7 := hY (I6.out.low hg (fun j hj => by have := HBM.out; have := S6.out.lo; have := S6.out.b_lt; simp at hj; omega))
   have Z7 := hY (Nat.le_trans Z6.out hg.size)
   clear hc hg C6 S6 B6 I6 Z6
   go_wp2_with fail
   refine (well_ok b _ _ C7.out rfl).mono ?_
   rintro e W8 ⟨rfl, hc⟩
   have C8 := hY (C7.out.frame hc)
   have S8 := hY (S7.out.pure hc)
   have B8 := hY (B7.out.pure hc)
   have I8 := hY (I7.out.pure hc)
   have Z8 := hY (Nat.le_trans Z7.out hc.size)
   clear hc C7 S7 B7 I7 Z7
   by_cases ht0 : t = 0
   ·have d0 : ((t : Int) != 0) = false := by rw [ht0]; rfl
    rw [if_pos ht0] at hst
    have Hst := hY hst
    have Ht0 := hY ht0
    have Htb := hY htb
    clear hst ht0 htb
    go_wp2
    go_roundw
    case rel => exact ⟨k + 1, _, ss, xs, sl, hlt2, rfl, by first | rfl | exact congrArg (Value.int .i64) hw1 | go_num, by rw [Hr2.out]; exact Hst.out, C8.out, S8.out, B8.out, I8.out, Z8.out, Nat.le_succ_of_le Hxl.out⟩
    case measure => first | exact measC_d hlt2 | exact measC_i hw1 hlt2 | exact measC_e hw1 hlt2
   ·have d0 : ((t : Int) != 0) = true := by rw [bne_iff_ne]; omega
    rw [if_neg ht0] at hst
    have w2 : IntKind.u64.wrap ((q : Int) + (t : Int)) = ((q + t : Nat) : Int) := by rw [IntKind.wrap_u64]; omega
    have HSQ := hY (HST.out (P + 4) (q + t))
    have Ht0 := hY ht0
    have Htb := hY htb
    clear ht0 htb
    go_wp2_with fail
    refine (HSK.out _ (q + t) _ C8.out).mono ?_
    rintro e W9 ⟨rfl, hc, hg⟩
    have C9 := hY (hc)
    have S9 := hY (S8.out.one hg)
    have B9 := hY (B8.out.frame hg (fun j hj hm => by have := (B8.out.lt j hj).1; have := HBM.out; have := S8.out.lo; have := S8.out.b_lt; simp at hm; omega))
    have I9 := hY (I8.out.low hg (fun j hj => by have := HBM.out; have := S8.out.lo; have := S8.out.b_lt; simp at hj; omega))
    have Z9 := hY (Nat.le_trans Z8.out hg.size)
    clear hc hg C8 S8 B8 I8 Z8 w2
    have hso9 := HSO.out _ (q + t) HSQ.out.1 HSQ.out.2 k hkl W9 (Hg.out.frame S9.out.cg (by simp; omega)) C9.out (RD.out.frameS S9.out.cg Hso.out)
    unfold SoP at hso9
    go_wp2_with ((with_reducible refine Lay.ldQ Tryz.tImg m (S9.out.im.in) ?_ ?_); exact rfl)
    refine hY ?_
    cases hsc : startC B ls k (q + t) with
    | bad n9 =>
     rw [hsc] at hso9 hst
     have HB : Hid (R = .bad n9) := hY (by rw [HR.out, ← hst]; rfl)
     have Hso9 := hY hso9
     have Hst := hY hst
     have Hsc := hY hsc
     clear hso9 hst hsc
     go_wp2_with fail
     refine (Hso9.out).mono ?_
     rintro e WA ⟨hg, rfl⟩
     exact And.intro rfl (ssP_bad HB.out (S9.out.one hg).cg)
    | ok s9 =>
     rw [hsc] at hso9 hst
     have hst2 : stsC B ls q r (k + 1) (ss ++ [s9]) = stsC B ls q n 0 [] := hst
     have Hso9 := hY hso9
     have Hst := hY hst
     have Hst2 := hY hst2
     have Hsc := hY hsc
     clear hso9 hst hst2 hsc
     go_wp2_with fail
     refine (Hso9.out).mono ?_
     rintro e WA ⟨hg, x, pA, rfl, hxi, hc⟩
     obtain ⟨ad, nd, cd⟩ := sl
     have CA := hY (hc)
     have SA := hY (S9.out.one hg)
     have BA := hY (B9.out.frame hg (fun j hj hm => by have := (B9.out.lt j hj).1; have := HBM.out; have := S9.out.lo; have := S9.out.b_lt; simp at hm; omega))
     have IA := hY (I9.out.low hg (fun j hj => by have := HBM.out; have := S9.out.lo; have := S9.out.b_lt; simp at hj; omega))
     have ZA := hY (Nat.le_trans Z9.out hg.size)
     have XA := hY (hxi.mono Z9.out)
     clear hc hg C9 S9 B9 I9 Z9 hxi
     obtain ⟨_, _, he, _, _⟩ := BA.out.rd.shape
     cases he
     go_wp2_with ((with_reducible refine bs1 (x) ((sta_built x)) ?_ ?_ ?_); exact rfl; exact rfl; intro VA va cva rva; replace cva := hY cva; replace rva := hY rva; refine Hid.out ?_)
     refine hY ?_
     have UA := hY (BA.out.pure cva.out)
     go_wp2_with (at_builtin; go_must (refine Lay.app (L := staL) Tryz.infoSta rfl _ _ rfl W5.heap.size (.slice ad xs.length cd) xs rfl UA.out _ rfl [x] rva.out (by have := Hxl.out; simp; omega) (by have := Hxl.out; simp; omega) (Nat.le_trans ZA.out cva.out.size) ?_); intro vb VB hov hgv hlc; refine Hid.out ?_)
     refine hY ?_
     have hgo := Lay.chg_grown hgv
     have SB : Hid (∀ i ∈ (Value.slice ad xs.length cd).ownBlock.toList, W5.heap.size ≤ i) := hY (fun i hi => (UA.out.lt i (by simpa using hi)).1)
     have IB := hY (((IA.out.pure cva.out).apart UA.out (by decide) hgo).snoc x s9 ((XA.out.pure cva.out).frame hgo (fun j hj => rows_ne (XA.out.pure cva.out).bg UA.out (by decide) j hj)))
     have DB : Hid (Chg (Value.slice ad xs.length cd).ownBlock.toList WA VB) := hY (cva.out.add.same hgo)
     obtain ⟨ab, cb, rfl, hb1, hb2⟩ := hov.rd.shape
     have hlen1 : (xs ++ [x]).length = xs.length + 1 := by rw [List.length_append]; rfl
     rw [hlen1] at hov ⊢
     have UB := hY hov
     have Hlen1 := hY hlen1
     clear hov hlen1
     clear hgv hlc hgo UA cva rva hb1 hb2
     have CB := hY (CA.out.far DB.out (fun i hi => by have := SB.out i hi; have := HBM.out; have := SA.out.lo; have := SA.out.b_lt; omega))
     have SWB := hY (SA.out.high DB.out (fun i hi => .inr (by have := SB.out i hi; have := HBM.out; omega)))
     have ZB := hY (Nat.le_trans ZA.out DB.out.size)
     clear CA SA BA IA ZA XA DB SB
     go_wp2
     go_roundw
     case rel => exact ⟨k + 1, pA, ss ++ [s9], xs ++ [x], ⟨ab, xs.length + 1, cb⟩, hlt2, rfl, by first | rfl | exact congrArg (Value.int .i64) hw1 | go_num, by rw [Hr2.out]; exact Hst2.out, CB.out, SWB.out, UB.out, IB.out, ZB.out, by rw [Hlen1.out]; exact Nat.succ_le_succ Hxl.out⟩
     case measure => first | exact measC_d hlt2 | exact measC_i hw1 hlt2 | exact measC_e hw1 hlt2
  ·obtain rfl : k = n := by omega
   rw [Nat.sub_self] at hst
   have HB : Hid (R = .ok ss) := hY (by rw [HR.out, ← hst]; rfl)
   have hll := hsw.cg.size
   have Hst := hY hst
   have Hcc := hY hcc
   have Hsw := hY hsw
   have Hbu := hY hbu
   have Hsi := hY hsi
   have Hsz := hY hsz
   have Hxl := hY hxl
   clear hst hcc hsw hbu hsi hsz hxl
   go_wp2
   go_ret
   rw [HB.out]
   have hw5 : w.heap.size ≤ W5.heap.size := by have := HBM.out; have := Hsw.out.lo; omega
   exact ⟨Hsw.out.cg, sl, xs, p, rfl, Hbu.out.mono hw5, Hsi.out.mono hw5, Hcc.out⟩
theorem CurB.frameB {w0 w w' : World} {b q : Nat} {s s0 : CS} (h : CurB w b s) (k : Chg [q] w w') (hq : w0.heap.size ≤ q) (h0 : CurB w0 b s0) : CurB w' b s := by
 have hb0 := h0.lt
 obtain ⟨a, n, cap, hb, h1, h2', h3, h4, h5, h6⟩ := h
 refine ⟨a, n, cap, k.heap hb (by simp; omega), h1, h2', h3, h4, h5, fun hn => ?_⟩
 obtain ⟨d, off, c, ha, hdb, hd, hc⟩ := h6 hn
 have hd2 : d ∉ [q] := by simp; omega
 exact ⟨d, off, c, ha, hdb, k.heap hd hd2, fun j hj => k.cell (hc j hj) hd2⟩
theorem takeL_le (s : CS) (n : Int) : (takeL s n).length ≤ n.toNat := by
 unfold takeL
 split
 ·simp; omega
 ·simp
theorem numberV4_lt (s : CS) : numberV s 4 < 4294967296 := by
 have h1 := takeL_le s 4
 have h2 := numOf_lt s.big (takeL s 4)
 have h3 : (256 : Nat) ^ (takeL s 4).length ≤ 256 ^ 4 := Nat.pow_le_pow_right (by decide) h1
 have e : numberV s 4 = numOf s.big (takeL s 4) := by unfold numberV; rw [if_pos (by decide)]
 rw [e]
 exact Nat.lt_of_lt_of_le h2 (Nat.le_trans h3 (by decide))
theorem numberV8_lt (s : CS) : numberV s 8 < 18446744073709551616 := by
 have h1 := takeL_le s 8
 have h2 := numOf_lt s.big (takeL s 8)
 have h3 : (256 : Nat) ^ (takeL s 8).length ≤ 256 ^ 8 := Nat.pow_le_pow_right (by decide) h1
 have e : numberV s 8 = numOf s.big (takeL s 8) := by unfold numberV; rw [if_pos (by decide)]
 rw [e]
 exact Nat.lt_of_lt_of_le h2 (Nat.le_trans h3 (by decide))
theorem below8 (n : Nat) (hn : n < 256) (w : World) : Calls Tryz.prog 105 #[.int .u64 n, .int .i64 8] w fun e w' => e = .returned (.int .i64 (belowI n 256)) ∧ Chg [] w w' := by
 by_cases h : 256 - 16 < n
 ·have d : decide ((240 : Int) < (n : Int)) = true := by simp; omega
  go_enter Tryz.func105, Tryz.ntmps105
  go_wp2
  go_ret
  exact ⟨by unfold belowI; rw [if_pos h]; rfl, Chg.refl _ _⟩
 ·have d : decide ((240 : Int) < (n : Int)) = false := by simp; omega
  go_enter Tryz.func105, Tryz.ntmps105
  go_wp2
  go_ret
  exact ⟨by unfold belowI; rw [if_neg h]; rfl, Chg.refl _ _⟩
theorem below16 (n : Nat) (hn : n < 65536) (w : World) : Calls Tryz.prog 105 #[.int .u64 n, .int .i64 16] w fun e w' => e = .returned (.int .i64 (belowI n 65536)) ∧ Chg [] w w' := by
 by_cases h : 65536 - 16 < n
 ·have d : decide ((65520 : Int) < (n : Int)) = true := by simp; omega
  go_enter Tryz.func105, Tryz.ntmps105
  go_wp2
  go_ret
  exact ⟨by unfold belowI; rw [if_pos h]; rfl, Chg.refl _ _⟩
 ·have d : decide ((65520 : Int) < (n : Int)) = false := by simp; omega
  go_enter Tryz.func105, Tryz.ntmps105
  go_wp2
  go_ret
  exact ⟨by unfold belowI; rw [if_neg h]; rfl, Chg.refl _ _⟩
theorem Tryz.tRaw : Lay.Ty rawL Tryz.prog 121 := Lay.Ty.mk' (by kernel_rfl) (by kernel_rfl)
set_option maxHeartbeats 1000000 in
theorem short_any (b : Nat) (s : CS) (w : World) (h : CurB w b s) :
  Calls Tryz.prog 85 #[.pointer (some ⟨b, 0, none⟩)] w fun e w' => e = .returned (rawL.val (shortR (numberV s 4))) ∧ CurB w' b (numberS s 4) ∧ Chg [b] w w' := by
 have hlt := h.lt
 have H := hY h
 clear h
 have hN : numberV s 4 < 4294967296 := numberV4_lt s
 have HNB : Hid (∀ w, CurB w b s → Calls Tryz.prog 45 #[.pointer (some ⟨b, 0, none⟩), .int .i64 4] w fun e w' => e = .returned (.int .u64 (numberV s 4)) ∧ CurB w' b (numberS s 4) ∧ Chg [b] w w') := hY (fun w h => Number_cur b s 4 w h)
 unfold shortR
 generalize numberV s 4 = N at *
 have HB8 := hY (fun w => below8 (N % 256) (Nat.mod_lt _ (by decide)) w)
 have q1 : bits .and .u64 (N : Int) 255 = ((N % 256 : Nat) : Int) := by
  have := u64_and_nat N 255 (by omega) (by decide)
  rw [show (255 : Nat) = 2 ^ 8 - 1 from rfl, Nat.and_two_pow_sub_one_eq_mod] at this
  exact this
 have q2 : (N : Int) / 256 = ((N / 256 : Nat) : Int) := by omega
 have q3 : bits .and .u64 ((N / 256 : Nat) : Int) 1 = ((N / 256 % 2 : Nat) : Int) := by
  have := u64_and_nat (N / 256) 1 (by omega) (by decide)
  rw [show (1 : Nat) = 2 ^ 1 - 1 from rfl, Nat.and_two_pow_sub_one_eq_mod] at this
  exact this
 have q3b : ((N / 256 : Nat) : Int) % 2 = ((N / 256 % 2 : Nat) : Int) := by omega
 have q1b : (N : Int) % 256 = ((N % 256 : Nat) : Int) := by omega
 have q4 : (N : Int) / 512 = ((N / 512 : Nat) : Int) := by omega
 have q5 : (((N / 256 % 2 : Nat) : Int) == 1) = (N / 256 % 2 == 1) := by rw [Bool.eq_iff_iff, beq_iff_eq, beq_iff_eq]; omega
 generalize belowI (N % 256) 256 = A at *
 generalize hB : (N / 256 % 2 == 1) = B at *
 generalize N / 512 = D at *
 generalize N % 256 = U at *
 generalize N / 256 = V at *
 generalize V % 2 = T at *
 have HN := hY hN
 have HB := hY hB
 clear hN hB
 go_enter Tryz.func85, Tryz.ntmps85
 go_wp2_with (with_reducible refine Lay.alQ Tryz.tRaw ?_)
 refine hY fun W1 br ebr cbr xbr => ?_
 go_wp2_with fail
 refine (HNB.out _ (H.out.frame cbr.out)).mono ?_
 rintro e W2 ⟨rfl, hc, hg⟩
 have C2 := hY (hc)
 have X2 := hY (xbr.out.frameS hg (by rw [ebr.out]; intro hm; simp at hm; omega))
 have G2 : Hid (Chg [b] w W2) := hY (cbr.out.add.same hg)
 clear hc hg
 go_wp2_with fail
 refine (HB8.out _).mono ?_
 rintro e W3 ⟨rfl, hg⟩
 have C3 := hY (C2.out.frame hg)
 have X3 := hY (X2.out.frame hg)
 have G3 := hY (G2.out.then hg)
 clear hg
 go_wp2_with ((with_reducible refine Lay.stQ Tryz.tRaw (⟨A, B, ⟨#[]⟩, 0, (D : Nat)⟩ : Raw) (X3.out) ?_ ?_ ?_); exact rfl; exact rfl)
 refine hY fun W4 cW4 xW4 => ?_
 have Z4 : Hid (br ≠ b) := hY (by rw [ebr.out]; omega)
 have C4 := hY (C3.out.frameB cW4.out (by rw [ebr.out]; exact Nat.le_refl _) H.out)
 have G4 : Hid (Chg [b] w W4) := hY (G3.out.new cW4.out (by rw [ebr.out]; exact Nat.le_refl _))
 go_wp2
 refine Lay.ret1 Tryz.tRaw Tryz.results85 xW4.out rfl rfl ?_
 exact ⟨rfl, C4.out, G4.out⟩
set_option maxHeartbeats 1000000 in
theorem long_any (b : Nat) (s : CS) (w : World) (h : CurB w b s) :
  Calls Tryz.prog 86 #[.pointer (some ⟨b, 0, none⟩)] w fun e w' => e = .returned (rawL.val (longR (numberV s 4) (numberV (numberS s 4) 4))) ∧ CurB w' b (numberS (numberS s 4) 4) ∧ Chg [b] w w' := by
 have hlt := h.lt
 have H := hY h
 clear h
 have HSH : Hid (∀ w, CurB w b s → Calls Tryz.prog 85 #[.pointer (some ⟨b, 0, none⟩)] w fun e w' => e = .returned (rawL.val (shortR (numberV s 4))) ∧ CurB w' b (numberS s 4) ∧ Chg [b] w w') := hY (fun w h => short_any b s w h)
 have hM : numberV (numberS s 4) 4 < 4294967296 := numberV4_lt _
 have HNB : Hid (∀ w, CurB w b (numberS s 4) → Calls Tryz.prog 45 #[.pointer (some ⟨b, 0, none⟩), .int .i64 4] w fun e w' => e = .returned (.int .u64 (numberV (numberS s 4) 4)) ∧ CurB w' b (numberS (numberS s 4) 4) ∧ Chg [b] w w') := hY (fun w h => Number_cur b _ 4 w h)
 have e0 : longR (numberV s 4) (numberV (numberS s 4) 4) = { shortR (numberV s 4) with add := wrap32 (numberV (numberS s 4) 4 : Nat) } := rfl
 rw [e0]
 clear e0
 generalize shortR (numberV s 4) = R at *
 generalize numberV (numberS s 4) 4 = M at *
 have q1 : wrap64 (wrap32 (M : Int)) = wrap32 (M : Int) := by unfold wrap64 wrap32; omega
 have HM := hY hM
 clear hM
 go_enter Tryz.func86, Tryz.ntmps86
 go_wp2_with (with_reducible refine Lay.alQ Tryz.tRaw ?_)
 refine hY fun W1 br ebr cbr xbr => ?_
 go_wp2_with fail
 refine (HSH.out _ (H.out.frame cbr.out)).mono ?_
 rintro e W2 ⟨rfl, hc, hg⟩
 have C2 := hY (hc)
 have X2 := hY (xbr.out.frameS hg (by rw [ebr.out]; intro hm; simp at hm; omega))
 have G2 : Hid (Chg [b] w W2) := hY (cbr.out.add.same hg)
 clear hc hg
 go_wp2_with (with_reducible refine Lay.alQ Tryz.tRaw ?_)
 refine hY fun W3 bx ebx cbx xbx => ?_
 go_wp2_with ((with_reducible refine Lay.stQ Tryz.tRaw R (xbx.out) ?_ ?_ ?_); exact rfl; exact rfl)
 refine hY fun W4 cW4 xW4 => ?_
 have C4 := hY ((C2.out.frame cbx.out).frameB cW4.out (by rw [ebx.out]; exact G2.out.size) H.out)
 have G4 : Hid (Chg [b] w W4) := hY ((G2.out.then cbx.out).new cW4.out (by rw [ebx.out]; exact G2.out.size))
 have X4 := hY ((X2.out.frame cbx.out).frameS cW4.out (by have := X2.out.lt; rw [ebx.out]; intro hm; simp at hm; omega))
 have N1 : Hid (b ≠ bx ∧ br ≠ bx) := hY (by have := X2.out.lt; have := G2.out.size; rw [ebx.out]; constructor <;> omega)
 go_wp2_with fail
 refine (HNB.out _ C4.out).mono ?_
 rintro e W5 ⟨rfl, hc, hg⟩
 have C5 := hY (hc)
 have G5 := hY (G4.out.same hg)
 have X5 := hY (X4.out.frameS hg (by rw [ebr.out]; intro hm; simp at hm; omega))
 have Y5 := hY (xW4.out.frameS hg (by intro hm; have := N1.out.1; simp at hm; omega))
 clear hc hg
 have y3 := Raw.c_add Y5.out
 have z3 := Y5.out.frozen 3
 have hbx : w.heap.size ≤ bx := by rw [ebx.out]; exact G2.out.size
 go_upto_region 3 with fail
 refine Lay.with_world (fun W => rawL.Box W bx { R with add := wrap32 (M : Int) } ∧ rawL.Box W br rawL.d ∧ CurB W b (numberS (numberS s 4) 4) ∧ Chg [b] w W) ⟨?_, ?_, ?_, ?_⟩ (fun W hW => ?_)
 ·exact Raw.set_add Y5.out _
 ·exact X5.out.setCell _ _ N1.out.2
 ·exact C5.out.frameB ((Chg.refl [bx] _).setCell _ _ (.inl (by simp))) hbx H.out
 ·exact G5.out.setCell _ _ (.inr hbx)
 obtain ⟨h1, h2, h3, h4⟩ := hW
 clear y3 z3
 have H1 := hY h1
 have H2 := hY h2
 have H3 := hY h3
 have H4 := hY h4
 clear h1 h2 h3 h4
 go_wp2_with ((with_reducible refine Lay.ldQ Tryz.tRaw ({ R with add := wrap32 (M : Int) } : Raw) (H1.out.in) ?_ ?_); exact rfl)
 refine hY ?_
 go_wp2_with ((with_reducible refine Lay.stQ Tryz.tRaw ({ R with add := wrap32 (M : Int) } : Raw) (H2.out) ?_ ?_ ?_); exact rfl; exact rfl)
 refine hY fun W9 cW9 xW9 => ?_
 go_wp2
 refine Lay.ret1 Tryz.tRaw Tryz.results86 xW9.out rfl rfl ?_
 have hbr : w.heap.size ≤ br := by rw [ebr.out]; exact Nat.le_refl _
 exact ⟨rfl, H3.out.frameB cW9.out hbr H.out, H4.out.new cW9.out hbr⟩
set_option maxHeartbeats 1000000 in
theorem wide_any (b : Nat) (s : CS) (w : World) (h : CurB w b s) :
  Calls Tryz.prog 87 #[.pointer (some ⟨b, 0, none⟩)] w fun e w' => e = .returned (rawL.val (wideR (numberV s 8) (numberV (numberS s 8) 8))) ∧ CurB w' b (numberS (numberS s 8) 8) ∧ Chg [b] w w' := by
 have hlt := h.lt
 have H := hY h
 clear h
 have hN : numberV s 8 < 18446744073709551616 := numberV8_lt s
 have hM : numberV (numberS s 8) 8 < 18446744073709551616 := numberV8_lt _
 have HNB : Hid (∀ w, CurB w b s → Calls Tryz.prog 45 #[.pointer (some ⟨b, 0, none⟩), .int .i64 8] w fun e w' => e = .returned (.int .u64 (numberV s 8)) ∧ CurB w' b (numberS s 8) ∧ Chg [b] w w') := hY (fun w h => Number_cur b s 8 w h)
 have HNC : Hid (∀ w, CurB w b (numberS s 8) → Calls Tryz.prog 45 #[.pointer (some ⟨b, 0, none⟩), .int .i64 8] w fun e w' => e = .returned (.int .u64 (numberV (numberS s 8) 8)) ∧ CurB w' b (numberS (numberS s 8) 8) ∧ Chg [b] w w') := hY (fun w h => Number_cur b _ 8 w h)
 unfold wideR
 generalize numberV s 8 = N at *
 generalize numberV (numberS s 8) 8 = M at *
 have HB8 := hY (fun w => below16 (N % 65536) (Nat.mod_lt _ (by decide)) w)
 have q1 : bits .and .u64 (N : Int) 65535 = ((N % 65536 : Nat) : Int) := by
  have := u64_and_nat N 65535 (by omega) (by decide)
  rw [show (65535 : Nat) = 2 ^ 16 - 1 from rfl, Nat.and_two_pow_sub_one_eq_mod] at this
  exact this
 have q2 : (N : Int) / 65536 = ((N / 65536 : Nat) : Int) := by omega
 have q3 : bits .and .u64 ((N / 65536 : Nat) : Int) 1 = ((N / 65536 % 2 : Nat) : Int) := by
  have := u64_and_nat (N / 65536) 1 (by omega) (by decide)
  rw [show (1 : Nat) = 2 ^ 1 - 1 from rfl, Nat.and_two_pow_sub_one_eq_mod] at this
  exact this
 have q3b : ((N / 65536 : Nat) : Int) % 2 = ((N / 65536 % 2 : Nat) : Int) := by omega
 have q1b : (N : Int) % 65536 = ((N % 65536 : Nat) : Int) := by omega
 have q4 : (N : Int) / 4294967296 = ((N / 4294967296 : Nat) : Int) := by omega
 have q5 : (((N / 65536 % 2 : Nat) : Int) == 1) = (N / 65536 % 2 == 1) := by rw [Bool.eq_iff_iff, beq_iff_eq, beq_iff_eq]; omega
 generalize belowI (N % 65536) 65536 = A at *
 generalize hB : (N / 65536 % 2 == 1) = B at *
 generalize N / 4294967296 = D at *
 generalize N % 65536 = U at *
 generalize N / 65536 = V at *
 generalize V % 2 = T at *
 have HN := hY hN
 have HB := hY hB
 have HM := hY hM
 clear hN hB hM
 go_enter Tryz.func87, Tryz.ntmps87
 go_wp2_with (with_reducible refine Lay.alQ Tryz.tRaw ?_)
 refine hY fun W1 br ebr cbr xbr => ?_
 go_wp2_with fail
 refine (HNB.out _ (H.out.frame cbr.out)).mono ?_
 rintro e W2 ⟨rfl, hc, hg⟩
 have C2 := hY (hc)
 have X2 := hY (xbr.out.frameS hg (by rw [ebr.out]; intro hm; simp at hm; omega))
 have G2 : Hid (Chg [b] w W2) := hY (cbr.out.add.same hg)
 clear hc hg
 go_wp2_with fail
 refine (HB8.out _).mono ?_
 rintro e W3 ⟨rfl, hg⟩
 have C3 := hY (C2.out.frame hg)
 have X3 := hY (X2.out.frame hg)
 have G3 := hY (G2.out.then hg)
 clear hg
 go_wp2_with fail
 refine (HNC.out _ C3.out).mono ?_
 rintro e W5 ⟨rfl, hc, hg⟩
 have C5 := hY (hc)
 have X5 := hY (X3.out.frameS hg (by rw [ebr.out]; intro hm; simp at hm; omega))
 have G5 := hY (G3.out.same hg)
 clear hc hg
 go_wp2_with ((with_reducible refine Lay.stQ Tryz.tRaw (⟨A, B, ⟨#[]⟩, wrap64 (M : Int), (D : Nat)⟩ : Raw) (X5.out) ?_ ?_ ?_); exact rfl; exact rfl)
 refine hY fun W4 cW4 xW4 => ?_
 have C4 := hY (C5.out.frameB cW4.out (by rw [ebr.out]; exact Nat.le_refl _) H.out)
 have G4 : Hid (Chg [b] w W4) := hY (G5.out.new cW4.out (by rw [ebr.out]; exact Nat.le_refl _))
 go_wp2
 refine Lay.ret1 Tryz.tRaw Tryz.results87 xW4.out rfl rfl ?_
 exact ⟨rfl, C4.out, G4.out⟩
theorem impBB_isz (x : Imp) (n : Nat) (fm : Int) : (impBB x n fm).length = isz fm := by
 unfold impBB impB isz
 split
 ·simp [leB_len]
 ·split <;> simp [leB_len]
structure Nm.Well (fm : Int) (s : Nm) (k : Nat) : Prop where
 out : s.out.length = isz fm * k
 pl : ∀ q p, s.pl q = some p → ∃ pre post, s.ns = pre ++ (q.data.toList ++ 0 :: post) ∧ pre.length = p
theorem Nm.Well.step {fm : Int} {s : Nm} {k : Nat} (h : s.Well fm k) (x : Imp) : (s.step fm x).Well fm (k + 1) := by
 constructor
 ·simp only [Nm.step, List.length_append, impBB_isz, h.out, Nat.mul_succ]
 ·intro q p hq
  simp only [Nm.step] at hq ⊢
  by_cases hp : s.pl x.sym = none
  ·rw [if_pos hp] at hq ⊢
   by_cases he : q = x.sym
   ·subst he
    simp only [if_true, Option.some.injEq] at hq
    exact ⟨s.ns, [], by simp, hq⟩
   ·simp only [if_neg he] at hq
    obtain ⟨pre, post, h1, h2⟩ := h.pl q p hq
    exact ⟨pre, post ++ (x.sym.data.toList ++ [0]), by rw [h1]; simp, h2⟩
  ·rw [if_neg hp] at hq ⊢
   exact h.pl q p hq
theorem rdF_read {fm : Int} (h : fm = 1 ∨ fm = 2 ∨ fm = 3) : ∃ f, rdF fm = some (.func f #[] #[]) ∧ ∃ g, f = .func g ∧ (∀ (args : Array Value) (w : World), (callFunc g args).run Tryz.prog w = .ok (.enter g args) w) ∧ ∀ (b : Nat) (s : CS) (w : World), CurB w b s → Calls Tryz.prog g #[.pointer (some ⟨b, 0, none⟩)] w fun e w' => e = .returned (rawL.val (rawS fm s)) ∧ CurB w' b (rawE fm s) ∧ Chg [b] w w' := by
 rcases h with rfl | rfl | rfl
 ·refine ⟨.func 85, by simp [rdF, Map.put], _, rfl, fun args w => by kernel_rfl, fun b s w h => ?_⟩
  unfold rawS rawE
  rw [if_neg (by decide), if_neg (by decide), if_neg (by decide), if_neg (by decide)]
  exact short_any b s w h
 ·refine ⟨.func 86, by simp [rdF, Map.put], _, rfl, fun args w => by kernel_rfl, fun b s w h => ?_⟩
  unfold rawS rawE
  rw [if_neg (by decide), if_pos rfl, if_neg (by decide), if_pos rfl]
  exact long_any b s w h
 ·refine ⟨.func 87, by simp [rdF, Map.put], _, rfl, fun args w => by kernel_rfl, fun b s w h => ?_⟩
  unfold rawS rawE
  rw [if_pos rfl, if_pos rfl]
  exact wide_any b s w h
structure Head (B : List UInt8) (d n : Nat) (fm : Int) (l : List Imp) (at_ ims nms : Nat) : Prop where
 len : 28 ≤ B.length ∧ B.length ≤ 2147483647
 fmt : fm = 1 ∨ fm = 2 ∨ fm = 3
 many : l.length ≤ 4096
 w0 : WN B 0 4 = 0
 w1 : WN B 4 4 = at_
 w2 : WN B 8 4 = ims
 w3 : WN B 12 4 = nms
 w4 : WN B 16 4 = l.length
 w5 : ((WN B 20 4 : Nat) : Int) = fm
 w6 : WN B 24 4 = 0
 at1 : at_ + 4 + 4 * n ≤ B.length
 at2 : WN B at_ 4 = n
 at3 : ∀ i, i < n → WN B (at_ + 4 + 4 * i) 4 = 0
 imp : ims + isz fm * l.length ≤ B.length
 one : ∀ k, k < l.length → ∃ p q : Nat, rawS fm (cs B (ims + isz fm * k)) = ⟨(l.getD k .zero).ord, (l.getD k .zero).weak, ⟨#[]⟩, (l.getD k .zero).add, (p : Nat)⟩ ∧ nms + p ≤ B.length ∧ textS (cs B (nms + p)) 255 = cs B q ∧ textL (cs B (nms + p)) 255 = (l.getD k .zero).sym.data.toList ∧ (l.getD k .zero).sym.size ≠ 0 ∧ ordB (l.getD k .zero).ord d = true
theorem Tryz.infoImp : Lay.Info Tryz.prog 48 59 impL.n 40 := Lay.Info.mk' (z := .agg #[.int .i64 0, .bool false, .string ⟨#[]⟩, .int .i64 0]) (by kernel_rfl) (by kernel_rfl) rfl
theorem CurB.frameN {w0 w w' : World} {b : Nat} {s s0 : CS} {S : List Nat} (h : CurB w b s) (k : Chg S w w') (h0 : CurB w0 b s0) (hq : ∀ i ∈ S, w0.heap.size ≤ i) : CurB w' b s := by
 have hb0 := h0.lt
 obtain ⟨a, n, cap, hb, h1, h2', h3, h4, h5, h6⟩ := h
 refine ⟨a, n, cap, k.heap hb (fun hm => by have := hq _ hm; omega), h1, h2', h3, h4, h5, fun hn => ?_⟩
 obtain ⟨d, off, c, ha, hdb, hd, hc⟩ := h6 hn
 have hd2 : d ∉ S := fun hm => by have := hq _ hm; omega
 exact ⟨d, off, c, ha, hdb, k.heap hd hd2, fun j hj => k.cell (hc j hj) hd2⟩
theorem CurB.frameC {w w' : World} {b q : Nat} {s : CS} {x : Chn} (h : CurB w b s) (hx : chnL.Box w q x) (hne : b ≠ q) (k : Chg [q] w w') : CurB w' b s := by
 obtain ⟨a, n, cap, hb, h1, h2', h3, h4, h5, h6⟩ := h
 refine ⟨a, n, cap, k.heap hb (by simpa using hne), h1, h2', h3, h4, h5, fun hn => ?_⟩
 obtain ⟨d, off, c, ha, hdb, hd, hc⟩ := h6 hn
 have hd2 : d ∉ [q] := by
  intro hm
  rw [List.mem_singleton] at hm
  subst hm
  obtain ⟨E, hE⟩ := hx
  have := hc 0 hn
  rw [cell_of_heap hE] at this
  have e : (chnL.f x).toArray[off + 0]? = (chnL.f x)[off + 0]? := List.getElem?_toArray ..
  rw [e] at this
  have hm := List.mem_of_getElem? this
  simp [chnL, Chn.cells] at hm
 exact ⟨d, off, c, ha, hdb, k.heap hd hd2, fun j hj => k.cell (hc j hj) hd2⟩
def errC (p : Nat) (n : Int) (w : World) : Prop := w.heap[p]? = some (.cells #[.int .i64 n] 36 (0, 0))
theorem results2 {P : Program} {fn : Func} {t u : Tmp} {T T2 : TypeId} {tmps : Array Value} {p q : Addr} {v v2 : Value} {w : World} (hr : fn.results = #[.cell t T, .cell u T2]) (h1 : tmps.getD t undef = .pointer (some p)) (h2 : tmps.getD u undef = .pointer (some q)) (l1 : (loadVar T p).run P w = .ok v w) (l2 : (loadVar T2 q).run P w = .ok v2 w) : (results fn tmps).run P w = .ok (.tuple #[v, v2]) w := by
 rw [Array.getD_eq_getD_getElem?] at h1 h2
 simp [results, hr, h1, h2, asAddr, l1, l2]
theorem load_errC {w : World} {p : Addr} {n : Int} (h : w.cell? p = some (.int .i64 n)) : (loadVar 36 p).run Tryz.prog w = .ok (.int .i64 n) w := by
 simp [loadVar, Tryz.isAgg36, h]
structure RS (w : World) (base bm bc be : Nat) (m : Img) (x : Chn) (W : World) : Prop where
 im : imgL.Box W bm m
 ch : chnL.Box W bc x
 er : errC be 0 W
 cg : Chg [] w W
 lt : bm < base ∧ bc < base ∧ be < base ∧ w.heap.size ≤ bc ∧ w.heap.size ≤ be ∧ w.heap.size ≤ base ∧ bc ≠ bm ∧ bc ≠ be
theorem RS.step {w : World} {base bm bc be : Nat} {m : Img} {x : Chn} {W W' : World} {S : List Nat} (h : RS w base bm bc be m x W) (k : Chg S W W') (hS : ∀ i ∈ S, base ≤ i) : RS w base bm bc be m x W' := by
 obtain ⟨h1, h2, h3, h4, h5⟩ := h
 exact ⟨h1.frameS k (fun hm => by have := hS _ hm; omega), h2.frameS k (fun hm => by have := hS _ hm; omega), k.heap h3 (fun hm => by have := hS _ hm; omega), h4.trans k (fun i hi hw => by have := hS _ hi; omega), h5⟩
theorem RS.pure {w : World} {base bm bc be : Nat} {m : Img} {x : Chn} {W W' : World} (h : RS w base bm bc be m x W) (k : Chg [] W W') : RS w base bm bc be m x W' := h.step k (by simp)
theorem RS.one {w : World} {base bm bc be : Nat} {m : Img} {x : Chn} {W W' : World} {b : Nat} (h : RS w base bm bc be m x W) (k : Chg [b] W W') (hb : base ≤ b) : RS w base bm bc be m x W' := h.step k (by simpa using hb)
theorem RS.imps {w : World} {base bm bc be : Nat} {m : Img} {x : Chn} {W : World} (h : RS w base bm bc be m x W) (s : SlV) : RS w base bm bc be m { x with imps := s } (W.setCell ⟨bc, 1, none⟩ (.slice s.a s.n s.cap)) := by
 obtain ⟨h1, h2, h3, h4, h5⟩ := h
 exact ⟨h1.setCell _ _ (by dsimp only; omega), Chn.set_imps h2 s, (heap_setCell_ne (by dsimp only; omega) _).trans h3, h4.setCell _ _ (.inr (by dsimp only; omega)), h5⟩
theorem RS.sts {w : World} {base bm bc be : Nat} {m : Img} {x : Chn} {W : World} (h : RS w base bm bc be m x W) (s : SlV) : RS w base bm bc be m { x with starts := s } (W.setCell ⟨bc, 0, none⟩ (.slice s.a s.n s.cap)) := by
 obtain ⟨h1, h2, h3, h4, h5⟩ := h
 exact ⟨h1.setCell _ _ (by dsimp only; omega), Chn.set_starts h2 s, (heap_setCell_ne (by dsimp only; omega) _).trans h3, h4.setCell _ _ (.inr (by dsimp only; omega)), h5⟩
end Go.Proofs.YtiljokmkiolpgaaGreatDoor
