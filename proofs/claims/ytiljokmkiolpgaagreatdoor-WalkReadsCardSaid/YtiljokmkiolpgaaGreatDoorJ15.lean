/- Lemmas, laid together: part 15 of 42. Conditions: none but each lemma's own. -/
import Derived.Test.YtiljokmkiolpgaaGreatDoorJ13
import Derived.Test.YtiljokmkiolpgaaGreatDoorJ14
import Derived.Test.YtiljokmkiolpgaaGreatDoorJ10
import Derived.Deep.DeepMust
import Derived.Deep.DeepCutAuto
import Derived.Test.YtiljokmkiolpgaaGreatDoorJ1
namespace Go.Proofs.YtiljokmkiolpgaaGreatDoor
open Go.RowKit
set_option maxRecDepth 100000
structure SoW (w W : World) (b bm b6 : Nat) (m : Img) : Prop where
 im : imgL.Box W bm m
 r6 : staL.Box W b6 .zero
 cg : Chg [b] w W
 b_lt : b < w.heap.size
 lo : w.heap.size ≤ bm
 hi : bm < b6
theorem SoW.high {w W W' : World} {b bm b6 : Nat} {m : Img} (h : SoW w W b bm b6 m) {S : List Nat} (k : Chg S W W') (hS : ∀ i ∈ S, i = b ∨ b6 < i) : SoW w W' b bm b6 m := by
 have h1 := h.b_lt
 have h2 := h.lo
 have h3 := h.hi
 exact ⟨h.im.frameS k (fun hm => by rcases hS _ hm with e | e <;> omega), h.r6.frameS k (fun hm => by rcases hS _ hm with e | e <;> omega), h.cg.trans k (fun i hi hw => (hS i hi).elim (fun e => List.mem_singleton.2 e) (fun e => absurd hw (by omega))), h1, h2, h3⟩
theorem SoW.one {w W W' : World} {b bm b6 : Nat} {m : Img} (h : SoW w W b bm b6 m) (k : Chg [b] W W') : SoW w W' b bm b6 m := h.high k (fun _ hi => .inl (List.mem_singleton.1 hi))
theorem SoW.pure {w W W' : World} {b bm b6 : Nat} {m : Img} (h : SoW w W b bm b6 m) (k : Chg [] W W') : SoW w W' b bm b6 m := h.high k (fun _ hi => by cases hi)
def SoP (w : World) (b : Nat) (B : List UInt8) (r : ChR StP) (e : Ending) (w' : World) : Prop :=
 Chg [b] w w' ∧ match r with
 | .ok s => ∃ x p, e = .returned (staL.val x) ∧ StaIn w' w.heap.size x s ∧ CurB w' b (cs B p)
 | .bad n => e = stopE n
theorem soP_badR {w : World} {b : Nat} {B : List UInt8} {R : ChR StP} {n : Int} {w' : World} (hR : R = .bad n) (h : Chg [b] w w') : SoP w b B R (stopE n) w' := by rw [hR]; exact ⟨h, rfl⟩
theorem soP_bad {w : World} {b : Nat} {B : List UInt8} {n : Int} {w' : World} (h : Chg [b] w w') : SoP w b B (.bad n) (stopE n) w' := ⟨h, rfl⟩
set_option maxHeartbeats 4000000 in
theorem startOf_short (B : List UInt8) (b : Nat) (s : CS) (hf : (numberS (numberS (numberS (numberS (numberS (numberS s 4) 2) 2) 8) 4) 2).failed = true) (m : Img) (i : Nat) (w : World) (hg : Env w) (hlo : 1 < b) (hcu : CurB w b s) :
  Calls Tryz.prog 88 #[.pointer (some ⟨b, 0, none⟩), imgL.val m, .int .i64 i] w (SoP w b B (.bad 3)) := by
 have HN1 := hY (fun w h => Number_cur b s 4 w h)
 have HN2 := hY (fun w h => Number_cur b (numberS s 4) 2 w h)
 have HN3 := hY (fun w h => Number_cur b (numberS (numberS s 4) 2) 2 w h)
 have HN4 := hY (fun w h => Number_cur b (numberS (numberS (numberS s 4) 2) 2) 8 w h)
 have HN5 := hY (fun w h => Number_cur b (numberS (numberS (numberS (numberS s 4) 2) 2) 8) 4 w h)
 have HN6 := hY (fun w h => Number_cur b (numberS (numberS (numberS (numberS (numberS s 4) 2) 2) 8) 4) 2 w h)
 obtain ⟨P, hP⟩ : ∃ P, wrap64 ((numberV (numberS s 4) 2 : Nat) : Int) = P := ⟨_, rfl⟩
 obtain ⟨F, hF⟩ : ∃ F, wrap64 ((numberV (numberS (numberS s 4) 2) 2 : Nat) : Int) = F := ⟨_, rfl⟩
 have Hcu := hY hcu
 have Hf := hY hf
 have Hg := hY hg
 clear hcu hf hg
 go_enter Tryz.func88, Tryz.ntmps88
 go_wp2_with ((with_reducible refine Lay.bxQ (L := imgL) 32 m ?_ ?_); exact rfl)
 refine hY fun W1 bm ebm cbm xbm => ?_
 go_wp2_with (with_reducible refine Lay.alQ Tryz.tSta ?_)
 refine hY fun W2 b6 eb6 cb6 xb6 => ?_
 have hcl := Hcu.out.lt
 have hbm6 : bm < b6 := by rw [eb6.out]; exact xbm.out.lt
 have hb6 : b6 < W2.heap.size := xb6.out.lt
 have hbbm : w.heap.size ≤ bm := by rw [ebm.out]; exact Nat.le_refl _
 have S2 : Hid (SoW w W2 b bm b6 m) := hY (⟨xbm.out.frame cb6.out, xb6.out, (cbm.out.then cb6.out).add, hcl, hbbm, hbm6⟩)
 have U2 := hY ((Hcu.out.frame cbm.out).frame cb6.out)
 clear eb6 ebm xbm cbm xb6 cb6 Hcu
 go_wp2_with fail
 refine (HN1.out _ U2.out).mono ?_
 rintro e W3 ⟨rfl, hc, hg⟩
 have U3 := hY (hc)
 have S3 := hY (S2.out.one hg)
 clear hc hg
 go_wp2_with fail
 refine (HN2.out _ U3.out).mono ?_
 rintro e W4 ⟨rfl, hc, hg⟩
 have U4 := hY (hc)
 have S4 := hY (S3.out.one hg)
 clear hc hg
 go_wp2_with fail
 refine (HN3.out _ U4.out).mono ?_
 rintro e W5 ⟨rfl, hc, hg⟩
 have U5 := hY (hc)
 have S5 := hY (S4.out.one hg)
 clear hc hg
 go_wp2_with (with_reducible refine Lay.alQ Tryz.tSta ?_)
 refine hY fun W6 b8 eb8 cb8 xb8 => ?_
 go_wp2_with ((with_reducible refine Lay.stQ Tryz.tSta (⟨(i : Int), P, F, ⟨none, 0, 0⟩⟩ : Sta) (xb8.out) ?_ ?_ ?_); exact rfl; exact rfl)
 refine hY fun W7 cW7 xW7 => ?_
 have hb68 : b6 < b8 := by rw [eb8.out]; exact S5.out.r6.lt
 have S7 : Hid (SoW w W7 b bm b6 m) := hY ((S5.out.pure cb8.out).high cW7.out (by simp; omega))
 have U7 := hY ((U5.out.frame cb8.out).far cW7.out (by simp; omega))
 have X7 := hY (xW7.out)
 clear cb8 eb8 xb8 cW7 xW7 U2 U3 U4 U5 S2 S3 S4 S5
 have hbb8 : b ≠ b8 := by omega
 go_wp2_with fail
 refine (HN4.out _ U7.out).mono ?_
 rintro e W8 ⟨rfl, hc, hg⟩
 have U8 := hY (hc)
 have S8 := hY (S7.out.one hg)
 have X8 := hY (X7.out.frameS hg (by simp; omega))
 clear hc hg U7 S7 X7
 go_wp2_with fail
 refine (HN5.out _ U8.out).mono ?_
 rintro e W9 ⟨rfl, hc, hg⟩
 have U9 := hY (hc)
 have S9 := hY (S8.out.one hg)
 have X9 := hY (X8.out.frameS hg (by simp; omega))
 clear hc hg U8 S8 X8
 go_wp2_with fail
 refine (HN6.out _ U9.out).mono ?_
 rintro e WA ⟨rfl, hc, hg⟩
 have UA := hY (hc)
 have SA := hY (S9.out.one hg)
 have XA := hY (X9.out.frameS hg (by simp; omega))
 clear hc hg U9 S9 X9
 go_wp2_with fail
 refine (well_bad b _ _ (Hg.out.frame SA.out.cg (by simp; omega)) UA.out Hf.out).mono ?_
 rintro e WB ⟨rfl, hc⟩
 have hp : SoP w b B (.bad 3) (stopE 3) _ := soP_bad (SA.out.pure hc).cg
 exact ⟨rfl, hp⟩
theorem begC_succ (B : List UInt8) (page stride : Int) (n p : Nat) (acc : List Int) : begC B page stride (n + 1) p acc = if p + 2 ≤ B.length then (if WN B p 2 = 65535 then begC B page stride n (p + 2) (acc ++ [-1]) else if (WN B p 2 : Int) < page ∧ (WN B p 2 : Int) % stride = 0 then begC B page stride n (p + 2) (acc ++ [(WN B p 2 : Int)]) else .bad 15) else .bad 3 := rfl
theorem measC_d {L k : Nat} (h : k < L) : L - (intOf (.int .i64 ((k : Int) + 1))).toNat < L - (intOf (.int .i64 (k : Int))).toNat := by
 show L - ((k : Int) + 1).toNat < L - (k : Int).toNat
 omega
theorem WN_lt (B : List UInt8) (p k : Nat) : WN B p k < 256 ^ k := by
 unfold WN
 refine Nat.lt_of_lt_of_le (leNum_lt _) (Nat.pow_le_pow_right (by decide) ?_)
 rw [List.length_take]
 omega
set_option maxHeartbeats 8000000 in
theorem startOf_main (B : List UInt8) (b q : Nat) (hq : q + 22 ≤ B.length) (m : Img) (ls : List Seg) (hls : SegsB ls) (hend : ∀ k, k < ls.length → (ls.getD k .zero).size ≤ 140737488355328) (i : Nat) (hi : i < ls.length) (w : World) (hg : Env w) (hlo : 1 < b) (hcu : CurB w b (cs B q)) (rd : segL.Rd w m.segs.v ls) (hso : ∀ k, m.segs.v.ownBlock = some k → k ∉ [b]) :
  Calls Tryz.prog 88 #[.pointer (some ⟨b, 0, none⟩), imgL.val m, .int .i64 i] w (SoP w b B (startC B ls i q)) := by
 have hnum : ∀ (p k : Nat), okSize k = true → p + k ≤ B.length → ∀ w, CurB w b (cs B p) → Calls Tryz.prog 45 #[.pointer (some ⟨b, 0, none⟩), .int .i64 k] w fun e w' => e = .returned (.int .u64 (WN B p k)) ∧ CurB w' b (cs B (p + k)) ∧ Chg [b] w w' := by
  intro p k hk hp w hc
  have := Number_cur b (cs B p) k w hc
  rw [numV hk hp, numS hk hp] at this
  exact this
 have HN1 := hY (hnum q 4 (by decide) (by omega))
 have HN2 := hY (hnum (q + 4) 2 (by decide) (by omega))
 have HN3 := hY (hnum (q + 6) 2 (by decide) (by omega))
 have HN4 := hY (hnum (q + 8) 8 (by decide) (by omega))
 have HN5 := hY (hnum (q + 16) 4 (by decide) (by omega))
 have HN6 := hY (hnum (q + 20) 2 (by decide) (by omega))
 obtain ⟨R, hR⟩ : ∃ R, R = startC B ls i q := ⟨_, rfl⟩
 rw [← hR]
 unfold startC at hR
 rw [if_pos hq] at hR
 have b1 := WN_lt B q 4
 have b2 := WN_lt B (q + 4) 2
 have b3 := WN_lt B (q + 6) 2
 have b4 := WN_lt B (q + 8) 8
 have b6' := WN_lt B (q + 20) 2
 obtain ⟨sg, hsg⟩ : ∃ sg, sg = ls.getD i .zero := ⟨_, rfl⟩
 obtain ⟨n1, e1⟩ : ∃ n1, n1 = WN B q 4 := ⟨_, rfl⟩
 obtain ⟨n2, e2⟩ : ∃ n2, n2 = WN B (q + 4) 2 := ⟨_, rfl⟩
 obtain ⟨n3, e3⟩ : ∃ n3, n3 = WN B (q + 6) 2 := ⟨_, rfl⟩
 obtain ⟨n4, e4⟩ : ∃ n4, n4 = WN B (q + 8) 8 := ⟨_, rfl⟩
 obtain ⟨n6, e6⟩ : ∃ n6, n6 = WN B (q + 20) 2 := ⟨_, rfl⟩
 rw [← e1] at HN1 b1
 rw [← e2] at HN2 b2
 rw [← e3] at HN3 b3
 rw [← e4] at HN4 b4
 rw [← e6] at HN6 b6'
 rw [← e1, ← e2, ← e3, ← e4, ← e6, ← hsg] at hR
 obtain ⟨P, hP⟩ : ∃ P : Int, wrap64 (n2 : Int) = P := ⟨_, rfl⟩
 obtain ⟨F, hF⟩ : ∃ F : Int, wrap64 (n3 : Int) = F := ⟨_, rfl⟩
 obtain ⟨M, hM⟩ : ∃ M : Int, wrap64 (n6 : Int) = M := ⟨_, rfl⟩
 have hP2 : P = (n2 : Int) := by rw [← hP]; unfold wrap64; omega
 have hF2 : F = (n3 : Int) := by rw [← hF]; unfold wrap64; omega
 have hM2 : M = (n6 : Int) := by rw [← hM]; unfold wrap64; omega
 rw [← hP2, ← hF2] at hR
 obtain ⟨L, hL⟩ : ∃ L, L = lowS ls := ⟨_, rfl⟩
 rw [← hL] at hR
 have HLO : Hid (∀ W, Chg [b] w W → Calls Tryz.prog 70 #[imgL.val m] W fun e w' => e = .returned (.int .u64 L) ∧ Chg [] W w') := hY (fun W h => by rw [hL]; exact low_any m ls W (rd.frameS h hso))
 have hsB := hls i hi
 have hsE := hend i hi
 rw [← hsg] at hsB hsE
 obtain ⟨sa, sn, sc, hse⟩ : ∃ a n c, m.segs = ⟨a, n, c⟩ := ⟨_, _, _, rfl⟩
 have hsa : m.segs.a = sa := by rw [hse]
 have hsn : m.segs.n = sn := by rw [hse]
 have hsc : m.segs.cap = sc := by rw [hse]
 obtain ⟨_, _, hv, hc1, hc2⟩ := rd.shape
 rw [hse] at hv
 unfold SlV.v at hv
 injection hv with hva hvn hvc
 dsimp only at hva hvn hvc
 subst hva hvc
 have hin : i < sn := by omega
 have hHSG : ∀ W, Chg [b] w W → ∃ bS off, sa = some ⟨bS, off, none⟩ ∧ segL.In W bS (off + i * 7) sg := by
  intro W hW
  have h := rd.frameS hW hso
  rw [hse] at h
  obtain ⟨bS, off, e, _, hcell⟩ := Lay.Rd.at h (by omega)
  exact ⟨bS, off, e, by rw [hsg]; exact hcell i hi⟩
 have HSG := hY (hHSG)
 have hM3 : 0 ≤ M ∧ M < 65536 := by rw [hM2]; omega
 have Hsg := hY hsg
 have NB1 := hY b1
 have NB2 := hY b2
 have NB3 := hY b3
 have NB4 := hY b4
 have NB6 := hY b6'
 have HsB := hY hsB
 have HsE := hY hsE
 have HR := hY hR
 have Hg := hY hg
 have Hcu := hY hcu
 have Rd := hY rd
 have Hls := hY hls
 have Hend := hY hend
 have E1 := hY e1
 have E2 := hY e2
 have E3 := hY e3
 have E4 := hY e4
 have E6 := hY e6
 have HL := hY hL
 have Hnum := hY hnum
 have HHSG := hY hHSG
 have Hso := hY hso
 have HP2 := hY hP2
 have HF2 := hY hF2
 have HM2 := hY hM2
 have HM3 := hY hM3
 clear hsg b1 b2 b3 b4 b6' hsB hsE hR hg hcu rd hls hend e1 e2 e3 e4 e6 hL hnum hHSG hso hP2 hF2 hM2 hM3
 go_enter Tryz.func88, Tryz.ntmps88
 go_wp2_with ((with_reducible refine Lay.bxQ (L := imgL) 32 m ?_ ?_); exact rfl)
 refine hY fun W1 bm ebm cbm xbm => ?_
 go_wp2_with (with_reducible refine Lay.alQ Tryz.tSta ?_)
 refine hY fun W2 b6 eb6 cb6 xb6 => ?_
 have hcl := Hcu.out.lt
 have hbm6 : bm < b6 := by rw [eb6.out]; exact xbm.out.lt
 have hb6 : b6 < W2.heap.size := xb6.out.lt
 have hbbm : w.heap.size ≤ bm := by rw [ebm.out]; exact Nat.le_refl _
 have S2 : Hid (SoW w W2 b bm b6 m) := hY (⟨xbm.out.frame cb6.out, xb6.out, (cbm.out.then cb6.out).add, hcl, hbbm, hbm6⟩)
 have U2 := hY ((Hcu.out.frame cbm.out).frame cb6.out)
 clear eb6 ebm xbm cbm xb6 cb6 Hcu
 go_wp2_with fail
 refine (HN1.out _ U2.out).mono ?_
 rintro e W3 ⟨rfl, hc, hg⟩
 have U3 := hY (hc)
 have S3 := hY (S2.out.one hg)
 clear hc hg
 go_wp2_with fail
 refine (HN2.out _ U3.out).mono ?_
 rintro e W4 ⟨rfl, hc, hg⟩
 have U4 := hY (hc)
 have S4 := hY (S3.out.one hg)
 clear hc hg
 go_wp2_with fail
 refine (HN3.out _ U4.out).mono ?_
 rintro e W5 ⟨rfl, hc, hg⟩
 have U5 := hY (hc)
 have S5 := hY (S4.out.one hg)
 clear hc hg
 go_wp2_with (with_reducible refine Lay.alQ Tryz.tSta ?_)
 refine hY fun W6 b8 eb8 cb8 xb8 => ?_
 go_wp2_with ((with_reducible refine Lay.stQ Tryz.tSta (⟨(i : Int), P, F, ⟨none, 0, 0⟩⟩ : Sta) (xb8.out) ?_ ?_ ?_); exact rfl; exact rfl)
 refine hY fun W7 cW7 xW7 => ?_
 have hb68 : b6 < b8 := by rw [eb8.out]; exact S5.out.r6.lt
 have S7 : Hid (SoW w W7 b bm b6 m) := hY ((S5.out.pure cb8.out).high cW7.out (by simp; omega))
 have U7 := hY ((U5.out.frame cb8.out).far cW7.out (by simp; omega))
 have X7 := hY (xW7.out)
 clear cb8 eb8 xb8 cW7 xW7 U2 U3 U4 U5 S2 S3 S4 S5
 have hbb8 : b ≠ b8 := by omega
 go_wp2_with fail
 refine (HN4.out _ U7.out).mono ?_
 rintro e W8 ⟨rfl, hc, hg⟩
 have U8 := hY (hc)
 have S8 := hY (S7.out.one hg)
 have X8 := hY (X7.out.frameS hg (by simp; omega))
 clear hc hg U7 S7 X7
 go_wp2_with fail
 refine (HN5.out _ U8.out).mono ?_
 rintro e W9 ⟨rfl, hc, hg⟩
 have U9 := hY (hc)
 have S9 := hY (S8.out.one hg)
 have X9 := hY (X8.out.frameS hg (by simp; omega))
 clear hc hg U8 S8 X8
 go_wp2_with fail
 refine (HN6.out _ U9.out).mono ?_
 rintro e WA ⟨rfl, hc, hg⟩
 have UA := hY (hc)
 have SA := hY (S9.out.one hg)
 have XA := hY (X9.out.frameS hg (by simp; omega))
 clear hc hg U9 S9 X9
 go_wp2_with fail
 refine (well_ok b _ _ UA.out rfl).mono ?_
 rintro e WB ⟨rfl, hc⟩
 have UB := hY (UA.out.frame hc)
 have SB := hY (SA.out.pure hc)
 have XB := hY (XA.out.frame hc)
 clear hc UA SA XA
 have x4 := Img.c_segs SB.out.im
 rw [hsa, hsn, hsc] at x4
 obtain ⟨bS, off, rfl, hsi⟩ := HSG.out WB SB.out.cg
 have HI := hY hsi
 clear hsi
 go_wp2_with ((with_reducible refine Lay.ldQ Tryz.tSeg sg (HI.out) ?_ ?_); exact rfl)
 refine hY ?_
 go_wp2_with (with_reducible refine Lay.alQ Tryz.tSeg ?_)
 refine hY fun WC b11 eb11 cb11 xb11 => ?_
 go_wp2_with ((with_reducible refine Lay.stQ Tryz.tSeg sg (xb11.out) ?_ ?_ ?_); exact rfl; exact rfl)
 refine hY fun WD cWD xWD => ?_
 have hb811 : b8 < b11 := by rw [eb11.out]; exact XB.out.lt
 have SD : Hid (SoW w WD b bm b6 m) := hY ((SB.out.pure cb11.out).high cWD.out (by simp; omega))
 have UD := hY ((UB.out.frame cb11.out).far cWD.out (by simp; omega))
 have X8 := hY ((XB.out.frame cb11.out).frameS cWD.out (by simp; omega))
 have XD := hY (xWD.out)
 clear cb11 eb11 xb11 cWD xWD UB SB XB x4
 go_upto_region 8 with fail
 by_cases hok : holeS sg = false ∧ (n4 : Int) = IntKind.u64.wrap (sg.addr - L)
 case neg =>
  have HB : Hid (R = .bad 8) := hY (by rw [HR.out, if_neg hok])
  by_cases hh : holeS sg = true
  ·have p1 : (sg.prot != 0) = false := by unfold holeS at hh; simp at hh; simp [hh.1]
   have p2 : (sg.fsize != 0) = false := by unfold holeS at hh; simp at hh; simp [hh.2]
   have p1' : sg.prot = 0 := by simpa using p1
   have Hok := hY hok
   have Hh := hY hh
   clear hok hh
   refine wp_region_panTo (R := SoP w b B R) (fun _ _ _ h1 h2 => And.intro h1 h2) ?_
   refine wp_region_held_drew (S := fun w' => Chg [] WD w') (by kernel_rfl) ((Chg.refl [] WD).drew) (fun hHeld => ?_)
   refine take_read (i := 0) (v := ?_) (by simp only [gA, gZ]; rfl) (by kernel_rfl) (by kernel_rfl) (by kernel_rfl) (fun _ _ _ h => PanTo.put h) hHeld ?_ ?_
   rotate_left
   ·intro w hSw
    go_simp
    try with_reducible rfl
   try simp only [Act.put, aS, aZ, aC]
   refine take_read (i := 1) (v := ?_) (by simp only [gA, gC, gZ]; rfl) (by kernel_rfl) (by kernel_rfl) (by kernel_rfl) (fun _ _ _ h => PanTo.put h) hHeld ?_ ?_
   rotate_left
   ·intro w hSw
    have y5 := Seg.c_prot (XD.out.frame hSw)
    go_simp
    try with_reducible rfl
   try simp only [Act.put, aS, aZ, aC]
   refine take_read (i := 2) (v := ?_) (by simp only [gA, gC, gZ]; rfl) (by kernel_rfl) (by kernel_rfl) (by kernel_rfl) (fun _ _ _ h => PanTo.put h) hHeld ?_ ?_
   rotate_left
   ·intro w hSw
    go_simp
    try with_reducible rfl
   try simp only [Act.put, aS, aZ, aC]
   refine take_read (i := 3) (v := ?_) (by simp only [gA, gC, gZ]; rfl) (by kernel_rfl) (by kernel_rfl) (by kernel_rfl) (fun _ _ _ h => PanTo.put h) hHeld ?_ ?_
   rotate_left
   ·intro w hSw
    go_simp
    try with_reducible rfl
   try simp only [Act.put, aS, aZ, aC]
   refine take_read (i := 4) (v := ?_) (by simp only [gA, gC, gZ]; rfl) (by kernel_rfl) (by kernel_rfl) (by kernel_rfl) (fun _ _ _ h => PanTo.put h) hHeld ?_ ?_
   rotate_left
   ·intro w hSw
    go_simp
    try with_reducible rfl
   try simp only [Act.put, aS, aZ, aC]
   refine take_read (i := 5) (v := ?_) (by simp only [gA, gC, gZ]; rfl) (by kernel_rfl) (by kernel_rfl) (by kernel_rfl) (fun _ _ _ h => PanTo.put h) hHeld ?_ ?_
   rotate_left
   ·intro w hSw
    have y4 := Seg.c_fsize (XD.out.frame hSw)
    go_simp
    try with_reducible rfl
   try simp only [Act.put, aS, aZ, aC]
   refine take_read (i := 6) (v := ?_) (by simp only [gA, gC, gZ]; rfl) (by kernel_rfl) (by kernel_rfl) (by kernel_rfl) (fun _ _ _ h => PanTo.put h) hHeld ?_ ?_
   rotate_left
   ·intro w hSw
    go_simp
    try with_reducible rfl
   try simp only [Act.put, aS, aZ, aC]
   refine take_read (i := 7) (v := ?_) (by simp only [gA, gC, gZ]; rfl) (by kernel_rfl) (by kernel_rfl) (by kernel_rfl) (fun _ _ _ h => PanTo.put h) hHeld ?_ ?_
   rotate_left
   ·intro w hSw
    go_simp
    try with_reducible rfl
   try simp only [Act.put, aS, aZ, aC]
   refine take_read (i := 8) (v := ?_) (by simp only [gA, gC, gZ]; rfl) (by kernel_rfl) (by kernel_rfl) (by kernel_rfl) (fun _ _ _ h => PanTo.put h) hHeld ?_ ?_
   rotate_left
   ·intro w hSw
    go_simp
    try with_reducible rfl
   try simp only [Act.put, aS, aZ, aC]
   refine take_read (i := 9) (v := ?_) (by simp only [gA, gC, gZ]; rfl) (by kernel_rfl) (by kernel_rfl) (by kernel_rfl) (fun _ _ _ h => PanTo.put h) hHeld ?_ ?_
   rotate_left
   ·intro w hSw
    go_simp
    try with_reducible rfl
   try simp only [Act.put, aS, aZ, aC]
   refine take_read (i := 10) (v := ?_) (by simp only [gA, gC, gZ]; rfl) (by kernel_rfl) (by kernel_rfl) (by kernel_rfl) (fun _ _ _ h => PanTo.put h) hHeld ?_ ?_
   rotate_left
   ·intro w hSw
    go_simp
    try with_reducible rfl
   try simp only [Act.put, aS, aZ, aC]
   refine take_read (i := 11) (v := ?_) (by simp only [gA, gC, gZ]; rfl) (by kernel_rfl) (by kernel_rfl) (by kernel_rfl) (fun _ _ _ h => PanTo.put h) hHeld ?_ ?_
   rotate_left
   ·intro w hSw
    go_simp
    try with_reducible rfl
   try simp only [Act.put, aS, aZ, aC]
   refine take_read (i := 12) (v := ?_) (by simp only [gA, gC, gZ]; rfl) (by kernel_rfl) (by kernel_rfl) (by kernel_rfl) (fun _ _ _ h => PanTo.put h) hHeld ?_ ?_
   rotate_left
   ·intro w hSw
    go_simp
    try with_reducible rfl
   try simp only [Act.put, aS, aZ, aC]
   refine wpAnyH_ready (rs := [13]) (by kernel_rfl) (by simp) ?_
   refine AllReadyH.cons rfl (fun K hK => ?_) AllReadyH.nil
   go_simp
   refine hK.out _ _ hHeld ?_
   clear hK hHeld K
   intro hHeld
   try (unfold Act.put; simp only [aS, aZ, aC])
   refine take_read (i := 14) (v := ?_) (by simp only [gA, gC, gZ]; rfl) (by kernel_rfl) (by kernel_rfl) (by kernel_rfl) (fun _ _ _ h => PanTo.put h) hHeld ?_ ?_
   rotate_left
   ·intro w hSw
    go_simp
    try with_reducible rfl
   try simp only [Act.put, aS, aZ, aC]
   refine take_read (i := 15) (v := ?_) (by simp only [gA, gC, gZ]; rfl) (by kernel_rfl) (by kernel_rfl) (by kernel_rfl) (fun _ _ _ h => PanTo.put h) hHeld ?_ ?_
   rotate_left
   ·intro w hSw
    go_simp
    try with_reducible rfl
   try simp only [Act.put, aS, aZ, aC]
   refine take_read (i := 16) (v := ?_) (by simp only [gA, gC, gZ]; rfl) (by kernel_rfl) (by kernel_rfl) (by kernel_rfl) (fun _ _ _ h => PanTo.put h) hHeld ?_ ?_
   rotate_left
   ·intro w hSw
    go_simp
    try with_reducible rfl
   try simp only [Act.put, aS, aZ, aC]
   refine wpAnyH_ready (rs := [17]) (by kernel_rfl) (by simp) ?_
   refine AllReadyH.cons rfl (fun K hK => ?_) AllReadyH.nil
   go_simp
   refine (needC_bad 8 _).mono ?_
   rintro e WF ⟨rfl, rfl⟩
   exact And.intro rfl (soP_badR HB.out (SD.out.cg.then hHeld))
  ·have hne : ¬ (n4 : Int) = IntKind.u64.wrap (sg.addr - L) := fun e => hok ⟨by simpa using hh, e⟩
   have p3 : ((n4 : Int) == IntKind.u64.wrap (sg.addr - L)) = false := by rw [beq_eq_false_iff_ne]; exact hne
   cases p1 : (sg.prot != 0) with
   | true =>
    have p1' : ¬ sg.prot = 0 := by simpa using p1
    have Hok := hY hok
    have Hh := hY hh
    have Hne := hY hne
    clear hok hh hne
    refine wp_region_panTo (R := SoP w b B R) (fun _ _ _ h1 h2 => And.intro h1 h2) ?_
    refine wp_region_held_drew (S := fun w' => Chg [] WD w') (by kernel_rfl) ((Chg.refl [] WD).drew) (fun hHeld => ?_)
    refine take_read (i := 0) (v := ?_) (by simp only [gA, gZ]; rfl) (by kernel_rfl) (by kernel_rfl) (by kernel_rfl) (fun _ _ _ h => PanTo.put h) hHeld ?_ ?_
    rotate_left
    ·intro w hSw
     go_simp
     try with_reducible rfl
    try simp only [Act.put, aS, aZ, aC]
    refine take_read (i := 1) (v := ?_) (by simp only [gA, gC, gZ]; rfl) (by kernel_rfl) (by kernel_rfl) (by kernel_rfl) (fun _ _ _ h => PanTo.put h) hHeld ?_ ?_
    rotate_left
    ·intro w hSw
     have y5 := Seg.c_prot (XD.out.frame hSw)
     go_simp
     try with_reducible rfl
    try simp only [Act.put, aS, aZ, aC]
    refine take_read (i := 2) (v := ?_) (by simp only [gA, gC, gZ]; rfl) (by kernel_rfl) (by kernel_rfl) (by kernel_rfl) (fun _ _ _ h => PanTo.put h) hHeld ?_ ?_
    rotate_left
    ·intro w hSw
     go_simp
     try with_reducible rfl
    try simp only [Act.put, aS, aZ, aC]
    refine take_read (i := 3) (v := ?_) (by simp only [gA, gC, gZ]; rfl) (by kernel_rfl) (by kernel_rfl) (by kernel_rfl) (fun _ _ _ h => PanTo.put h) hHeld ?_ ?_
    rotate_left
    ·intro w hSw
     go_simp
     try with_reducible rfl
    try simp only [Act.put, aS, aZ, aC]
    refine take_read (i := 4) (v := ?_) (by simp only [gA, gC, gZ]; rfl) (by kernel_rfl) (by kernel_rfl) (by kernel_rfl) (fun _ _ _ h => PanTo.put h) hHeld ?_ ?_
    rotate_left
    ·intro w hSw
     go_simp
     try with_reducible rfl
    try simp only [Act.put, aS, aZ, aC]
    refine take_read (i := 5) (v := ?_) (by simp only [gA, gC, gZ]; rfl) (by kernel_rfl) (by kernel_rfl) (by kernel_rfl) (fun _ _ _ h => PanTo.put h) hHeld ?_ ?_
    rotate_left
    ·intro w hSw
     have y4 := Seg.c_fsize (XD.out.frame hSw)
     go_simp
     try with_reducible rfl
    try simp only [Act.put, aS, aZ, aC]
    refine take_read (i := 6) (v := ?_) (by simp only [gA, gC, gZ]; rfl) (by kernel_rfl) (by kernel_rfl) (by kernel_rfl) (fun _ _ _ h => PanTo.put h) hHeld ?_ ?_
    rotate_left
    ·intro w hSw
     go_simp
     try with_reducible rfl
    try simp only [Act.put, aS, aZ, aC]
    refine take_read (i := 7) (v := ?_) (by simp only [gA, gC, gZ]; rfl) (by kernel_rfl) (by kernel_rfl) (by kernel_rfl) (fun _ _ _ h => PanTo.put h) hHeld ?_ ?_
    rotate_left
    ·intro w hSw
     go_simp
     try with_reducible rfl
    try simp only [Act.put, aS, aZ, aC]
    refine take_read (i := 8) (v := ?_) (by simp only [gA, gC, gZ]; rfl) (by kernel_rfl) (by kernel_rfl) (by kernel_rfl) (fun _ _ _ h => PanTo.put h) hHeld ?_ ?_
    rotate_left
    ·intro w hSw
     go_simp
     try with_reducible rfl
    try simp only [Act.put, aS, aZ, aC]
    refine take_read (i := 9) (v := ?_) (by simp only [gA, gC, gZ]; rfl) (by kernel_rfl) (by kernel_rfl) (by kernel_rfl) (fun _ _ _ h => PanTo.put h) hHeld ?_ ?_
    rotate_left
    ·intro w hSw
     go_simp
     try with_reducible rfl
    try simp only [Act.put, aS, aZ, aC]
    refine take_read (i := 10) (v := ?_) (by simp only [gA, gC, gZ]; rfl) (by kernel_rfl) (by kernel_rfl) (by kernel_rfl) (fun _ _ _ h => PanTo.put h) hHeld ?_ ?_
    rotate_left
    ·intro w hSw
     go_simp
     try with_reducible rfl
    try simp only [Act.put, aS, aZ, aC]
    refine take_read (i := 11) (v := ?_) (by simp only [gA, gC, gZ]; rfl) (by kernel_rfl) (by kernel_rfl) (by kernel_rfl) (fun _ _ _ h => PanTo.put h) hHeld ?_ ?_
    rotate_left
    ·intro w hSw
     have y1 := Seg.c_addr (XD.out.frame hSw)
     go_simp
     try with_reducible rfl
    try simp only [Act.put, aS, aZ, aC]
    refine take_read (i := 12) (v := ?_) (by simp only [gA, gC, gZ]; rfl) (by kernel_rfl) (by kernel_rfl) (by kernel_rfl) (fun _ _ _ h => PanTo.put h) hHeld ?_ ?_
    rotate_left
    ·intro w hSw
     refine Lay.read_ld Tryz.tImg ((SD.out.im.frame hSw).in) ?_ ?_
     exact rfl
     exact rfl
    try simp only [Act.put, aS, aZ, aC]
    refine wpAnyH_ready (rs := [13]) (by kernel_rfl) (by simp) ?_
    refine AllReadyH.cons rfl (fun K hK => ?_) AllReadyH.nil
    go_simp
    refine (HLO.out _ (SD.out.cg.then hHeld)).mono ?_
    rintro e WE ⟨rfl, hc⟩
    have K13 := hY (hHeld.then hc)
    clear hc
    refine hK.out _ _ K13.out ?_
    clear hK hHeld K
    intro hHeld
    try (unfold Act.put; simp only [aS, aZ, aC])
    refine take_read (i := 14) (v := ?_) (by simp only [gA, gC, gZ]; rfl) (by kernel_rfl) (by kernel_rfl) (by kernel_rfl) (fun _ _ _ h => PanTo.put h) hHeld ?_ ?_
    rotate_left
    ·intro w hSw
     go_simp
     try with_reducible rfl
    try simp only [Act.put, aS, aZ, aC]
    refine take_read (i := 15) (v := ?_) (by simp only [gA, gC, gZ]; rfl) (by kernel_rfl) (by kernel_rfl) (by kernel_rfl) (fun _ _ _ h => PanTo.put h) hHeld ?_ ?_
    rotate_left
    ·intro w hSw
     go_simp
     try with_reducible rfl
    try simp only [Act.put, aS, aZ, aC]
    refine take_read (i := 16) (v := ?_) (by simp only [gA, gC, gZ]; rfl) (by kernel_rfl) (by kernel_rfl) (by kernel_rfl) (fun _ _ _ h => PanTo.put h) hHeld ?_ ?_
    rotate_left
    ·intro w hSw
     go_simp
     try with_reducible rfl
    try simp only [Act.put, aS, aZ, aC]
    refine wpAnyH_ready (rs := [17]) (by kernel_rfl) (by simp) ?_
    refine AllReadyH.cons rfl (fun K hK => ?_) AllReadyH.nil
    go_simp
    refine (needC_bad 8 _).mono ?_
    rintro e WF ⟨rfl, rfl⟩
    exact And.intro rfl (soP_badR HB.out (SD.out.cg.then hHeld))
   | false =>
    have p2 : (sg.fsize != 0) = true := by
     unfold holeS at hh
     simp at hh p1
     simpa using hh p1
    have p1' : sg.prot = 0 := by simpa using p1
    have Hok := hY hok
    have Hh := hY hh
    have Hne := hY hne
    clear hok hh hne
    refine wp_region_panTo (R := SoP w b B R) (fun _ _ _ h1 h2 => And.intro h1 h2) ?_
    refine wp_region_held_drew (S := fun w' => Chg [] WD w') (by kernel_rfl) ((Chg.refl [] WD).drew) (fun hHeld => ?_)
    refine take_read (i := 0) (v := ?_) (by simp only [gA, gZ]; rfl) (by kernel_rfl) (by kernel_rfl) (by kernel_rfl) (fun _ _ _ h => PanTo.put h) hHeld ?_ ?_
    rotate_left
    ·intro w hSw
     go_simp
     try with_reducible rfl
    try simp only [Act.put, aS, aZ, aC]
    refine take_read (i := 1) (v := ?_) (by simp only [gA, gC, gZ]; rfl) (by kernel_rfl) (by kernel_rfl) (by kernel_rfl) (fun _ _ _ h => PanTo.put h) hHeld ?_ ?_
    rotate_left
    ·intro w hSw
     have y5 := Seg.c_prot (XD.out.frame hSw)
     go_simp
     try with_reducible rfl
    try simp only [Act.put, aS, aZ, aC]
    refine take_read (i := 2) (v := ?_) (by simp only [gA, gC, gZ]; rfl) (by kernel_rfl) (by kernel_rfl) (by kernel_rfl) (fun _ _ _ h => PanTo.put h) hHeld ?_ ?_
    rotate_left
    ·intro w hSw
     go_simp
     try with_reducible rfl
    try simp only [Act.put, aS, aZ, aC]
    refine take_read (i := 3) (v := ?_) (by simp only [gA, gC, gZ]; rfl) (by kernel_rfl) (by kernel_rfl) (by kernel_rfl) (fun _ _ _ h => PanTo.put h) hHeld ?_ ?_
    rotate_left
    ·intro w hSw
     go_simp
     try with_reducible rfl
    try simp only [Act.put, aS, aZ, aC]
    refine take_read (i := 4) (v := ?_) (by simp only [gA, gC, gZ]; rfl) (by kernel_rfl) (by kernel_rfl) (by kernel_rfl) (fun _ _ _ h => PanTo.put h) hHeld ?_ ?_
    rotate_left
    ·intro w hSw
     go_simp
     try with_reducible rfl
    try simp only [Act.put, aS, aZ, aC]
    refine take_read (i := 5) (v := ?_) (by simp only [gA, gC, gZ]; rfl) (by kernel_rfl) (by kernel_rfl) (by kernel_rfl) (fun _ _ _ h => PanTo.put h) hHeld ?_ ?_
    rotate_left
    ·intro w hSw
     have y4 := Seg.c_fsize (XD.out.frame hSw)
     go_simp
     try with_reducible rfl
    try simp only [Act.put, aS, aZ, aC]
    refine take_read (i := 6) (v := ?_) (by simp only [gA, gC, gZ]; rfl) (by kernel_rfl) (by kernel_rfl) (by kernel_rfl) (fun _ _ _ h => PanTo.put h) hHeld ?_ ?_
    rotate_left
    ·intro w hSw
     go_simp
     try with_reducible rfl
    try simp only [Act.put, aS, aZ, aC]
    refine take_read (i := 7) (v := ?_) (by simp only [gA, gC, gZ]; rfl) (by kernel_rfl) (by kernel_rfl) (by kernel_rfl) (fun _ _ _ h => PanTo.put h) hHeld ?_ ?_
    rotate_left
    ·intro w hSw
     go_simp
     try with_reducible rfl
    try simp only [Act.put, aS, aZ, aC]
    refine take_read (i := 8) (v := ?_) (by simp only [gA, gC, gZ]; rfl) (by kernel_rfl) (by kernel_rfl) (by kernel_rfl) (fun _ _ _ h => PanTo.put h) hHeld ?_ ?_
    rotate_left
    ·intro w hSw
     go_simp
     try with_reducible rfl
    try simp only [Act.put, aS, aZ, aC]
    refine take_read (i := 9) (v := ?_) (by simp only [gA, gC, gZ]; rfl) (by kernel_rfl) (by kernel_rfl) (by kernel_rfl) (fun _ _ _ h => PanTo.put h) hHeld ?_ ?_
    rotate_left
    ·intro w hSw
     go_simp
     try with_reducible rfl
    try simp only [Act.put, aS, aZ, aC]
    refine take_read (i := 10) (v := ?_) (by simp only [gA, gC, gZ]; rfl) (by kernel_rfl) (by kernel_rfl) (by kernel_rfl) (fun _ _ _ h => PanTo.put h) hHeld ?_ ?_
    rotate_left
    ·intro w hSw
     go_simp
     try with_reducible rfl
    try simp only [Act.put, aS, aZ, aC]
    refine take_read (i := 11) (v := ?_) (by simp only [gA, gC, gZ]; rfl) (by kernel_rfl) (by kernel_rfl) (by kernel_rfl) (fun _ _ _ h => PanTo.put h) hHeld ?_ ?_
    rotate_left
    ·intro w hSw
     have y1 := Seg.c_addr (XD.out.frame hSw)
     go_simp
     try with_reducible rfl
    try simp only [Act.put, aS, aZ, aC]
    refine take_read (i := 12) (v := ?_) (by simp only [gA, gC, gZ]; rfl) (by kernel_rfl) (by kernel_rfl) (by kernel_rfl) (fun _ _ _ h => PanTo.put h) hHeld ?_ ?_
    rotate_left
    ·intro w hSw
     refine Lay.read_ld Tryz.tImg ((SD.out.im.frame hSw).in) ?_ ?_
     exact rfl
     exact rfl
    try simp only [Act.put, aS, aZ, aC]
    refine wpAnyH_ready (rs := [13]) (by kernel_rfl) (by simp) ?_
    refine AllReadyH.cons rfl (fun K hK => ?_) AllReadyH.nil
    go_simp
    refine (HLO.out _ (SD.out.cg.then hHeld)).mono ?_
    rintro e WE ⟨rfl, hc⟩
    have K13 := hY (hHeld.then hc)
    clear hc
    refine hK.out _ _ K13.out ?_
    clear hK hHeld K
    intro hHeld
    try (unfold Act.put; simp only [aS, aZ, aC])
    refine take_read (i := 14) (v := ?_) (by simp only [gA, gC, gZ]; rfl) (by kernel_rfl) (by kernel_rfl) (by kernel_rfl) (fun _ _ _ h => PanTo.put h) hHeld ?_ ?_
    rotate_left
    ·intro w hSw
     go_simp
     try with_reducible rfl
    try simp only [Act.put, aS, aZ, aC]
    refine take_read (i := 15) (v := ?_) (by simp only [gA, gC, gZ]; rfl) (by kernel_rfl) (by kernel_rfl) (by kernel_rfl) (fun _ _ _ h => PanTo.put h) hHeld ?_ ?_
    rotate_left
    ·intro w hSw
     go_simp
     try with_reducible rfl
    try simp only [Act.put, aS, aZ, aC]
    refine take_read (i := 16) (v := ?_) (by simp only [gA, gC, gZ]; rfl) (by kernel_rfl) (by kernel_rfl) (by kernel_rfl) (fun _ _ _ h => PanTo.put h) hHeld ?_ ?_
    rotate_left
    ·intro w hSw
     go_simp
     try with_reducible rfl
    try simp only [Act.put, aS, aZ, aC]
    refine wpAnyH_ready (rs := [17]) (by kernel_rfl) (by simp) ?_
    refine AllReadyH.cons rfl (fun K hK => ?_) AllReadyH.nil
    go_simp
    refine (needC_bad 8 _).mono ?_
    rintro e WF ⟨rfl, rfl⟩
    exact And.intro rfl (soP_badR HB.out (SD.out.cg.then hHeld))
 case pos =>
 have p3 : ((n4 : Int) == IntKind.u64.wrap (sg.addr - L)) = true := by rw [beq_iff_eq]; exact hok.2
 try (unfold Act.put; simp only [aS, aZ, aC])
 go_cut [] (fun wx => Chg [] WD wx)
 case first =>
  have hh := hok.1
  cases p1 : (sg.prot != 0) with
  | true =>
   have p1' : ¬ sg.prot = 0 := by simpa using p1
   have Hok := hY hok
   have Hh := hY hh
   clear hok hh
   refine wp_region_noPanic ?_
   refine wp_region_held_drew (S := fun w' => Chg [] WD w') (by kernel_rfl) ((Chg.refl [] WD).drew) (fun hHeld => ?_)
   refine tkr 0 ?_ hHeld ?_ ?_
   rotate_left
   ·intro w hSw
    go_simp
    try with_reducible rfl
   try simp only [Act.put, aS, aZ, aC]
   refine tkr 1 ?_ hHeld ?_ ?_
   rotate_left
   ·intro w hSw
    have y5 := Seg.c_prot (XD.out.frame hSw)
    go_simp
    try with_reducible rfl
   try simp only [Act.put, aS, aZ, aC]
   refine tkr 2 ?_ hHeld ?_ ?_
   rotate_left
   ·intro w hSw
    go_simp
    try with_reducible rfl
   try simp only [Act.put, aS, aZ, aC]
   refine tkr 3 ?_ hHeld ?_ ?_
   rotate_left
   ·intro w hSw
    go_simp
    try with_reducible rfl
   try simp only [Act.put, aS, aZ, aC]
   refine tkr 4 ?_ hHeld ?_ ?_
   rotate_left
   ·intro w hSw
    go_simp
    try with_reducible rfl
   try simp only [Act.put, aS, aZ, aC]
   refine tkr 5 ?_ hHeld ?_ ?_
   rotate_left
   ·intro w hSw
    have y4 := Seg.c_fsize (XD.out.frame hSw)
    go_simp
    try with_reducible rfl
   try simp only [Act.put, aS, aZ, aC]
   refine tkr 6 ?_ hHeld ?_ ?_
   rotate_left
   ·intro w hSw
    go_simp
    try with_reducible rfl
   try simp only [Act.put, aS, aZ, aC]
   refine tkr 7 ?_ hHeld ?_ ?_
   rotate_left
   ·intro w hSw
    go_simp
    try with_reducible rfl
   try simp only [Act.put, aS, aZ, aC]
   refine tkr 8 ?_ hHeld ?_ ?_
   rotate_left
   ·intro w hSw
    go_simp
    try with_reducible rfl
   try simp only [Act.put, aS, aZ, aC]
   refine tkr 9 ?_ hHeld ?_ ?_
   rotate_left
   ·intro w hSw
    go_simp
    try with_reducible rfl
   try simp only [Act.put, aS, aZ, aC]
   refine tkr 10 ?_ hHeld ?_ ?_
   rotate_left
   ·intro w hSw
    go_simp
    try with_reducible rfl
   try simp only [Act.put, aS, aZ, aC]
   refine tkr 11 ?_ hHeld ?_ ?_
   rotate_left
   ·intro w hSw
    have y1 := Seg.c_addr (XD.out.frame hSw)
    go_simp
    try with_reducible rfl
   try simp only [Act.put, aS, aZ, aC]
   refine tkr 12 ?_ hHeld ?_ ?_
   rotate_left
   ·intro w hSw
    refine Lay.read_ld Tryz.tImg ((SD.out.im.frame hSw).in) ?_ ?_
    exact rfl
    exact rfl
   try simp only [Act.put, aS, aZ, aC]
   refine wpAnyH_ready (rs := [13]) (by kernel_rfl) (by simp) ?_
   refine AllReadyH.cons rfl (fun K hK => ?_) AllReadyH.nil
   go_simp
   refine (HLO.out _ (SD.out.cg.then hHeld)).mono ?_
   rintro e WE ⟨rfl, hc⟩
   have K13 := hY (hHeld.then hc)
   clear hc
   refine hK.out _ _ K13.out ?_
   clear hK hHeld K
   intro hHeld
   try (unfold Act.put; simp only [aS, aZ, aC])
   refine tkr 14 ?_ hHeld ?_ ?_
   rotate_left
   ·intro w hSw
    go_simp
    try with_reducible rfl
   try simp only [Act.put, aS, aZ, aC]
   refine tkr 15 ?_ hHeld ?_ ?_
   rotate_left
   ·intro w hSw
    go_simp
    try with_reducible rfl
   try simp only [Act.put, aS, aZ, aC]
   refine tkr 16 ?_ hHeld ?_ ?_
   rotate_left
   ·intro w hSw
    go_simp
    try with_reducible rfl
   try simp only [Act.put, aS, aZ, aC]
   refine wpAnyH_ready (rs := [17]) (by kernel_rfl) (by simp) ?_
   refine AllReadyH.cons rfl (fun K hK => ?_) AllReadyH.nil
   go_simp
   refine (needC_ok 8 _).mono ?_
   rintro e WF ⟨rfl, rfl⟩
   refine hK.out _ _ hHeld ?_
   clear hK hHeld K
   intro hHeld
   try (unfold Act.put; simp only [aS, aZ, aC])
   refine wpAnyH_done (by kernel_rfl) ?_ _
   refine NoPanic.normal ?_
   go_wp2_with fail
   go_meet
   exact hHeld
  | false =>
   have p2 : (sg.fsize != 0) = true := by
    unfold holeS at hh
    simp at hh p1
    simpa using hh p1
   have p1' : sg.prot = 0 := by simpa using p1
   have Hok := hY hok
   have Hh := hY hh
   clear hok hh
   refine wp_region_noPanic ?_
   refine wp_region_held_drew (S := fun w' => Chg [] WD w') (by kernel_rfl) ((Chg.refl [] WD).drew) (fun hHeld => ?_)
   refine tkr 0 ?_ hHeld ?_ ?_
   rotate_left
   ·intro w hSw
    go_simp
    try with_reducible rfl
   try simp only [Act.put, aS, aZ, aC]
   refine tkr 1 ?_ hHeld ?_ ?_
   rotate_left
   ·intro w hSw
    have y5 := Seg.c_prot (XD.out.frame hSw)
    go_simp
    try with_reducible rfl
   try simp only [Act.put, aS, aZ, aC]
   refine tkr 2 ?_ hHeld ?_ ?_
   rotate_left
   ·intro w hSw
    go_simp
    try with_reducible rfl
   try simp only [Act.put, aS, aZ, aC]
   refine tkr 3 ?_ hHeld ?_ ?_
   rotate_left
   ·intro w hSw
    go_simp
    try with_reducible rfl
   try simp only [Act.put, aS, aZ, aC]
   refine tkr 4 ?_ hHeld ?_ ?_
   rotate_left
   ·intro w hSw
    go_simp
    try with_reducible rfl
   try simp only [Act.put, aS, aZ, aC]
   refine tkr 5 ?_ hHeld ?_ ?_
   rotate_left
   ·intro w hSw
    have y4 := Seg.c_fsize (XD.out.frame hSw)
    go_simp
    try with_reducible rfl
   try simp only [Act.put, aS, aZ, aC]
   refine tkr 6 ?_ hHeld ?_ ?_
   rotate_left
   ·intro w hSw
    go_simp
    try with_reducible rfl
   try simp only [Act.put, aS, aZ, aC]
   refine tkr 7 ?_ hHeld ?_ ?_
   rotate_left
   ·intro w hSw
    go_simp
    try with_reducible rfl
   try simp only [Act.put, aS, aZ, aC]
   refine tkr 8 ?_ hHeld ?_ ?_
   rotate_left
   ·intro w hSw
    go_simp
    try with_reducible rfl
   try simp only [Act.put, aS, aZ, aC]
   refine tkr 9 ?_ hHeld ?_ ?_
   rotate_left
   ·intro w hSw
    go_simp
    try with_reducible rfl
   try simp only [Act.put, aS, aZ, aC]
   refine tkr 10 ?_ hHeld ?_ ?_
   rotate_left
   ·intro w hSw
    go_simp
    try with_reducible rfl
   try simp only [Act.put, aS, aZ, aC]
   refine tkr 11 ?_ hHeld ?_ ?_
   rotate_left
   ·intro w hSw
    have y1 := Seg.c_addr (XD.out.frame hSw)
    go_simp
    try with_reducible rfl
   try simp only [Act.put, aS, aZ, aC]
   refine tkr 12 ?_ hHeld ?_ ?_
   rotate_left
   ·intro w hSw
    refine Lay.read_ld Tryz.tImg ((SD.out.im.frame hSw).in) ?_ ?_
    exact rfl
    exact rfl
   try simp only [Act.put, aS, aZ, aC]
   refine wpAnyH_ready (rs := [13]) (by kernel_rfl) (by simp) ?_
   refine AllReadyH.cons rfl (fun K hK => ?_) AllReadyH.nil
   go_simp
   refine (HLO.out _ (SD.out.cg.then hHeld)).mono ?_
   rintro e WE ⟨rfl, hc⟩
   have K13 := hY (hHeld.then hc)
   clear hc
   refine hK.out _ _ K13.out ?_
   clear hK hHeld K
   intro hHeld
   try (unfold Act.put; simp only [aS, aZ, aC])
   refine tkr 14 ?_ hHeld ?_ ?_
   rotate_left
   ·intro w hSw
    go_simp
    try with_reducible rfl
   try simp only [Act.put, aS, aZ, aC]
   refine tkr 15 ?_ hHeld ?_ ?_
   rotate_left
   ·intro w hSw
    go_simp
    try with_reducible rfl
   try simp only [Act.put, aS, aZ, aC]
   refine tkr 16 ?_ hHeld ?_ ?_
   rotate_left
   ·intro w hSw
    go_simp
    try with_reducible rfl
   try simp only [Act.put, aS, aZ, aC]
   refine wpAnyH_ready (rs := [17]) (by kernel_rfl) (by simp) ?_
   refine AllReadyH.cons rfl (fun K hK => ?_) AllReadyH.nil
   go_simp
   refine (needC_ok 8 _).mono ?_
   rintro e WF ⟨rfl, rfl⟩
   refine hK.out _ _ hHeld ?_
   clear hK hHeld K
   intro hHeld
   try (unfold Act.put; simp only [aS, aZ, aC])
   refine wpAnyH_done (by kernel_rfl) ?_ _
   refine NoPanic.normal ?_
   go_wp2_with fail
   go_meet
   exact hHeld
 case rest =>
 obtain ⟨WG, rfl⟩ : ∃ W, W = wc := ⟨_, rfl⟩
 clear p3
 replace HR := hY (HR.out.trans (if_pos hok))
 have SG := hY (SD.out.pure hcut)
 have UG := hY (UD.out.frame hcut)
 have XG := hY (X8.out.frame hcut)
 have ZG := hY (XD.out.frame hcut)
 clear SD UD X8 XD hcut hok
 have hpn : (n2 = 4096 ∨ n2 = 16384) ↔ (P = 4096 ∨ P = 16384) := by rw [HP2.out]; omega
 have y1 := Sta.c_page XG.out
 have y2 := Sta.c_fmt XG.out
 have HSTR := hY (fun W => stride_any F W)
 obtain ⟨st, hst⟩ : ∃ st, st = strideF F := ⟨_, rfl⟩
 rw [← hst] at HSTR
 have hr := HR.out
 clear HR
 rw [← hst] at hr
 simp only [hpn] at hr
 have HR := hY hr
 have Hpn := hY hpn
 have Hst := hY hst
 clear hr hpn hst
 by_cases hpg : (P = 4096 ∨ P = 16384) ∧ 0 < st
 case neg =>
  have HB : Hid (R = .bad 15) := hY (by rw [HR.out, if_neg hpg])
  have hc : (P ≠ 4096 ∧ P ≠ 16384) ∨ (P = 4096 ∧ ¬ 0 < st) ∨ (P ≠ 4096 ∧ P = 16384 ∧ ¬ 0 < st) := by omega
  rcases hc with ⟨p1, p2⟩ | ⟨p1, p2⟩ | ⟨p1, p2, p3⟩
  ·have q1 : (P == 4096) = false := by rw [beq_eq_false_iff_ne]; exact p1
   have q2 : (P == 16384) = false := by rw [beq_eq_false_iff_ne]; exact p2
   have Hpg := hY hpg
   have P1 := hY p1
   have P2 := hY p2
   clear hpg p1 p2
   go_wp2_with fail
   refine (needC_bad 15 _).mono ?_
   rintro e WI ⟨rfl, rfl⟩
   exact And.intro rfl (soP_badR HB.out SG.out.cg)
  ·have q1 : (P == 4096) = true := by rw [beq_iff_eq]; exact p1
   have q2 : decide (0 < st) = false := decide_eq_false p2
   have Hpg := hY hpg
   have P1 := hY p1
   have P2 := hY p2
   clear hpg p1 p2
   go_wp2_with fail
   refine (HSTR.out _).mono ?_
   rintro e WH ⟨rfl, hc⟩
   have SH := hY (SG.out.pure hc)
   clear hc
   go_wp2_with fail
   refine (needC_bad 15 _).mono ?_
   rintro e WI ⟨rfl, rfl⟩
   exact And.intro rfl (soP_badR HB.out SH.out.cg)
  ·have q0 : (P == 4096) = false := by rw [beq_eq_false_iff_ne]; exact p1
   have q1 : (P == 16384) = true := by rw [beq_iff_eq]; exact p2
   have q2 : decide (0 < st) = false := decide_eq_false p3
   have Hpg := hY hpg
   have P1 := hY p1
   have P2 := hY p2
   have P3 := hY p3
   clear hpg p1 p2 p3
   go_wp2_with fail
   refine (HSTR.out _).mono ?_
   rintro e WH ⟨rfl, hc⟩
   have SH := hY (SG.out.pure hc)
   clear hc
   go_wp2_with fail
   refine (needC_bad 15 _).mono ?_
   rintro e WI ⟨rfl, rfl⟩
   exact And.intro rfl (soP_badR HB.out SH.out.cg)
 case pos =>
 replace HR := hY (HR.out.trans (if_pos hpg))
 have q2 : decide (0 < st) = true := decide_eq_true hpg.2
 have HQST := hY (q2)
 go_upto_region 9 with fail
 go_cut [] (fun wx => Chg [] WG wx)
 case first =>
  have hc : P = 4096 ∨ (P ≠ 4096 ∧ P = 16384) := by omega
  rcases hc with p1 | ⟨p1, p2⟩
  ·have q1 : (P == 4096) = true := by rw [beq_iff_eq]; exact p1
   have Hpg := hY hpg
   have P1 := hY p1
   clear hpg p1
   go_wp2_with fail
   refine (HSTR.out _).mono ?_
   rintro e WH ⟨rfl, hc⟩
   have Hc := hY hc
   clear hc
   go_wp2_with fail
   refine (needC_ok 15 _).mono ?_
   rintro e WI ⟨rfl, rfl⟩
   go_wp2_with fail
   go_meet
   exact Hc.out
  ·have q0 : (P == 4096) = false := by rw [beq_eq_false_iff_ne]; exact p1
   have q1 : (P == 16384) = true := by rw [beq_iff_eq]; exact p2
   have Hpg := hY hpg
   have P1 := hY p1
   have P2 := hY p2
   clear hpg p1 p2
   go_wp2_with fail
   refine (HSTR.out _).mono ?_
   rintro e WH ⟨rfl, hc⟩
   have Hc := hY hc
   clear hc
   go_wp2_with fail
   refine (needC_ok 15 _).mono ?_
   rintro e WI ⟨rfl, rfl⟩
   go_wp2_with fail
   go_meet
   exact Hc.out
 case rest =>
 obtain ⟨WJ, rfl⟩ : ∃ W, W = wc := ⟨_, rfl⟩
 have SJ := hY (SG.out.pure hcut)
 have UJ := hY (UG.out.frame hcut)
 have XJ := hY (XG.out.frame hcut)
 have ZJ := hY (ZG.out.frame hcut)
 clear SG UG XG ZG hcut y1 y2 q2
 have y1 := Sta.c_page XJ.out
 have HPG := hY (fun W => pages_any sg HsB.out.2.1.1 HsE.out P hpg.1 W)
 obtain ⟨pg, hpgs⟩ : ∃ pg, pg = pagesC sg.size P := ⟨_, rfl⟩
 rw [← hpgs] at HPG
 have hr := HR.out
 clear HR
 rw [← hpgs] at hr
 have Hpgs := hY hpgs
 clear hpgs
 have hMb := HM3.out
 have w1 : wrap64 (2 * M) = 2 * M := by unfold wrap64; omega
 have w2 : wrap64 (22 + 2 * M) = 22 + 2 * M := by unfold wrap64; omega
 have w3 : IntKind.u64.wrap (22 + 2 * M) = 22 + 2 * M := by rw [IntKind.wrap_u64]; omega
 have hm2 := HM2.out
 by_cases hc1 : 22 + 2 * n6 ≤ n1
 case neg =>
  have HB : Hid (R = .bad 15) := hY (by rw [hr, if_neg (fun h => hc1 h.1)])
  have q1 : decide (22 + 2 * M ≤ (n1 : Int)) = false := decide_eq_false (by omega)
  have HR := hY hr
  have Hc1 := hY hc1
  have Hm2 := hY hm2
  have HMb := hY hMb
  clear hr hc1 hm2 hMb
  go_wp2_with fail
  refine (needC_bad 15 _).mono ?_
  rintro e WI ⟨rfl, rfl⟩
  exact And.intro rfl (soP_badR HB.out SJ.out.cg)
 case pos =>
 have q1 : decide (22 + 2 * M ≤ (n1 : Int)) = true := decide_eq_true (by omega)
 by_cases hc2 : M ≤ pg
 case neg =>
  have HB : Hid (R = .bad 15) := hY (by rw [hr, if_neg (fun h => hc2 (by rw [hm2]; exact h.2))])
  have q3 : decide (M ≤ pg) = false := decide_eq_false hc2
  have HR := hY hr
  have Hc1 := hY hc1
  have Hm2 := hY hm2
  have HMb := hY hMb
  have Hc2 := hY hc2
  clear hr hc1 hm2 hMb hc2
  go_wp2_with ((with_reducible refine Lay.ldG2 Tryz.tSeg sg (ZJ.out.in) ?_ ?_ ?_); exact rfl; exact rfl; refine Hid.out ?_)
  refine hY ?_
  go_wp2_with fail
  refine (HPG.out _).mono ?_
  rintro e WH ⟨rfl, hc⟩
  have SH := hY (SJ.out.pure hc)
  clear hc
  go_wp2_with fail
  refine (needC_bad 15 _).mono ?_
  rintro e WI ⟨rfl, rfl⟩
  exact And.intro rfl (soP_badR HB.out SH.out.cg)
 case pos =>
 have q3 : decide (M ≤ pg) = true := decide_eq_true hc2
 rw [if_pos ⟨hc1, by rw [← hm2]; exact hc2⟩] at hr
 have HR := hY hr
 have Hc1 := hY hc1
 have Hm2 := hY hm2
 have HMb := hY hMb
 have Hc2 := hY hc2
 clear hr hc1 hm2 hMb hc2
 go_wp2_with ((with_reducible refine Lay.ldG2 Tryz.tSeg sg (ZJ.out.in) ?_ ?_ ?_); exact rfl; exact rfl; refine Hid.out ?_)
 refine hY ?_
 go_wp2_with fail
 refine (HPG.out _).mono ?_
 rintro e WH ⟨rfl, hc⟩
 have SH := hY (SJ.out.pure hc)
 have UH := hY (UJ.out.frame hc)
 have XH := hY (XJ.out.frame hc)
 clear hc SJ UJ XJ ZJ
 go_wp2_with fail
 refine (needC_ok 15 _).mono ?_
 rintro e WI ⟨rfl, rfl⟩
 clear y1 q1 q3 w1 w2 w3
 go_wp2_with fail
 have hb8i : b6 < b8 ∧ b8 < WI.heap.size := ⟨hb68, XH.out.lt⟩
 have hNB := HM2.out
 have hMb := HM3.out
 have HN6 : Hid (n6 < 65536) := hY (by omega)
 have HB8 := hY hb8i
 have HNB := hY hNB
 have HMb := hY hMb
 have HPP := hY hP
 have HFF := hY hF
 have HMM := hY hM
 have HSE := hY hse
 have HSA := hY hsa
 have HSN := hY hsn
 have HSC := hY hsc
 clear hb8i hNB hMb hP hF hM hse hsa hsn hsc
 go_loopw [86] (fun s86 wr => ∃ (k : Nat) (acc : List Int) (sl : SlV), k ≤ n6 ∧ s86 = .int .i64 (k : Int) ∧ q + 22 + 2 * k ≤ B.length ∧ begC B P st (n6 - k) (q + 22 + 2 * k) acc = begC B P st n6 (q + 22) [] ∧ acc.length = k ∧ CurB wr b (cs B (q + 22 + 2 * k)) ∧ staL.Box wr b8 ⟨(i : Int), P, F, sl⟩ ∧ i64L.Buf 3 wr WI.heap.size (.slice sl.a sl.n sl.cap) acc ∧ SoW w wr b bm b6 m ∧ WI.heap.size ≤ wr.heap.size) (fun s86 _ => n6 - (intOf s86).toNat)
 case atStart => exact ⟨0, [], ⟨none, 0, 0⟩, Nat.zero_le _, rfl, hq, rfl, rfl, UH.out, XH.out, Lay.Buf.nil _ _, SH.out, Nat.le_refl _⟩
 case round =>
  obtain ⟨k, acc, sl, hk, rfl, hql, hbe, hal, hcc, hbx, hbu, hsw, hsz⟩ := hrel
  by_cases hlt : k < n6
  ·have d1 : decide ((k : Int) < M) = true := decide_eq_true (by have := HNB.out; omega)
   have hw1 : IntKind.i64.wrap ((k : Int) + 1) = (k : Int) + 1 := by have := HN6.out; rw [IntKind.wrap_i64]; omega
   obtain ⟨r, hr⟩ : ∃ r, n6 - k = r + 1 := ⟨n6 - k - 1, by omega⟩
   rw [hr] at hbe
   rw [begC_succ] at hbe
   obtain ⟨ad, nd, cd⟩ := sl
   obtain ⟨_, _, he, _, _⟩ := hbu.rd.shape
   cases he
   obtain ⟨p, hp⟩ : ∃ p, p = q + 22 + 2 * k := ⟨_, rfl⟩
   rw [← hp] at hbe hcc hql
   by_cases h2 : p + 2 ≤ B.length
   case neg =>
    have HB : Hid (R = .bad 3) := by
     refine hY ?_
     rw [HR.out, ← hbe, if_neg h2]
     rfl
    have HNX := hY (fun W h => Number_cur b (cs B p) 2 W h)
    have hf : (numberS (cs B p) (2 : Nat)).failed = true := numX (by omega)
    have Hbe := hY hbe
    have Hcc := hY hcc
    have Hbx := hY hbx
    have Hbu := hY hbu
    have Hsw := hY hsw
    have Hsz := hY hsz
    have Hf := hY hf
    have Hal := hY hal
    have Hr := hY hr
    have Hp := hY hp
    have Hql := hY hql
    clear hbe hcc hbx hbu hsw hsz hf hal hr hp hql
    go_wp2_with fail
    refine (HNX.out _ Hcc.out).mono ?_
    rintro e W1 ⟨rfl, hc, hg⟩
    have C1 := hY (hc)
    have S1 := hY (Hsw.out.one hg)
    clear hc hg
    go_wp2_with fail
    refine (well_bad b _ _ (Hg.out.frame S1.out.cg (by simp; omega)) C1.out Hf.out).mono ?_
    rintro e W2 ⟨rfl, hc⟩
    exact And.intro rfl (soP_badR HB.out (S1.out.pure hc).cg)
   case pos =>
   rw [if_pos h2] at hbe
   have HNX := hY (Hnum.out p 2 (by decide) h2)
   have hvb : WN B p 2 < 65536 := WN_lt B p 2
   obtain ⟨v, hv⟩ : ∃ v, v = WN B p 2 := ⟨_, rfl⟩
   rw [← hv] at HNX hvb hbe
   have hwv : wrap64 (v : Int) = (v : Int) := by unfold wrap64; omega
   have hq2 : q + 22 + 2 * (k + 1) = p + 2 := by omega
   have hr2 : n6 - (k + 1) = r := by omega
   have Hcc := hY hcc
   have Hbx := hY hbx
   have Hbu := hY hbu
   have Hsw := hY hsw
   have HSZ := hY hsz
   have Hal := hY hal
   have Hr := hY hr
   have Hp := hY hp
   have Hql := hY hql
   have Hv := hY hv
   have Hq2 := hY hq2
   have Hr2 := hY hr2
   have HVB := hY hvb
   clear hcc hbx hbu hsw hsz hal hr hp hql hv hq2 hr2 hvb
   go_wp2_with fail
   refine (HNX.out _ Hcc.out).mono ?_
   rintro e W1 ⟨rfl, hc, hg⟩
   have C1 := hY (hc)
   have S1 := hY (Hsw.out.one hg)
   have X1 := hY (Hbx.out.frameS hg (by have := HB8.out; have := Hsw.out.b_lt; have := Hsw.out.lo; have := Hsw.out.hi; simp; omega))
   have U1 := hY (Hbu.out.frame hg (fun j hj hm => by have := (Hbu.out.lt j hj).1; have := HB8.out; have := Hsw.out.b_lt; have := Hsw.out.lo; have := Hsw.out.hi; simp at hm; omega))
   have HZ1 := hY (Nat.le_trans HSZ.out hg.size)
   clear hc hg Hcc Hbx Hbu Hsw HSZ
   go_wp2_with fail
   refine (well_ok b _ _ C1.out rfl).mono ?_
   rintro e W2 ⟨rfl, hc⟩
   have C2 := hY (C1.out.frame hc)
   have S2 := hY (S1.out.pure hc)
   have X2 := hY (X1.out.frame hc)
   have U2 := hY (U1.out.pure hc)
   have HZ2 := hY (Nat.le_trans HZ1.out hc.size)
   clear hc C1 S1 X1 U1 HZ1
   have hvb := HVB.out
   by_cases hvn : v = 65535
   ·have d2 : ((v : Int) == 65535) = true := by rw [beq_iff_eq, hvn]; rfl
    have HBE : Hid (begC B P st (n6 - (k + 1)) (q + 22 + 2 * (k + 1)) (acc ++ [-1]) = begC B P st n6 (q + 22) []) := hY (by rw [Hr2.out, Hq2.out, ← hbe, if_pos hvn])
    have Hbe := hY hbe
    have Hvn := hY hvn
    have Hvb := hY hvb
    clear hbe hvn hvb
    go_wp2_with fail
    refine (needC_ok 15 _).mono ?_
    rintro e W3 ⟨rfl, rfl⟩
    have y3 := Sta.c_begins X2.out
    go_wp2_with ((with_reducible refine bsV ((-1)) _ ((int_built (-1))) ?_ ?_ ?_); exact rfl; exact rfl; intro VA va cva rva; replace cva := hY cva; replace rva := hY rva; refine Hid.out ?_)
    refine hY ?_
    have UA := hY (U2.out.pure cva.out)
    go_wp2_with (at_builtin; go_must (refine Lay.app (L := i64L) Tryz.infoInt rfl _ _ rfl WI.heap.size (.slice ad acc.length cd) acc rfl UA.out _ rfl [(-1 : Int)] rva.out (by have := Hal.out; have := HN6.out; simp; omega) (by have := Hal.out; have := HN6.out; simp; omega) (Nat.le_trans HZ2.out cva.out.size) ?_); intro vb VB hov hgv hlc; refine Hid.out ?_)
    refine hY ?_
    have DB : Hid (Chg (Value.slice ad acc.length cd).ownBlock.toList W3 VB) := hY (cva.out.add.same (Lay.chg_grown hgv))
    have SB : Hid (∀ i ∈ (Value.slice ad acc.length cd).ownBlock.toList, WI.heap.size ≤ i) := hY (fun i hi => (UA.out.lt i (by simpa using hi)).1)
    obtain ⟨ab, cb, rfl, hb1, hb2⟩ := hov.rd.shape
    have hlen1 : (acc ++ [(-1 : Int)]).length = k + 1 := by rw [List.length_append, Hal.out]; rfl
    rw [hlen1] at hov ⊢
    have UB := hY hov
    have Hlen1 := hY hlen1
    clear hov hlen1
    clear hgv hlc y3 UA cva rva hb1 hb2
    have CB := hY (C2.out.far DB.out (fun i hi => by have := SB.out i hi; have := HB8.out; omega))
    have XB := hY (X2.out.frameS DB.out (fun hm => by have := SB.out _ hm; have := HB8.out; omega))
    have SWB := hY (S2.out.high DB.out (fun i hi => .inr (by have := SB.out i hi; have := HB8.out; omega)))
    have HZB := hY (Nat.le_trans HZ2.out DB.out.size)
    clear C2 X2 S2 U2 HZ2 DB SB
    have y3 := Sta.c_begins XB.out
    have z3 := XB.out.frozen 3
    go_wp2
    go_roundw
    case rel =>
     have kk : Chg [b8] VB (VB.setCell ⟨b8, 3, none⟩ (.slice ab (k + 1) cb)) := (Chg.refl [b8] _).setCell _ _ (.inl (by simp))
     have h8 := HB8.out
     exact ⟨k + 1, acc ++ [(-1 : Int)], ⟨ab, k + 1, cb⟩, hlt, by first | rfl | exact congrArg (Value.int .i64) hw1 | go_num, (by rw [Hq2.out]; exact h2), HBE.out, Hlen1.out, (by rw [Hq2.out]; exact CB.out.far kk (by simp; have := SWB.out.b_lt; have := SWB.out.lo; have := SWB.out.hi; omega)), Sta.set_begins XB.out ⟨ab, k + 1, cb⟩, UB.out.frame kk (fun b hb hm => by have := (UB.out.lt b hb).1; simp at hm; omega), SWB.out.high kk (fun i hi => .inr (by simp at hi; omega)), Nat.le_trans HZB.out kk.size⟩
    case measure => first | exact measC_d hlt | exact measC_i hw1 hlt | exact measC_e hw1 hlt
   ·have d2 : ((v : Int) == 65535) = false := by rw [beq_eq_false_iff_ne]; omega
    have d3 : decide ((v : Int) < 0) = false := decide_eq_false (by omega)
    rw [if_neg hvn] at hbe
    have HBG := hY (fun W => begins_any v ⟨(i : Int), P, F, ⟨ad, acc.length, cd⟩⟩ (by show 0 < strideF F; rw [← Hst.out]; exact of_decide_eq_true HQST.out) W)
    dsimp only at HBG
    rw [← Hst.out] at HBG
    by_cases hok : (v : Int) < P ∧ (v : Int) % st = 0
    ·have HBE : Hid (begC B P st (n6 - (k + 1)) (q + 22 + 2 * (k + 1)) (acc ++ [(v : Int)]) = begC B P st n6 (q + 22) []) := hY (by rw [Hr2.out, Hq2.out, ← hbe, if_pos hok])
     rw [decide_eq_true hok] at HBG
     have Hbe := hY hbe
     have Hvn := hY hvn
     have Hok := hY hok
     have Hvb := hY hvb
     clear hbe hvn hok hvb
     go_wp2_with ((with_reducible refine Lay.ldG2 Tryz.tSta (⟨(i : Int), P, F, ⟨ad, acc.length, cd⟩⟩ : Sta) (X2.out.in) ?_ ?_ ?_); exact rfl; exact rfl; refine Hid.out ?_)
     refine hY ?_
     go_wp2_with fail
     refine (HBG.out _).mono ?_
     rintro e W3 ⟨rfl, hc⟩
     replace C2 := hY (C2.out.frame hc)
     replace S2 := hY (S2.out.pure hc)
     replace X2 := hY (X2.out.frame hc)
     replace U2 := hY (U2.out.pure hc)
     replace HZ2 := hY (Nat.le_trans HZ2.out hc.size)
     clear hc
     go_wp2_with fail
     refine (needC_ok 15 _).mono ?_
     rintro e W4 ⟨rfl, rfl⟩
     have y3 := Sta.c_begins X2.out
     go_wp2_with ((with_reducible refine bsV (((v : Int))) _ ((int_built ((v : Int)))) ?_ ?_ ?_); exact rfl; exact rfl; intro VA va cva rva; replace cva := hY cva; replace rva := hY rva; refine Hid.out ?_)
     refine hY ?_
     have UA := hY (U2.out.pure cva.out)
     go_wp2_with (at_builtin; go_must (refine Lay.app (L := i64L) Tryz.infoInt rfl _ _ rfl WI.heap.size (.slice ad acc.length cd) acc rfl UA.out _ rfl [((v : Int) : Int)] rva.out (by have := Hal.out; have := HN6.out; simp; omega) (by have := Hal.out; have := HN6.out; simp; omega) (Nat.le_trans HZ2.out cva.out.size) ?_); intro vb VB hov hgv hlc; refine Hid.out ?_)
     refine hY ?_
     have DB : Hid (Chg (Value.slice ad acc.length cd).ownBlock.toList W4 VB) := hY (cva.out.add.same (Lay.chg_grown hgv))
     have SB : Hid (∀ i ∈ (Value.slice ad acc.length cd).ownBlock.toList, WI.heap.size ≤ i) := hY (fun i hi => (UA.out.lt i (by simpa using hi)).1)
     obtain ⟨ab, cb, rfl, hb1, hb2⟩ := hov.rd.shape
     have hlen1 : (acc ++ [((v : Int) : Int)]).length = k + 1 := by rw [List.length_append, Hal.out]; rfl
     rw [hlen1] at hov ⊢
     have UB := hY hov
     have Hlen1 := hY hlen1
     clear hov hlen1
     clear hgv hlc y3 UA cva rva hb1 hb2
     have CB := hY (C2.out.far DB.out (fun i hi => by have := SB.out i hi; have := HB8.out; omega))
     have XB := hY (X2.out.frameS DB.out (fun hm => by have := SB.out _ hm; have := HB8.out; omega))
     have SWB := hY (S2.out.high DB.out (fun i hi => .inr (by have := SB.out i hi; have := HB8.out; omega)))
     have HZB := hY (Nat.le_trans HZ2.out DB.out.size)
     clear C2 X2 S2 U2 HZ2 DB SB
     have y3 := Sta.c_begins XB.out
     have z3 := XB.out.frozen 3
     go_wp2
     go_roundw
     case rel =>
      have kk : Chg [b8] VB (VB.setCell ⟨b8, 3, none⟩ (.slice ab (k + 1) cb)) := (Chg.refl [b8] _).setCell _ _ (.inl (by simp))
      have h8 := HB8.out
      exact ⟨k + 1, acc ++ [((v : Int) : Int)], ⟨ab, k + 1, cb⟩, hlt, by first | rfl | exact congrArg (Value.int .i64) hw1 | go_num, (by rw [Hq2.out]; exact h2), HBE.out, Hlen1.out, (by rw [Hq2.out]; exact CB.out.far kk (by simp; have := SWB.out.b_lt; have := SWB.out.lo; have := SWB.out.hi; omega)), Sta.set_begins XB.out ⟨ab, k + 1, cb⟩, UB.out.frame kk (fun b hb hm => by have := (UB.out.lt b hb).1; simp at hm; omega), SWB.out.high kk (fun i hi => .inr (by simp at hi; omega)), Nat.le_trans HZB.out kk.size⟩
     case measure => first | exact measC_d hlt | exact measC_i hw1 hlt | exact measC_e hw1 hlt
    ·have HB : Hid (R = .bad 15) := by
      refine hY ?_
      rw [HR.out, ← hbe, if_neg hok]
      rfl
     rw [decide_eq_false hok] at HBG
     have Hbe := hY hbe
     have Hvn := hY hvn
     have Hok := hY hok
     have Hvb := hY hvb
     clear hbe hvn hok hvb
     go_wp2_with ((with_reducible refine Lay.ldG2 Tryz.tSta (⟨(i : Int), P, F, ⟨ad, acc.length, cd⟩⟩ : Sta) (X2.out.in) ?_ ?_ ?_); exact rfl; exact rfl; refine Hid.out ?_)
     refine hY ?_
     go_wp2_with fail
     refine (HBG.out _).mono ?_
     rintro e W3 ⟨rfl, hc⟩
     have S3 := hY (S2.out.pure hc)
     clear hc
     go_wp2_with fail
     refine (needC_bad 15 _).mono ?_
     rintro e W4 ⟨rfl, rfl⟩
     exact And.intro rfl (soP_badR HB.out S3.out.cg)
  ·obtain rfl : k = n6 := by omega
   have d1 : decide ((k : Int) < M) = false := decide_eq_false (by have := HNB.out; omega)
   rw [Nat.sub_self] at hbe
   have HB : Hid (R = .ok ⟨(i : Int), P, F, acc⟩) := by
    refine hY ?_
    rw [HR.out, ← hbe]
    rfl
   have Hbe := hY hbe
   have Hcc := hY hcc
   have Hbx := hY hbx
   have Hbu := hY hbu
   have Hsw := hY hsw
   have Hsz := hY hsz
   have Hal := hY hal
   have Hql := hY hql
   clear hbe hcc hbx hbu hsw hsz hal hql
   go_wp2_with ((with_reducible refine Lay.ldQ Tryz.tSta (⟨(i : Int), P, F, sl⟩ : Sta) (Hbx.out.in) ?_ ?_); exact rfl)
   refine hY ?_
   go_wp2_with ((with_reducible refine Lay.stQ Tryz.tSta (⟨(i : Int), P, F, sl⟩ : Sta) (Hsw.out.r6) ?_ ?_ ?_); exact rfl; exact rfl)
   refine hY fun WZ cWZ xWZ => ?_
   refine wpList_nil ?_
   rename_i hKK
   refine hKK _ _ ?_
   unfold Act.put
   simp only [aS, aZ, aC]
   refine wp_ret ?_
   have h8 := HB8.out
   have hl1 := Hsw.out.lo
   have hl2 := Hsw.out.hi
   have hl3 := Hsw.out.b_lt
   refine Lay.ret1 Tryz.tSta Tryz.results88 xWZ.out rfl rfl ?_
   rw [HB.out]
   have hsz0 := Hsw.out.cg.size
   exact ⟨Hsw.out.cg.trans cWZ.out (fun i hi hw => by simp at hi; omega), ⟨(i : Int), P, F, sl⟩, _, rfl, ⟨rfl, rfl, rfl, (Hbu.out.frame cWZ.out (fun j hj hm => by have := (Hbu.out.lt j hj).1; simp at hm; omega)).mono (by omega)⟩, Hcc.out.far cWZ.out (by simp; omega)⟩
end Go.Proofs.YtiljokmkiolpgaaGreatDoor
