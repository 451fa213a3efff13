/- Lemmas, laid together: part 42 of 42. Conditions: none but each lemma's own. -/
import Derived.Test.YtiljokmkiolpgaaGreatDoorJ19
import Derived.Test.YtiljokmkiolpgaaGreatDoorJ41
import Derived.Test.YtiljokmkiolpgaaGreatDoorJ39
import Derived.Test.YtiljokmkiolpgaaGreatDoorJ35
import Derived.Test.YtiljokmkiolpgaaGreatDoorJ23
import Derived.Test.YtiljokmkiolpgaaGreatDoorJ24
import Derived.Test.YtiljokmkiolpgaaGreatDoorJ11
import Derived.Test.YtiljokmkiolpgaaGreatDoorJ4
import Derived.Test.YtiljokmkiolpgaaGreatDoorJ12
import Derived.Test.YtiljokmkiolpgaaGreatDoorJ10
import Derived.OpenShut
import Derived.Test.YtiljokmkiolpgaaGreatDoorJ1
namespace Go.Proofs.YtiljokmkiolpgaaGreatDoor
open Go.RowKit
set_option maxRecDepth 100000
theorem cmr_rd2 {W : World} {base : Nat} {v : Value} {ps : List (Cmd × Value)} (own : W.ownsRow base 104 2 v ps.length (cmdV ps)) (each : ∀ p ∈ ps, ∃ a c, p.2 = .slice a p.1.2.length c ∧ Rd W p.2 (bytesV p.1.2)) : ∃ cs : List Cmr, cs.length = ps.length ∧ cmrL.Buf 104 W base v cs ∧ ∀ k, k < ps.length → byteL.Rd W (.slice (cs.getD k .zero).bytes.a (cs.getD k .zero).bytes.n (cs.getD k .zero).bytes.cap) ((ps.map fun p => p.1.2).getD k []) := by
 have hsl : ∀ p ∈ ps, p.2 = .slice (slOf p.2).a (slOf p.2).n (slOf p.2).cap := by
  intro p hp
  obtain ⟨a, c, e, _⟩ := each p hp
  rw [e]
  rfl
 have hv : ∀ qs : List (Cmd × Value), (∀ p ∈ qs, p.2 = .slice (slOf p.2).a (slOf p.2).n (slOf p.2).cap) → cmdV qs = cmrL.vals (qs.map fun p => (⟨(p.1.1 : Nat), slOf p.2⟩ : Cmr)) := by
  intro qs
  induction qs with
  | nil => intro _; rfl
  | cons q r ih =>
   intro hq
   have h1 := ih (fun p hp => hq p (List.mem_cons_of_mem _ hp))
   have h2 := hq q (List.mem_cons_self ..)
   rw [List.map_cons, Lay.vals_cons, ← h1]
   show [.int .u32 (q.1.1 : Nat), q.2] ++ cmdV r = [.int .u32 (q.1.1 : Nat), .slice (slOf q.2).a (slOf q.2).n (slOf q.2).cap] ++ cmdV r
   rw [← h2]
 refine ⟨ps.map fun p => (⟨(p.1.1 : Nat), slOf p.2⟩ : Cmr), by simp, ?_, fun k hk => ?_⟩
 ·rw [hv ps hsl] at own
  unfold Lay.Buf
  rw [List.length_map]
  exact own
 ·have hm := List.getElem_mem hk
  obtain ⟨_, _, _, h1⟩ := each _ hm
  have h2 := hsl _ hm
  have e1 : (ps.map fun p => (⟨(p.1.1 : Nat), slOf p.2⟩ : Cmr)).getD k .zero = ⟨(ps[k].1.1 : Nat), slOf ps[k].2⟩ := by simp [List.getD_eq_getElem?_getD, hk]
  have e2 : (ps.map fun p => p.1.2).getD k [] = ps[k].1.2 := by simp [List.getD_eq_getElem?_getD, hk]
  rw [e1, e2]
  have h3 := Rd_to_byte h1
  rw [h2] at h3
  exact h3
set_option maxHeartbeats 4000000 in
theorem Image5_bad (l : List UInt8) (hE : ¬ readE l = 0) (a : Option Addr) (cap : Nat) (w : World) (rd : byteL.Rd w (.slice a l.length cap) l) :
  Calls Tryz.prog 14 #[.slice a l.length cap] w (ImgSays l w) := by
 have hrd := fun w rd => RRead_any l a cap w rd
 unfold RReadsAll at hrd
 unfold ImgSays imgE
 rw [if_neg hE]
 obtain ⟨E, hEE⟩ : ∃ E, E = readE l := ⟨_, rfl⟩
 rw [← hEE] at hE hrd ⊢
 have d0 : (E != 0) = true := by rw [bne_iff_ne]; exact hE
 have HE := hY hE
 have HRD := hY hrd
 have RD := hY rd
 have HEE := hY hEE
 clear hE hrd rd hEE
 go_enter Tryz.func14, Tryz.ntmps14
 go_wp2_with (with_reducible refine Lay.alQ Tryz.tIm ?_)
 refine hY fun Wa ba eba cba xba => ?_
 go_wp2_with fail
 refine (HRD.out Wa (Rd_of_byte (RD.out.frame cba.out))).mono ?_
 rintro e W1 ⟨v, ps, base, rfl, ho, _, hm, hch⟩
 have C1 := hY (cba.out.then hch)
 have XA1 := hY (xba.out.frame hch)
 clear hm hch
 obtain ⟨va, vn, vc, rfl⟩ := own_form ho
 clear ho
 go_wp2_with (with_reducible refine Lay.alQ Tryz.tHdr ?_)
 refine hY fun W2 bh ebh cbh xbh => ?_
 go_wp2_with ((with_reducible refine Lay.stQ Tryz.tHdr (⟨(rN l (hdSub l) : Nat), (rN l (nL l 12) : Nat), (rN l (nL l 24) : Nat)⟩ : Hdr) (xbh.out) ?_ ?_ ?_); exact rfl; exact rfl)
 refine hY fun W3 cW3 xW3 => ?_
 have C3 := hY (C1.out.then (cbh.out.new cW3.out (by rw [ebh.out]; exact Nat.le_refl _)))
 have XA3 := hY (XA1.out.frame (cbh.out.new cW3.out (by rw [ebh.out]; exact Nat.le_refl _)))
 go_wp2_with ((with_reducible refine Lay.stQ Tryz.tIm Img.zero (XA3.out) ?_ ?_ ?_); exact rfl; exact rfl)
 refine hY fun W4 cW4 xW4 => ?_
 go_wp2
 refine Lay.ret2 Tryz.tIm rfl xW4.out rfl rfl ?_
 exact ⟨_, rfl, C3.out.new cW4.out (by rw [eba.out]; exact Nat.le_refl _), fun h => absurd h HE.out, fun _ => rfl⟩
theorem cmdLs_len32 (l : List UInt8) (k : Nat) : ((cmdLs l).getD k []).length ≤ 140737488355328 := by
 rw [List.getD_eq_getElem?_getD]
 by_cases h : k < (cmdLs l).length
 ·rw [List.getElem?_eq_getElem h]
  have hm := List.getElem_mem h
  simp only [Option.getD_some]
  generalize (cmdLs l)[k] = x at hm
  unfold cmdLs readCs at hm
  split at hm
  ·unfold cmdsC at hm
   simp only [List.map_map, List.mem_map, Function.comp] at hm
   obtain ⟨i, _, rfl⟩ := hm
   unfold cmdC
   have := nL_lt l ((stC l (nL l 20) i).1 + 4)
   simp only [List.length_take, List.length_drop, szC]
   omega
  ·simp at hm
 ·rw [List.getElem?_eq_none (by omega)]
  simp
structure Im5R (w1 : World) (base bt : Nat) (ls : List (List UInt8)) (p0 : TP) (k : Nat) (pk : TP) (wr : World) : Prop where
 e : tellE pk (ls.drop k) = tellE p0 ls
 s : tellS pk (ls.drop k) = tellS p0 ls
 i : ∃ t xs, SInv w1 base bt pk t xs wr
set_option maxHeartbeats 8000000 in
theorem Image5_good (l : List UInt8) (hE : readE l = 0) (a : Option Addr) (cap : Nat) (w : World) (rd : byteL.Rd w (.slice a l.length cap) l) :
  Calls Tryz.prog 14 #[.slice a l.length cap] w (ImgSays l w) := by
 have hrd := fun w rd => RRead_any l a cap w rd
 unfold RReadsAll at hrd
 have hrn : ∀ n, rN l n = n := fun n => by unfold rN; rw [if_pos hE]
 simp only [hrn, hE] at hrd
 unfold ImgSays imgE imgP
 rw [if_pos hE]
 obtain ⟨p0, hp0⟩ : ∃ p0, p0 = tp0 l := ⟨_, rfl⟩
 obtain ⟨ls, hls⟩ : ∃ ls, ls = cmdLs l := ⟨_, rfl⟩
 rw [← hp0, ← hls]
 obtain ⟨K, hK⟩ : ∃ K : Nat, K = nL l 12 := ⟨_, rfl⟩
 obtain ⟨S, hS⟩ : ∃ S : Nat, S = hdSub l := ⟨_, rfl⟩
 obtain ⟨F, hF⟩ : ∃ F : Nat, F = nL l 24 := ⟨_, rfl⟩
 rw [← hK, ← hS, ← hF] at hrd
 have hp0' : p0 = ⟨{ Img.zero with kind := K, sub := S, flags := F }, [], [], fun _ => false, 0⟩ := by rw [hp0, hK, hS, hF]; rfl
 have hmem : ∀ k, (ls.getD k []).length ≤ 140737488355328 := fun k => by rw [hls]; exact cmdLs_len32 l k
 have HE := hY hE
 have HRD := hY hrd
 have RD := hY rd
 have HK := hY hK
 have HS := hY hS
 have HF := hY hF
 have Hrn := hY hrn
 have Hp0 := hY hp0
 have Hls := hY hls
 have HP0 := hY hp0'
 have HMEM := hY hmem
 clear hE hrd rd hK hS hF hrn hp0 hls hp0' hmem
 go_enter Tryz.func14, Tryz.ntmps14
 go_wp2_with (with_reducible refine Lay.alQ Tryz.tIm ?_)
 refine hY fun Wa ba eba cba xba => ?_
 go_wp2_with fail
 refine (HRD.out Wa (Rd_of_byte (RD.out.frame cba.out))).mono ?_
 rintro e W1 ⟨v, ps, base1, rfl, ho, hea, hm, hch⟩
 have C1 := hY (cba.out.then hch)
 have XA1 := hY (xba.out.frame hch)
 obtain ⟨cs, hcl, hbf, hrds⟩ := cmr_rd2 ho hea
 have hlp : ps.map (fun p => p.1.2) = ls := by rw [Hls.out]; unfold cmdLs; rw [← hm]; simp
 have hln : cs.length = ls.length := by rw [hcl, ← hlp]; simp
 rw [hlp] at hrds
 have hrds2 : ∀ k, k < cs.length → byteL.Rd W1 (.slice (cs.getD k .zero).bytes.a (cs.getD k .zero).bytes.n (cs.getD k .zero).bytes.cap) (ls.getD k []) := fun k hk => hrds k (by rw [← hcl]; exact hk)
 obtain ⟨va, vc, rfl, hvc1, hvc2⟩ := hbf.rd.shape
 have hcln : cs.length ≤ 9223372036854775807 := Nat.le_trans hvc1 hvc2
 have CB := hY hbf
 have CR := hY hrds2
 have HLN := hY hln
 have HCLN := hY hcln
 clear hbf hrds2 hln hcln
 clear ho hea hm hch hcl hrds hlp hvc1 hvc2
 go_wp2_with (with_reducible refine Lay.alQ Tryz.tHdr ?_)
 refine hY fun W2 bh ebh cbh xbh => ?_
 go_wp2_with ((with_reducible refine Lay.stQ Tryz.tHdr (⟨(S : Nat), (K : Nat), (F : Nat)⟩ : Hdr) (xbh.out) ?_ ?_ ?_); exact rfl; exact rfl)
 refine hY fun W3 cW3 xW3 => ?_
 have c13 := cbh.out.new cW3.out (by rw [ebh.out]; exact Nat.le_refl _)
 have C3 := hY (C1.out.then c13)
 have XA3 := hY (XA1.out.frame c13)
 have CB3 := hY (CB.out.pure c13)
 have CR3 := hY (fun k hk => (CR.out k hk).frame c13)
 clear c13
 have y0 := Hdr.c_sub xW3.out
 have y1 := Hdr.c_kind xW3.out
 have y2 := Hdr.c_flags xW3.out
 go_wp2_with ((with_reducible refine Lay.bxQ (L := senL) 101 (⟨{ Img.zero with kind := K, sub := S, flags := F }, false, false, false, false, false, 0⟩ : Sen) ?_ ?_); exact rfl)
 refine hY fun W5 bt ebt cbt xbt => ?_
 obtain ⟨base, hbase⟩ : ∃ base, base = W5.heap.size := ⟨_, rfl⟩
 have hT : SInv W3 base bt p0 ⟨{ Img.zero with kind := K, sub := S, flags := F }, false, false, false, false, false, 0⟩ [] W5 := by
  have q2 := xbt.out.lt
  have q4 := ebt.out
  rw [HP0.out]
  exact ⟨xbt.out, rfl, rfl, rfl, rfl, rfl, rfl, rfl, Lay.Buf.nil _ _, SecsIn.nil _ _, Lay.Buf.nil _ _, by omega, by omega, by omega, Nat.zero_le _, Nat.zero_le _, Nat.zero_le _, cbt.out⟩
 have hba : ba < base := by have := XA3.out.lt; have := hT.chg.size; have := hT.o4; omega
 have HT := hY hT
 have Hbase := hY hbase
 have Hba := hY hba
 clear hT hbase hba
 clear y0 y1 y2
 go_wp2_with fail
 go_loopw [9] (fun s9 wr => ∃ (k : Nat) (pk : TP), k ≤ cs.length ∧ s9 = .int .i64 (k : Int) ∧ Im5R W3 base bt ls p0 k pk wr) (fun s9 _ => cs.length - (intOf s9).toNat)
 case atStart => exact ⟨0, p0, Nat.zero_le _, rfl, rfl, rfl, _, _, HT.out⟩
 case round =>
  obtain ⟨k, pk, hk, rfl, hr⟩ := hrel
  by_cases hlt : k < cs.length
  ·have dlt : decide ((k : Int) < (cs.length : Int)) = true := decide_eq_true (by omega)
   have hw1 : wrap64 ((k : Int) + 1) = (k : Int) + 1 := by have := HCLN.out; unfold wrap64; omega
   obtain ⟨he, hs, t, xs, hti⟩ := hr
   obtain ⟨g, cap', hsl, _, _, _, _, _, _, hIn⟩ := CB3.out.at (by omega)
   injection hsl with hsl1 hsl2 hsl3
   subst hsl1
   clear hsl2 hsl3
   have hI := (hIn k hlt).frame hti.chg
   obtain ⟨x, hx⟩ : ∃ x, x = cs.getD k cmrL.d := ⟨_, rfl⟩
   rw [← hx] at hI
   have hrk := CR3.out k hlt
   rw [show cs.getD k Cmr.zero = x from hx.symm] at hrk
   rw [drop_getD ls k [] (by rw [← HLN.out]; exact hlt)] at he hs
   have hlk := HMEM.out k
   obtain ⟨lk, hlkk⟩ : ∃ lk, lk = ls.getD k [] := ⟨_, rfl⟩
   rw [← hlkk] at hrk he hs hlk
   rw [show tellS pk (lk :: ls.drop (k + 1)) = tellS (tS pk lk) (ls.drop (k + 1)) from rfl] at hs
   rw [show tellE pk (lk :: ls.drop (k + 1)) = if tE pk lk = 0 then tellE (tS pk lk) (ls.drop (k + 1)) else tE pk lk from rfl] at he
   have htake := fun w h => Take_any lk hlk (.slice x.bytes.a x.bytes.n x.bytes.cap) W3 base bt pk t xs w h hrk
   obtain ⟨E, hEq⟩ : ∃ E, E = tE pk lk := ⟨_, rfl⟩
   rw [← hEq] at he htake
   have hIa := Cmr.at hI
   obtain ⟨hI0, hI1⟩ := hIa
   rw [show cmrL.n = 2 from rfl] at hI1
   have Hs := hY hs
   have TI := hY hti
   have HI := hY hI
   have Hrk := hY hrk
   have Hx := hY hx
   have Hlkk := hY hlkk
   have Hlk := hY hlk
   have Htake := hY htake
   have HEq := hY hEq
   have HIn := hY hIn
   have HI0 := hY hI0
   clear hs hti hI hrk hx hlkk hlk htake hEq hIn hI0
   by_cases h0 : E = 0
   ·subst h0
    rw [if_pos rfl] at he
    have He := hY he
    clear he
    go_wp2_with fail
    refine (Htake.out _ TI.out).mono ?_
    rintro e Wd ⟨rfl, hc, ht⟩
    have Hc := hY hc
    have Ht := hY ht
    clear hc ht
    go_wp2
    go_roundw
    case rel => exact ⟨k + 1, tS pk lk, hlt, rfl, He.out, Hs.out, Ht.out trivial⟩
    case measure =>
     show cs.length - ((k : Int) + 1).toNat < cs.length - (k : Int).toNat
     omega
   ·have d0 : (E != 0) = true := by rw [bne_iff_ne]; exact h0
    rw [if_neg h0] at he
    have H0 := hY h0
    have HEE := hY he
    clear h0 he
    go_wp2_with fail
    refine (Htake.out _ TI.out).mono ?_
    rintro e Wd ⟨rfl, hc, ht⟩
    have XAd := hY (XA3.out.frame hc)
    have CD := hY (C3.out.then hc)
    clear hc ht
    go_wp2_with ((with_reducible refine Lay.stQ Tryz.tIm Img.zero (XAd.out) ?_ ?_ ?_); exact rfl; exact rfl)
    refine hY fun WE cWE xWE => ?_
    go_wp2
    refine Lay.ret2 Tryz.tIm rfl xWE.out rfl rfl ?_
    exact ⟨_, by rw [HEE.out]; rfl, CD.out.new cWE.out (by rw [eba.out]; exact Nat.le_refl _), fun h => absurd (HEE.out.trans h) H0.out, fun _ => rfl⟩
  ·obtain rfl : k = cs.length := by omega
   have dlt : decide ((cs.length : Int) < (cs.length : Int)) = false := decide_eq_false (by omega)
   obtain ⟨he, hs, t, xs, hti⟩ := hr
   rw [List.drop_eq_nil_of_le (by rw [HLN.out]; exact Nat.le_refl _)] at he hs
   rw [show tellS pk [] = pk from rfl] at hs
   rw [show tellE pk [] = 0 from rfl] at he
   subst hs
   have He := hY he
   have TI := hY hti
   clear he hti
   have XAd := hY (XA3.out.frame TI.out.chg)
   go_wp2_with ((with_reducible refine Lay.ldQ Tryz.tIm t.m (Sen.in_m TI.out.box) ?_ ?_); exact rfl)
   refine hY ?_
   go_wp2_with ((with_reducible refine Lay.stQ Tryz.tIm t.m (XAd.out) ?_ ?_ ?_); exact rfl; exact rfl)
   refine hY fun WE cWE xWE => ?_
   go_wp2
   refine Lay.ret2 Tryz.tIm rfl xWE.out rfl rfl ?_
   refine ⟨_, by rw [← He.out]; rfl, (C3.out.then TI.out.chg).new cWE.out (by rw [eba.out]; exact Nat.le_refl _), fun _ => (TI.out.img.low cWE.out (by simp; exact Hba.out)).mono ?_, fun h => absurd He.out.symm h⟩
   have h1 := C3.out.size
   have h2 := HT.out.chg.size
   have h3 := Hbase.out
   omega
theorem Image5_any (l : List UInt8) (a : Option Addr) (cap : Nat) (w : World) (rd : byteL.Rd w (.slice a l.length cap) l) :
  Calls Tryz.prog 14 #[.slice a l.length cap] w (ImgSays l w) := by
 by_cases h : readE l = 0
 ·exact Image5_good l h a cap w rd
 ·exact Image5_bad l h a cap w rd
def ofE (l : List UInt8) : Int := if imgE l = 0 then mayE l.length (32 + nL l 20 : Nat) (imgP l) else imgE l
def OfSays (l : List UInt8) (w : World) (e : Ending) (w' : World) : Prop := ∃ m : Img, e = .returned (.tuple #[imgL.val m, .int .i64 (ofE l)]) ∧ Chg [] w w' ∧ (ofE l = 0 → DImg w' w.heap.size m (imgP l)) ∧ (¬ ofE l = 0 → m = .zero)
theorem imgE_read {l : List UInt8} (h : imgE l = 0) : readE l = 0 := by
 by_cases hr : readE l = 0
 ·exact hr
 ·unfold imgE at h; rw [if_neg hr] at h; exact absurd h hr
set_option maxHeartbeats 8000000 in
theorem ROf_any (l : List UInt8) (a : Option Addr) (cap : Nat) (w : World) (rd : byteL.Rd w (.slice a l.length cap) l) :
  Calls Tryz.prog 6 #[.slice a l.length cap] w (OfSays l w) := by
 have hl : l.length ≤ 9223372036854775807 := by
  obtain ⟨_, _, _, h1, h2⟩ := rd.shape
  omega
 have him := fun w rd => Image5_any l a cap w rd
 unfold ImgSays at him
 have hsz := fun w rd => RRead_any l a cap w rd
 unfold RReadsAll at hsz
 have hnl := nL_lt l 20
 have hmy := fun m w hd => RMayI_any m (imgP l) (l.length : Nat) (32 + nL l 20 : Nat) (by omega) (by omega) (PB.img l) w hd
 unfold OfSays
 have hoe : ofE l = ofE l := rfl
 conv at hoe => rhs; unfold ofE
 obtain ⟨E, hE⟩ : ∃ E, E = ofE l := ⟨_, rfl⟩
 rw [← hE] at hoe ⊢
 by_cases h0 : imgE l = 0
 ·rw [if_pos h0] at hoe
  have hr := imgE_read h0
  simp only [h0] at him
  have hrn : ∀ n, rN l n = n := fun n => by unfold rN; rw [if_pos hr]
  simp only [hrn, hr] at hsz
  rw [← hoe] at hmy
  obtain ⟨P, hP⟩ : ∃ P, P = imgP l := ⟨_, rfl⟩
  rw [← hP] at him hmy ⊢
  obtain ⟨N, hN⟩ : ∃ N : Nat, N = 32 + nL l 20 := ⟨_, rfl⟩
  rw [← hN] at hsz hmy
  have hwl : IntKind.u64.wrap (l.length : Int) = (l.length : Int) := by rw [IntKind.wrap_u64]; omega
  have hwn : IntKind.u64.wrap (N : Int) = (N : Int) := by rw [IntKind.wrap_u64]; omega
  have HIM := hY him
  have HSZ := hY hsz
  have HMY := hY hmy
  have RD := hY rd
  have HE := hY hE
  have Hoe := hY hoe
  have H0 := hY h0
  have Hr := hY hr
  have Hrn := hY hrn
  have HP := hY hP
  have Hl := hY hl
  have Hnl := hY hnl
  have HN := hY hN
  clear him hsz hmy rd hE hoe h0 hr hrn hP hl hnl hN
  go_enter Tryz.func6, Tryz.ntmps6
  go_wp2_with (with_reducible refine Lay.alQ Tryz.tIm ?_)
  refine hY fun Wa ba eba cba xba => ?_
  go_wp2_with fail
  refine (HIM.out Wa (RD.out.frame cba.out)).mono ?_
  rintro e W1 ⟨m, rfl, hch, hdm, _⟩
  have C1 := hY (cba.out.then hch)
  have XA1 := hY (xba.out.frame hch)
  have hba1 : ba < Wa.heap.size := xba.out.lt
  have DA1 := hY (hdm trivial)
  clear hch hdm
  go_wp2_with (with_reducible refine Lay.alQ Tryz.tIm ?_)
  refine hY fun W2 bm ebm cbm xbm => ?_
  go_wp2_with ((with_reducible refine Lay.stQ Tryz.tIm m (xbm.out) ?_ ?_ ?_); exact rfl; exact rfl)
  refine hY fun W3 cW3 xW3 => ?_
  have c13 := cbm.out.new cW3.out (by rw [ebm.out]; exact Nat.le_refl _)
  have C3 := hY (C1.out.then c13)
  have XA3 := hY (XA1.out.frame c13)
  have DA3 := hY (DA1.out.frame c13)
  clear c13
  go_wp2_with fail
  refine (HSZ.out W3 (Rd_of_byte (RD.out.frame C3.out))).mono ?_
  rintro e W4 ⟨v4, ps, base4, rfl, ho4, _, _, hch⟩
  obtain ⟨va, vn, vc, rfl⟩ := own_form ho4
  have C4 := hY (C3.out.then hch)
  have XA4 := hY (XA3.out.frame hch)
  have DA4 := hY (DA3.out.frame hch)
  have XM4 := hY (xW3.out.frame hch)
  clear hch ho4
  go_wp2_with (with_reducible refine Lay.alQ Tryz.tHdr ?_)
  refine hY fun W5 bh ebh cbh xbh => ?_
  go_wp2_with ((with_reducible refine Lay.stQ Tryz.tHdr (⟨(hdSub l : Nat), (nL l 12 : Nat), (nL l 24 : Nat)⟩ : Hdr) (xbh.out) ?_ ?_ ?_); exact rfl; exact rfl)
  refine hY fun W6 cW6 xW6 => ?_
  have c46 := cbh.out.new cW6.out (by rw [ebh.out]; exact Nat.le_refl _)
  have C6 := hY (C4.out.then c46)
  have XA6 := hY (XA4.out.frame c46)
  have DA6 := hY (DA4.out.frame c46)
  have XM6 := hY (XM4.out.frame c46)
  clear c46
  go_wp2_with ((with_reducible refine Lay.ldQ Tryz.tIm m (XM6.out.in) ?_ ?_); exact rfl)
  refine hY ?_
  go_wp2_with fail
  refine (HMY.out m W6 DA6.out.rd).mono ?_
  rintro e W7 ⟨rfl, hch⟩
  have C7 := hY (C6.out.then hch)
  have XA7 := hY (XA6.out.frame hch)
  have DA7 := hY (DA6.out.frame hch)
  have XM7 := hY (XM6.out.frame hch)
  clear hch
  by_cases he : E = 0
  ·subst he
   go_wp2_with ((with_reducible refine Lay.ldQ Tryz.tIm m (XM7.out.in) ?_ ?_); exact rfl)
   refine hY ?_
   go_wp2_with ((with_reducible refine Lay.stQ Tryz.tIm m (XA7.out) ?_ ?_ ?_); exact rfl; exact rfl)
   refine hY fun WE cWE xWE => ?_
   go_wp2
   refine Lay.ret2 Tryz.tIm rfl xWE.out rfl rfl ?_
   have hlow : DImg WE w.heap.size m P := (DA7.out.low cWE.out (by simp; exact hba1)).mono cba.out.size
   have hcE := C7.out.new cWE.out (by rw [eba.out]; exact Nat.le_refl _)
   first | exact ⟨m, rfl, hcE, hlow⟩ | exact ⟨m, rfl, hcE, fun _ => hlow, fun h => absurd rfl h⟩
  ·have d0 : (E != 0) = true := by rw [bne_iff_ne]; exact he
   have HE0 := hY he
   clear he
   go_wp2_with ((with_reducible refine Lay.stQ Tryz.tIm Img.zero (XA7.out) ?_ ?_ ?_); exact rfl; exact rfl)
   refine hY fun WE cWE xWE => ?_
   go_wp2
   refine Lay.ret2 Tryz.tIm rfl xWE.out rfl rfl ?_
   exact ⟨_, rfl, C7.out.new cWE.out (by rw [eba.out]; exact Nat.le_refl _), fun h => absurd h HE0.out, fun _ => rfl⟩
 ·rw [if_neg h0] at hoe
  rw [← hoe] at h0 him
  have d0 : (E != 0) = true := by rw [bne_iff_ne]; exact h0
  have HIM := hY him
  have Hsz := hY hsz
  have Hmy := hY hmy
  have RD := hY rd
  have HE := hY hE
  have Hoe := hY hoe
  have H0 := hY h0
  have Hl := hY hl
  have Hnl := hY hnl
  clear him hsz hmy rd hE hoe h0 hl hnl
  go_enter Tryz.func6, Tryz.ntmps6
  go_wp2_with (with_reducible refine Lay.alQ Tryz.tIm ?_)
  refine hY fun Wa ba eba cba xba => ?_
  go_wp2_with fail
  refine (HIM.out Wa (RD.out.frame cba.out)).mono ?_
  rintro e W1 ⟨m, rfl, hch, _, _⟩
  have C1 := hY (cba.out.then hch)
  have XA1 := hY (xba.out.frame hch)
  clear hch
  go_wp2_with (with_reducible refine Lay.alQ Tryz.tIm ?_)
  refine hY fun W2 bm ebm cbm xbm => ?_
  go_wp2_with ((with_reducible refine Lay.stQ Tryz.tIm m (xbm.out) ?_ ?_ ?_); exact rfl; exact rfl)
  refine hY fun W3 cW3 xW3 => ?_
  have c13 := cbm.out.new cW3.out (by rw [ebm.out]; exact Nat.le_refl _)
  have C3 := hY (C1.out.then c13)
  have XA3 := hY (XA1.out.frame c13)
  clear c13
  go_wp2_with ((with_reducible refine Lay.stQ Tryz.tIm Img.zero (XA3.out) ?_ ?_ ?_); exact rfl; exact rfl)
  refine hY fun WE cWE xWE => ?_
  go_wp2
  refine Lay.ret2 Tryz.tIm rfl xWE.out rfl rfl ?_
  exact ⟨_, rfl, C3.out.new cWE.out (by rw [eba.out]; exact Nat.le_refl _), fun h => absurd h H0.out, fun _ => rfl⟩
theorem trQ_segs (p : TP) (x : Spn) : (trQ p x).segs = p.segs := by unfold trQ; split <;> rfl
theorem tS_seg16 {p : TP} {l : List UInt8} (h : p.segs.length ≤ 16) (he : tE p l = 0) : (tS p l).segs.length ≤ 16 := by
 unfold tE at he
 by_cases ho : opE l = 0
 ·rw [if_neg (by simp [ho])] at he
  unfold tS
  split
  ·exact h
  ·rename_i hk
   rw [if_neg hk] at he
   split
   ·rename_i h25
    rw [if_pos h25] at he
    unfold sgtE at he
    by_cases hs : segE l = 0
    ·rw [if_pos hs] at he
     by_cases h16 : p.segs.length = 16 ∨ 64 < p.n + n4 l 64
     ·rw [if_pos h16] at he; exact absurd he (by decide)
     ·show (p.segs ++ [segP l]).length ≤ 16
      rw [List.length_append]
      simp only [List.length_singleton]
      omega
    ·rw [if_neg hs] at he; exact absurd he hs
   ·split
    ·exact h
    ·split
     ·exact h
     ·split
      ·rw [trQ_segs]; exact h
      ·split
       ·exact h
       ·split
        ·exact h
        ·split
         ·exact h
         ·rw [trQ_segs]; exact h
 ·rw [if_pos ho] at he; exact absurd he (by decide)
theorem tell_segs : ∀ (ls : List (List UInt8)) (p : TP), p.segs.length ≤ 16 → tellE p ls = 0 → (tellS p ls).segs.length ≤ 16
 | [], _, h, _ => h
 | l :: r, p, h, he => by
  have h1 : tellE p (l :: r) = if tE p l = 0 then tellE (tS p l) r else tE p l := rfl
  rw [h1] at he
  by_cases h0 : tE p l = 0
  ·rw [if_pos h0] at he
   exact tell_segs r _ (tS_seg16 h h0) he
  ·rw [if_neg h0] at he; exact absurd he h0
theorem img_segs {l : List UInt8} (h : imgE l = 0) : (imgP l).segs.length ≤ 16 := by
 unfold imgE at h
 split at h
 ·exact tell_segs _ _ (Nat.zero_le _) h
 ·rename_i hr; exact absurd h hr
theorem ofE_both {l : List UInt8} (h : ofE l = 0) : imgE l = 0 ∧ mayE l.length (32 + nL l 20 : Nat) (imgP l) = 0 := by
 unfold ofE at h
 split at h
 ·rename_i h0; exact ⟨h0, h⟩
 ·rename_i h0; exact absurd h h0
def Low47 (l : List Fx) : Prop := ∀ x ∈ l, 0 ≤ x.at_ ∧ x.at_ + 8 ≤ 140737488355328
theorem Low47.snoc {l : List Fx} (h : Low47 l) (x : Fx) (h0 : 0 ≤ x.at_) (h1 : x.at_ + 8 ≤ 140737488355328) : Low47 (l ++ [x]) := fun y hy => by
 rcases List.mem_append.1 hy with hy | hy
 ·exact h y hy
 ·rw [List.mem_singleton] at hy
  rw [hy]
  exact ⟨h0, h1⟩
theorem folC_b (l : List UInt8) (ls : List Seg) (imps : List Imp) (top page fm first : Int) (ht : top ≤ 140737488355328) : ∀ (n : Nat) (at_ : Int) (acc a : List Fx), 0 ≤ first + at_ → Low47 acc → folC l ls imps top page fm first n at_ acc = .ok a → Low47 a := by
 intro n
 induction n with
 | zero => intro at_ acc a _ _ h; cases h
 | succ n ih =>
  intro at_ acc a h0 hA h
  unfold folC at h
  split at h
  ·cases h
  rename_i h1
  split at h
  ·cases h
  split at h
  ·cases h
  split at h
  ·injection h with h
   subst h
   exact hA.snoc _ h0 (by dsimp only; omega)
  split at h
  ·cases h
  exact ih _ _ a (by omega) (hA.snoc _ h0 (by dsimp only; omega)) h
theorem pgsC_b (l : List UInt8) (ls : List Seg) (imps : List Imp) (addr top page fm : Int) (ht : top ≤ 140737488355328) (ha : 0 ≤ addr) (hp : 0 ≤ page) : ∀ (bs : List Int) (i : Nat) (acc a : List Fx), Low47 acc → pgsC l ls imps addr top page fm bs i acc = .ok a → Low47 a := by
 intro bs
 induction bs with
 | nil => intro i acc a hA h; injection h with h; subst h; exact hA
 | cons b bs ih =>
  intro i acc a hA h
  unfold pgsC at h
  split at h
  ·exact ih (i + 1) acc a hA h
  ·rename_i hb
   cases hf : folC l ls imps top page fm (addr + i * page) 2049 b acc with
   | bad x => rw [hf] at h; cases h
   | ok c =>
    rw [hf] at h
    have h9 : 0 ≤ (i : Int) * page := Int.mul_nonneg (by omega) hp
    exact ih (i + 1) c a (folC_b l ls imps top page fm _ ht 2049 b acc c (by omega) hA hf) h
theorem fixsC_b (l : List UInt8) (ls : List Seg) (imps : List Imp) : ∀ (ss : List StP) (acc a : List Fx), (∀ s ∈ ss, 0 ≤ s.page ∧ 0 ≤ (ls.getD s.seg.toNat .zero).addr ∧ (ls.getD s.seg.toNat .zero).addr + (ls.getD s.seg.toNat .zero).size ≤ 140737488355328) → Low47 acc → fixsC l ls imps ss acc = .ok a → Low47 a := by
 intro ss
 induction ss with
 | nil => intro acc a _ hA h; injection h with h; subst h; exact hA
 | cons s ss ih =>
  intro acc a hS hA e
  unfold fixsC at e
  obtain ⟨h1, h2, h3⟩ := hS s (List.mem_cons_self ..)
  cases hf : pgsC l ls imps (ls.getD s.seg.toNat .zero).addr ((ls.getD s.seg.toNat .zero).addr + (ls.getD s.seg.toNat .zero).size) s.page s.fmt s.begins 0 acc with
  | bad x => rw [hf] at e; cases e
  | ok c =>
   rw [hf] at e
   exact ih c a (fun t ht => hS t (List.mem_cons_of_mem _ ht)) (pgsC_b l ls imps _ _ s.page s.fmt h3 h2 h1 s.begins 0 acc c hA hf) e
theorem fixupsC_b {l : List UInt8} {ls : List Seg} {d off size : Nat} {a : List Fx} (hls : SegsB ls) (hend : ∀ k, k < ls.length → (ls.getD k .zero).addr + (ls.getD k .zero).size ≤ 140737488355328) (h : fixupsC l ls d off size = .ok a) : Low47 a := by
 unfold fixupsC at h
 split at h
 ·injection h with h
  subst h
  exact fun x hx => by cases hx
 ·cases hr : readC (partS l off size) ls d with
  | bad e => rw [hr] at h; cases h
  | ok c =>
   rw [hr] at h
   obtain ⟨_, h2⟩ := readC_up hr
   refine fixsC_b l ls c.2 c.1 [] a (fun s hs => ?_) (fun x hx => by cases hx) h
   have h3 := h2 s hs
   unfold StOk at h3
   exact ⟨by have := h3.2.1; omega, (hls _ h3.1).1.1, hend _ h3.1⟩
theorem fixupsC_next {l : List UInt8} {ls : List Seg} {d off size : Nat} {a : List Fx} (hls : SegsB ls) (hu : SegsUp ls) (h : fixupsC l ls d off size = .ok a) (i : Nat) (hi : i + 1 < a.length) : (a.getD i .zero).at_ + 8 ≤ (a.getD (i + 1) .zero).at_ := by
 obtain ⟨r, hp, _⟩ := fixupsC_asc hu (fun k hk => (hls k hk).2.1.1) 0 (fun k hk => (hls k hk).1.1) h
 have h9 := List.pairwise_iff_getElem.1 hp i (i + 1) (by omega) hi (by omega)
 rw [List.getD_eq_getElem?_getD, List.getD_eq_getElem?_getD, List.getElem?_eq_getElem hi, List.getElem?_eq_getElem (Nat.lt_of_succ_lt hi)]
 exact h9
structure WlkI (w : World) (m : Img) (xs : List Seg) (off size : Nat) : Prop where
 rd : segL.Rd w m.segs.v xs
 b : SegsB xs
 up : SegsUp xs
 end_ : ∀ k, k < xs.length → (xs.getD k .zero).addr + (xs.getD k .zero).size ≤ 140737488355328
 len : xs.length ≤ 1048576
 co : m.chO = (off : Int)
 cs : m.chS = (size : Int)
 ob : off < 18446744073709551616
 sb : size < 18446744073709551616
 own : ∀ k, m.segs.v.ownBlock = some k → k < w.heap.size
theorem WlkI.frame {w w' : World} {m : Img} {xs : List Seg} {off size : Nat} (h : WlkI w m xs off size) (k : Chg [] w w') : WlkI w' m xs off size :=
 ⟨h.rd.frame k, h.b, h.up, h.end_, h.len, h.co, h.cs, h.ob, h.sb, fun j hj => Nat.lt_of_lt_of_le (h.own j hj) k.size⟩
theorem wlk_of {w : World} {base : Nat} {m : Img} {l : List UInt8} (h0 : ofE l = 0) (hd : DImg w base m (imgP l)) : ∃ xs off size, WlkI w m xs off size := by
 obtain ⟨hi, hm⟩ := ofE_both h0
 have h16 := img_segs hi
 obtain ⟨xs, h1, h2, h3, h4, h5⟩ := segs_upM hd.rd (PB.img l) hm
 have hown : ∀ k, m.segs.v.ownBlock = some k → k < w.heap.size := by
  obtain ⟨ys, _, hb, _, _⟩ := hd
  exact fun k hk => (hb.lt k hk).2
 have hbm : m.bare = (imgP l).m := by
  obtain ⟨_, hb, _⟩ := hd
  exact hb
 have hsp := (spnsB_iff _).1 (PB.img l).sp
 rw [← hbm] at hsp
 obtain ⟨_, _, h6, _, _⟩ := hsp
 unfold SpnOk at h6
 have e1 : m.bare.chO = m.chO := rfl
 have e2 : m.bare.chS = m.chS := rfl
 rw [e1, e2] at h6
 dsimp only at h6
 exact ⟨xs, m.chO.toNat, m.chS.toNat, h1, h2, h5, h4, by omega, by omega, by omega, by omega, by omega, hown⟩
def sA : ByteArray := ⟨#[97]⟩
def sB : ByteArray := ⟨#[98]⟩
def sD : ByteArray := ⟨#[100]⟩
def plainSegs (low : Int) : List Seg := [⟨sA, low, 4096, 0, 4096, 5, ⟨none, 0, 0⟩⟩, ⟨sB, IntKind.u64.wrap (low + 4096), 16384, 4096, 4096, 3, ⟨none, 0, 0⟩⟩]
def plainDeps (n : Nat) : List Dep := List.replicate n ⟨sD, 1⟩
def plainImg (sg dp : SlV) : Img := { Img.zero with kind := 2, segs := sg, deps := dp }
set_option maxHeartbeats 2000000 in
theorem plain_any (low : Int) (n : Nat) (hn : n ≤ 1000) (w : World) :
  Calls Tryz.prog 10 #[.int .u64 low, .int .i64 n] w fun e w' => ∃ sg dp, e = .returned (imgL.val (plainImg sg dp)) ∧ segL.Rd w' sg.v (plainSegs low) ∧ depL.Rd w' dp.v (plainDeps n) ∧ Chg [] w w' := by
 go_enter Tryz.func10, Tryz.ntmps10
 go_wp2_with (with_reducible refine Lay.alQ Tryz.tImg ?_)
 refine hY fun W1 br ebr cbr xbr => ?_
 go_wp2_with (with_reducible refine Lay.alQ Tryz.tImg ?_)
 refine hY fun W2 bm ebm cbm xbm => ?_
 go_wp2_with ((with_reducible refine Lay.stQ Tryz.tImg { Img.zero with kind := 2 } (xbm.out) ?_ ?_ ?_); exact rfl; exact rfl)
 refine hY fun W3 cW3 xW3 => ?_
 have x4 := fun o => Img.c_segs (xW3.out.alloc o)
 have z4 := fun o => (xW3.out.alloc o).frozen 4
 go_upto_region 4 with fail
 refine Lay.with_world (fun W => ∃ bs, imgL.Box W bm (plainImg ⟨some ⟨bs, 0, none⟩, 2, 2⟩ ⟨none, 0, 0⟩) ∧ imgL.Box W br Img.zero ∧ segL.Rd W (.slice (some ⟨bs, 0, none⟩) 2 2) (plainSegs low) ∧ bs ≠ bm ∧ bs ≠ br ∧ Chg [] w W) ⟨W3.heap.size, ?_, ?_, ?_, ?_, ?_, ?_⟩ (fun W hW => ?_)
 ·exact Img.set_segs (xW3.out.alloc _) ⟨some ⟨W3.heap.size, 0, none⟩, 2, 2⟩
 ·refine Lay.Box.setCell (Lay.Box.alloc ((xbr.out.frame cbm.out).frameS cW3.out ?_) _) _ _ ?_
  ·have := xbr.out.lt; have := ebm.out; simp; omega
  ·have := xbr.out.lt; have := ebm.out; dsimp only; omega
 ·refine Lay.Rd.of_heap (E := 73) (fz := (0, 0)) ((heap_setCell_ne ?_ _).trans (heap_alloc_eq _ _)) rfl rfl (show 2 ≤ maxLen by decide)
  have := xW3.out.lt; dsimp only; omega
 ·have := xW3.out.lt; omega
 ·have := xW3.out.lt; have := xbr.out.lt; have := ebm.out; omega
 ·exact ((((cbr.out.then cbm.out).new cW3.out (by rw [ebm.out]; exact cbr.out.size)).alloc _).setCell _ _ (.inr (by rw [ebm.out]; exact cbr.out.size)))
 obtain ⟨bs, hB, hR, hS, hne, hne2, hC⟩ := hW
 have hbr : w.heap.size ≤ br := by rw [ebr.out]; exact Nat.le_refl _
 have hbm : w.heap.size ≤ bm := by rw [ebm.out]; exact cbr.out.size
 have hbrm : br ≠ bm := by have := xbr.out.lt; have := ebm.out; omega
 have hbsz : bm < W.heap.size := hB.lt
 have hbrz : br < W.heap.size := hR.lt
 clear x4 z4 ebr cbr xbr ebm cbm xbm cW3 xW3
 have HB := hY hB
 have HR := hY hR
 have HS := hY hS
 have HCw := hY hC
 clear hB hR hS hC
 go_loopw [6] (fun s6 wr => ∃ (k : Nat) (dp : SlV), k ≤ n ∧ s6 = .int .i64 (k : Int) ∧ imgL.Box wr bm (plainImg ⟨some ⟨bs, 0, none⟩, 2, 2⟩ dp) ∧ depL.Buf 84 wr W.heap.size dp.v (plainDeps k) ∧ Chg [bm] W wr) (fun s6 _ => n - (intOf s6).toNat)
 case atStart => exact ⟨0, ⟨none, 0, 0⟩, Nat.zero_le _, rfl, HB.out, Lay.Buf.nil _ _, Chg.refl _ _⟩
 case round =>
  obtain ⟨k, dp, hk, rfl, hb, hu, hch⟩ := hrel
  obtain ⟨ad, nd, cd⟩ := dp
  obtain ⟨_, _, he, hc1, hc2⟩ := hu.rd.shape
  cases he
  have hlen : (plainDeps k).length = k := List.length_replicate
  rw [hlen] at hc1 hb hu
  replace hu : depL.Buf 84 wr W.heap.size (.slice ad k cd) (plainDeps k) := hu
  have Hlen := hY hlen
  have B := hY hb
  have U := hY hu
  have HC := hY hch
  clear hlen hb hu hch
  by_cases hlt : k < n
  ·have x5 : wr.cell? ⟨bm, 5, none⟩ = some (.slice ad k cd) := Img.c_deps B.out
   go_wp2_with (at_builtin; refine Lay.app (L := depL) Tryz.infoDep rfl _ _ rfl W.heap.size (.slice ad k cd) (plainDeps k) rfl (U.out.pure ((Chg.refl _ _).alloc _)) _ rfl [⟨sD, 1⟩] (Lay.Rd.of_heap (heap_alloc_eq _ _) rfl rfl (by decide)) (by rw [Hlen.out]; simp; omega) (by rw [Hlen.out]; simp; omega) (Nat.le_trans HC.out.size (by simp)) ?_; intro v' wb hov hgv hloc; refine Hid.out ?_)
   refine hY ?_
   clear hloc x5
   obtain ⟨a', c', rfl, hl', hm'⟩ := hov.rd.shape
   have e1 : (plainDeps k ++ [⟨sD, 1⟩]) = plainDeps (k + 1) := (List.replicate_succ' ..).symm
   have e2 : (plainDeps (k + 1)).length = k + 1 := List.length_replicate
   rw [e1, e2] at hov hl'
   rw [e1, e2]
   have hrow : bm ∉ (Value.ownBlock (.slice ad k cd)).toList := by
    intro hm
    have := (U.out.lt bm (by simpa using hm)).1
    omega
   have B2 := (B.out.alloc (.cells #[.string sD, .int .i64 1] 84)).frameS (Lay.chg_grown hgv) hrow
   have C2 : Hid (Chg [bm] W wb) := by
    refine hY ?_
    refine (HC.out.alloc (.cells #[.string sD, .int .i64 1] 84)).trans (Lay.chg_grown hgv) (fun i hi hw => ?_)
    have := (U.out.lt i (by simpa using hi)).1
    omega
   have x5 := Img.c_deps B2
   have z5 := B2.frozen 5
   have B3 := hY B2
   have Hov := hY hov
   have Hgv := hY hgv
   have E1 := hY e1
   have E2 := hY e2
   have Hrow := hY hrow
   clear B2 hov hgv e1 e2 hrow
   go_wp2
   go_roundw
   case rel =>
    refine ⟨k + 1, ⟨a', k + 1, c'⟩, hlt, by go_num, Img.set_deps B3.out ⟨a', k + 1, c'⟩, ?_, C2.out.setCell _ _ (.inl (by simp))⟩
    refine Hov.out.frame ((Chg.refl [bm] wb).setCell _ _ (.inl (by simp))) (fun b hb hm => ?_)
    have := (Hov.out.lt b hb).1
    simp at hm
    omega
   case measure => simp [intOf]; omega
  ·obtain rfl : k = n := by omega
   have R2 := hY (HR.out.frameS HC.out (by simpa using hbrm))
   have S2 := hY (HS.out.frameS HC.out (by intro b hb; simp [Value.ownBlock] at hb; subst hb; simpa using hne))
   go_wp2_with ((with_reducible refine Lay.ldQ Tryz.tImg (plainImg ⟨some ⟨bs, 0, none⟩, 2, 2⟩ ⟨ad, k, cd⟩) (B.out.in) ?_ ?_); exact rfl)
   refine hY ?_
   go_wp2_with ((with_reducible refine Lay.stQ Tryz.tImg (plainImg ⟨some ⟨bs, 0, none⟩, 2, 2⟩ ⟨ad, k, cd⟩) (R2.out) ?_ ?_ ?_); exact rfl; exact rfl)
   refine hY fun W9 cW9 xW9 => ?_
   go_wp2
   refine Lay.ret1 Tryz.tImg Tryz.results10 xW9.out rfl rfl ?_
   refine ⟨⟨some ⟨bs, 0, none⟩, 2, 2⟩, ⟨ad, k, cd⟩, rfl, S2.out.frameS cW9.out ?_, (U.out.frame cW9.out ?_).rd, (HCw.out.new HC.out hbm).trans cW9.out (fun i hi hw => ?_)⟩
   ·intro b hb
    simp [Value.ownBlock] at hb
    subst hb
    simpa using hne2
   ·intro b hb
    have := (U.out.lt b hb).1
    simp
    omega
   ·simp at hi
    omega
theorem low_plain (low : Int) : lowS (plainSegs low) = low := by simp [lowS, plainSegs, idx, holeS]
def impsK : List Imp := [⟨0, false, sA, 0⟩, ⟨1, false, sB, 0⟩]
set_option maxHeartbeats 4000000 in
theorem known16 (w : World) : Calls Tryz.prog 5 #[] w fun e w' => e = .returned (.bool true) ∧ Chg [] w w' := by
 have hl : lowS (plainSegs 4294967296) = ((4294967296 : Nat) : Int) := low_plain _
 have HK1 : Hid (∀ (m : Img) (v : Value) (w : World), segL.Rd w m.segs.v (plainSegs 4294967296) → impL.Rd w v impsK → Calls Tryz.prog 13 #[.int .u64 9223372036854775809, .int .i64 2, imgL.val m, v] w fun e w' => e = .returned (.tuple #[fyL.val ⟨0, 2, 0, 1, sB, 0, false⟩, .int .i64 0, .int .i64 0]) ∧ Chg [] w w') := by
  refine hY ?_
  intro m v w r1 r2
  have h := link_any 9223372036854775809 (by decide) 2 m _ 4294967296 hl impsK v w r1 r2
  have e1 : linkF 4294967296 2 9223372036854775809 impsK = ⟨0, 2, 0, 1, sB, 0, false⟩ := by decide +kernel
  have e2 : linkN 4294967296 2 9223372036854775809 impsK = 0 := by decide +kernel
  have e3 : linkE 4294967296 2 9223372036854775809 impsK = 0 := by decide +kernel
  rw [e1, e2, e3] at h
  exact h
 have HK2 : Hid (∀ (m : Img) (v : Value) (w : World), segL.Rd w m.segs.v (plainSegs 4294967296) → impL.Rd w v impsK → Calls Tryz.prog 13 #[.int .u64 4503599627386880, .int .i64 6, imgL.val m, v] w fun e w' => e = .returned (.tuple #[fyL.val ⟨0, 1, 4294983680, 0, ⟨#[]⟩, 0, false⟩, .int .i64 2, .int .i64 0]) ∧ Chg [] w w') := by
  refine hY ?_
  intro m v w r1 r2
  have h := link_any 4503599627386880 (by decide) 6 m _ 4294967296 hl impsK v w r1 r2
  have e1 : linkF 4294967296 6 4503599627386880 impsK = ⟨0, 1, 4294983680, 0, ⟨#[]⟩, 0, false⟩ := by decide +kernel
  have e2 : linkN 4294967296 6 4503599627386880 impsK = 2 := by decide +kernel
  have e3 : linkE 4294967296 6 4503599627386880 impsK = 0 := by decide +kernel
  rw [e1, e2, e3] at h
  exact h
 have HPL := hY (plain_any 4294967296 1 (by decide))
 clear hl
 go_enter Tryz.func5, Tryz.ntmps5
 go_upto_region 2 with fail
 refine Lay.with_world (fun W => impL.Rd W (.slice (some ⟨w.heap.size, 0, none⟩) 2 2) impsK ∧ Chg [] w W) ⟨Lay.Rd.of_heap (heap_alloc_eq _ _) rfl rfl (by decide), (Chg.refl _ _).alloc _⟩ (fun W hW => ?_)
 obtain ⟨rl, C⟩ := hW
 have RL := hY rl
 have C0 := hY C
 clear rl C
 go_wp2_with fail
 refine (HPL.out W).mono ?_
 rintro e W1 ⟨sg, dp, rfl, hs, _, hc⟩
 have RS := hY (hs)
 have C1 := hY (C0.out.then hc)
 have RL1 := hY (RL.out.frame hc)
 clear hs hc
 go_wp2_with (with_reducible refine Lay.alQ Tryz.tImg ?_)
 refine hY fun W2 bm ebm cbm xbm => ?_
 go_wp2_with ((with_reducible refine Lay.stQ Tryz.tImg (plainImg sg dp) (xbm.out) ?_ ?_ ?_); exact rfl; exact rfl)
 refine hY fun W3 cW3 xW3 => ?_
 have D3 : Hid (Chg [] W1 W3) := hY (cbm.out.new cW3.out (by rw [ebm.out]; exact Nat.le_refl _))
 have RS3 : Hid (segL.Rd W3 (plainImg sg dp).segs.v (plainSegs 4294967296)) := hY (RS.out.frame D3.out)
 have RL3 := hY (RL1.out.frame D3.out)
 have C3 := hY (C1.out.then D3.out)
 clear D3 RS RL1 C1 RL C0 cbm cW3 xbm ebm
 go_wp2_with ((with_reducible refine Lay.ldQ Tryz.tImg (plainImg sg dp) (xW3.out.in) ?_ ?_); exact rfl)
 refine hY ?_
 go_wp2_with fail
 refine (HK1.out _ _ _ RS3.out RL3.out).mono ?_
 rintro e W4 ⟨rfl, hc⟩
 have X4 := hY (xW3.out.frame hc)
 have RS4 := hY (RS3.out.frame hc)
 have RL4 := hY (RL3.out.frame hc)
 have C4 := hY (C3.out.then hc)
 clear hc RS3 RL3 C3 xW3
 go_wp2_with (with_reducible refine Lay.alQ Tryz.tFy ?_)
 refine hY fun W5 bf ebf cbf xbf => ?_
 go_wp2_with ((with_reducible refine Lay.stQ Tryz.tFy (⟨0, 2, 0, 1, sB, 0, false⟩ : Fy) (xbf.out) ?_ ?_ ?_); exact rfl; exact rfl)
 refine hY fun W6 cW6 xW6 => ?_
 have D6 : Hid (Chg [] W4 W6) := hY (cbf.out.new cW6.out (by rw [ebf.out]; exact Nat.le_refl _))
 have X6 := hY (X4.out.frame D6.out)
 have RS6 := hY (RS4.out.frame D6.out)
 have RL6 := hY (RL4.out.frame D6.out)
 have C6 := hY (C4.out.then D6.out)
 clear D6 X4 RS4 RL4 C4 cbf cW6 xbf ebf
 go_wp2_with ((with_reducible refine Lay.ldQ Tryz.tImg (plainImg sg dp) (X6.out.in) ?_ ?_); exact rfl)
 refine hY ?_
 go_wp2_with fail
 refine (HK2.out _ _ _ RS6.out RL6.out).mono ?_
 rintro e W7 ⟨rfl, hc⟩
 have F7 := hY (xW6.out.frame hc)
 have C7 := hY (C6.out.then hc)
 clear hc RS6 RL6 C6 xW6 X6
 go_wp2_with (with_reducible refine Lay.alQ Tryz.tFy ?_)
 refine hY fun W8 bg ebg cbg xbg => ?_
 go_wp2_with ((with_reducible refine Lay.stQ Tryz.tFy (⟨0, 1, 4294983680, 0, ⟨#[]⟩, 0, false⟩ : Fy) (xbg.out) ?_ ?_ ?_); exact rfl; exact rfl)
 refine hY fun W9 cW9 xW9 => ?_
 have D9 : Hid (Chg [] W7 W9) := hY (cbg.out.new cW9.out (by rw [ebg.out]; exact Nat.le_refl _))
 have C9 := hY (C7.out.then D9.out)
 have f1 : W9.cell? ⟨bf, 1, none⟩ = some (.int .i64 2) := Fy.c_kind (F7.out.frame D9.out)
 have f4 : W9.cell? ⟨bf, 4, none⟩ = some (.string sB) := Fy.c_sym (F7.out.frame D9.out)
 have g1 : W9.cell? ⟨bg, 1, none⟩ = some (.int .i64 1) := Fy.c_kind xW9.out
 have g2 : W9.cell? ⟨bg, 2, none⟩ = some (.int .u64 4294983680) := Fy.c_tgt xW9.out
 unfold sB at f4
 clear D9 F7 C7 cbg cW9 xbg ebg
 go_wp2
 go_ret
 exact ⟨rfl, C9.out⟩
end Go.Proofs.YtiljokmkiolpgaaGreatDoor
