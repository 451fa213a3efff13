/- Lemmas, laid together: part 23 of 46. Conditions: none but each lemma's own. -/
import Derived.Test.YtaipelkegemoeaaGreatDoorJ9
import Derived.Test.YtaipelkegemoeaaGreatDoorJ22
import Derived.Test.YtaipelkegemoeaaGreatDoorJ21
import Derived.Test.YtaipelkegemoeaaGreatDoorJ13
import Derived.Test.YtaipelkegemoeaaGreatDoorJ4
import Derived.Laws.Externs
/- Plain: segments and dependencies stand in the order of their commands; the document's commands as records. -/
namespace Go.Proofs.YtaipelkegemoeaaGreatDoor
open Go.RowKit
set_option maxRecDepth 100000

theorem cmr_rd2 {W : World} {base : Nat} {v : Value} {ps : List (Cmd × Value)} (own : W.ownsRow base 82 2 v ps.length (cmdV ps)) (each : ∀ p ∈ ps, ∃ a c, p.2 = .slice a p.1.2.length c ∧ Rd W p.2 (bytesV p.1.2)) : ∃ cs : List Cmr, cs.length = ps.length ∧ cmrL.Buf 82 W base v cs ∧ ∀ k, k < ps.length → byteL.Rd W (.slice (cs.getD k .zero).bytes.a (cs.getD k .zero).bytes.n (cs.getD k .zero).bytes.cap) ((ps.map fun p => p.1.2).getD k []) := by
  have hsl : ∀ p ∈ ps, p.2 = .slice (slOf p.2).a (slOf p.2).n (slOf p.2).cap := by
    intro p hp
    obtain ⟨a, c, e, _⟩ := each p hp
    rw [e]
    rfl
  have hv : ∀ qs : List (Cmd × Value), (∀ p ∈ qs, p.2 = .slice (slOf p.2).a (slOf p.2).n (slOf p.2).cap) → cmdV qs = cmrL.vals (qs.map fun p => (⟨(p.1.1 : Nat), slOf p.2⟩ : Cmr)) := by
    intro qs
    induction qs with
    | nil => intro _; rfl
    | cons q r ih =>
      intro hq
      have h1 := ih (fun p hp => hq p (List.mem_cons_of_mem _ hp))
      have h2 := hq q (List.mem_cons_self ..)
      rw [List.map_cons, Lay.vals_cons, ← h1]
      show [.int .u32 (q.1.1 : Nat), q.2] ++ cmdV r = [.int .u32 (q.1.1 : Nat), .slice (slOf q.2).a (slOf q.2).n (slOf q.2).cap] ++ cmdV r
      rw [← h2]
  refine ⟨ps.map fun p => (⟨(p.1.1 : Nat), slOf p.2⟩ : Cmr), by simp, ?_, fun k hk => ?_⟩
  · rw [hv ps hsl] at own
    unfold Lay.Buf
    rw [List.length_map]
    exact own
  · have hm := List.getElem_mem hk
    obtain ⟨_, _, _, h1⟩ := each _ hm
    have h2 := hsl _ hm
    have e1 : (ps.map fun p => (⟨(p.1.1 : Nat), slOf p.2⟩ : Cmr)).getD k .zero = ⟨(ps[k].1.1 : Nat), slOf ps[k].2⟩ := by simp [List.getD_eq_getElem?_getD, hk]
    have e2 : (ps.map fun p => p.1.2).getD k [] = ps[k].1.2 := by simp [List.getD_eq_getElem?_getD, hk]
    rw [e1, e2]
    have h3 := Rd_to_byte h1
    rw [h2] at h3
    exact h3
end Go.Proofs.YtaipelkegemoeaaGreatDoor
/- clevisref05.Image, whatever the bytes. -/
namespace Go.Proofs.YtaipelkegemoeaaGreatDoor
open Go.RowKit
set_option maxRecDepth 100000

set_option maxHeartbeats 4000000 in
theorem Image5_bad (l : List UInt8) (hE : ¬ readE l = 0) (a : Option Addr) (cap : Nat) (w : World) (rd : byteL.Rd w (.slice a l.length cap) l) :
    Calls Tryz.prog 10 #[.slice a l.length cap] w (ImgSays l w) := by
  have hrd := fun w rd => RRead_any l a cap w rd
  unfold RReadsAll at hrd
  unfold ImgSays imgE
  rw [if_neg hE]
  obtain ⟨E, hEE⟩ : ∃ E, E = readE l := ⟨_, rfl⟩
  rw [← hEE] at hE hrd ⊢
  have d0 : (E != 0) = true := by rw [bne_iff_ne]; exact hE
  have HE := Lib.hid hE
  have HRD := Lib.hid hrd
  have RD := Lib.hid rd
  have HEE := Lib.hid hEE
  clear hE hrd rd hEE
  go_enter Tryz.func10, Tryz.ntmps10
  go_wp2_with ((with_reducible refine Lay.alL Tryz.tIm ?_); intro Wa ba eba cba xba; replace eba := Lib.hid eba; replace cba := Lib.hid cba; replace xba := Lib.hid xba; refine Hid.out ?_)
  refine Lib.hid ?_
  go_wp2_with fail
  refine (HRD.out Wa (Rd_of_byte (RD.out.frame cba.out))).mono ?_
  rintro e W1 ⟨v, ps, base, rfl, ho, _, hm, hch⟩
  have C1 := Lib.hid (cba.out.then hch)
  have XA1 := Lib.hid (xba.out.frame hch)
  clear hm hch
  obtain ⟨va, vn, vc, rfl⟩ := own_form ho
  clear ho
  go_wp2_with ((with_reducible refine Lay.alL Tryz.tHdr ?_); intro W2 bh ebh cbh xbh; replace ebh := Lib.hid ebh; replace cbh := Lib.hid cbh; replace xbh := Lib.hid xbh; refine Hid.out ?_)
  refine Lib.hid ?_
  go_wp2_with ((with_reducible refine Lay.stL Tryz.tHdr (⟨(rN l (hdSub l) : Nat), (rN l (nL l 12) : Nat), (rN l (nL l 24) : Nat)⟩ : Hdr) (xbh.out) ?_ ?_ ?_); exact rfl; exact rfl; intro W3 cW3 xW3; replace cW3 := Lib.hid cW3; replace xW3 := Lib.hid xW3; refine Hid.out ?_)
  refine Lib.hid ?_
  have C3 := Lib.hid (C1.out.then (cbh.out.new cW3.out (by rw [ebh.out]; exact Nat.le_refl _)))
  have XA3 := Lib.hid (XA1.out.frame (cbh.out.new cW3.out (by rw [ebh.out]; exact Nat.le_refl _)))
  go_wp2_with ((with_reducible refine Lay.stL Tryz.tIm Img.zero (XA3.out) ?_ ?_ ?_); exact rfl; exact rfl; intro W4 cW4 xW4; replace cW4 := Lib.hid cW4; replace xW4 := Lib.hid xW4; refine Hid.out ?_)
  refine Lib.hid ?_
  go_wp2
  refine Lay.ret2 Tryz.tIm rfl xW4.out rfl rfl ?_
  exact ⟨_, rfl, C3.out.new cW4.out (by rw [eba.out]; exact Nat.le_refl _), fun h => absurd h HE.out, fun _ => rfl⟩
theorem cmdLs_len32 (l : List UInt8) (k : Nat) : ((cmdLs l).getD k []).length ≤ 140737488355328 := by
  rw [List.getD_eq_getElem?_getD]
  by_cases h : k < (cmdLs l).length
  · rw [List.getElem?_eq_getElem h]
    have hm := List.getElem_mem h
    simp only [Option.getD_some]
    generalize (cmdLs l)[k] = x at hm
    unfold cmdLs readCs at hm
    split at hm
    · unfold cmdsC at hm
      simp only [List.map_map, List.mem_map, Function.comp] at hm
      obtain ⟨i, _, rfl⟩ := hm
      unfold cmdC
      have := nL_lt l ((stC l (nL l 20) i).1 + 4)
      simp only [List.length_take, List.length_drop, szC]
      omega
    · simp at hm
  · rw [List.getElem?_eq_none (by omega)]
    simp
/-- The loop's state. -/
structure Im5R (w1 : World) (base bt : Nat) (ls : List (List UInt8)) (p0 : TP) (k : Nat) (pk : TP) (wr : World) : Prop where
  e : tellE pk (ls.drop k) = tellE p0 ls
  s : tellS pk (ls.drop k) = tellS p0 ls
  i : ∃ t xs, SInv w1 base bt pk t xs wr
set_option maxHeartbeats 8000000 in
theorem Image5_good (l : List UInt8) (hE : readE l = 0) (a : Option Addr) (cap : Nat) (w : World) (rd : byteL.Rd w (.slice a l.length cap) l) :
    Calls Tryz.prog 10 #[.slice a l.length cap] w (ImgSays l w) := by
  have hrd := fun w rd => RRead_any l a cap w rd
  unfold RReadsAll at hrd
  have hrn : ∀ n, rN l n = n := fun n => by unfold rN; rw [if_pos hE]
  simp only [hrn, hE] at hrd
  unfold ImgSays imgE imgP
  rw [if_pos hE]
  obtain ⟨p0, hp0⟩ : ∃ p0, p0 = tp0 l := ⟨_, rfl⟩
  obtain ⟨ls, hls⟩ : ∃ ls, ls = cmdLs l := ⟨_, rfl⟩
  rw [← hp0, ← hls]
  obtain ⟨K, hK⟩ : ∃ K : Nat, K = nL l 12 := ⟨_, rfl⟩
  obtain ⟨S, hS⟩ : ∃ S : Nat, S = hdSub l := ⟨_, rfl⟩
  obtain ⟨F, hF⟩ : ∃ F : Nat, F = nL l 24 := ⟨_, rfl⟩
  rw [← hK, ← hS, ← hF] at hrd
  have hp0' : p0 = ⟨{ Img.zero with kind := K, sub := S, flags := F }, [], [], fun _ => false, 0⟩ := by rw [hp0, hK, hS, hF]; rfl
  have hmem : ∀ k, (ls.getD k []).length ≤ 140737488355328 := fun k => by rw [hls]; exact cmdLs_len32 l k
  have HE := Lib.hid hE
  have HRD := Lib.hid hrd
  have RD := Lib.hid rd
  have HK := Lib.hid hK
  have HS := Lib.hid hS
  have HF := Lib.hid hF
  have Hrn := Lib.hid hrn
  have Hp0 := Lib.hid hp0
  have Hls := Lib.hid hls
  have HP0 := Lib.hid hp0'
  have HMEM := Lib.hid hmem
  clear hE hrd rd hK hS hF hrn hp0 hls hp0' hmem
  go_enter Tryz.func10, Tryz.ntmps10
  go_wp2_with ((with_reducible refine Lay.alL Tryz.tIm ?_); intro Wa ba eba cba xba; replace eba := Lib.hid eba; replace cba := Lib.hid cba; replace xba := Lib.hid xba; refine Hid.out ?_)
  refine Lib.hid ?_
  go_wp2_with fail
  refine (HRD.out Wa (Rd_of_byte (RD.out.frame cba.out))).mono ?_
  rintro e W1 ⟨v, ps, base1, rfl, ho, hea, hm, hch⟩
  have C1 := Lib.hid (cba.out.then hch)
  have XA1 := Lib.hid (xba.out.frame hch)
  obtain ⟨cs, hcl, hbf, hrds⟩ := cmr_rd2 ho hea
  have hlp : ps.map (fun p => p.1.2) = ls := by rw [Hls.out]; unfold cmdLs; rw [← hm]; simp
  have hln : cs.length = ls.length := by rw [hcl, ← hlp]; simp
  rw [hlp] at hrds
  have hrds2 : ∀ k, k < cs.length → byteL.Rd W1 (.slice (cs.getD k .zero).bytes.a (cs.getD k .zero).bytes.n (cs.getD k .zero).bytes.cap) (ls.getD k []) := fun k hk => hrds k (by rw [← hcl]; exact hk)
  obtain ⟨va, vc, rfl, hvc1, hvc2⟩ := hbf.rd.shape
  have hcln : cs.length ≤ 9223372036854775807 := Nat.le_trans hvc1 hvc2
  have CB := Lib.hid hbf
  have CR := Lib.hid hrds2
  have HLN := Lib.hid hln
  have HCLN := Lib.hid hcln
  clear hbf hrds2 hln hcln
  clear ho hea hm hch hcl hrds hlp hvc1 hvc2
  go_wp2_with ((with_reducible refine Lay.alL Tryz.tHdr ?_); intro W2 bh ebh cbh xbh; replace ebh := Lib.hid ebh; replace cbh := Lib.hid cbh; replace xbh := Lib.hid xbh; refine Hid.out ?_)
  refine Lib.hid ?_
  go_wp2_with ((with_reducible refine Lay.stL Tryz.tHdr (⟨(S : Nat), (K : Nat), (F : Nat)⟩ : Hdr) (xbh.out) ?_ ?_ ?_); exact rfl; exact rfl; intro W3 cW3 xW3; replace cW3 := Lib.hid cW3; replace xW3 := Lib.hid xW3; refine Hid.out ?_)
  refine Lib.hid ?_
  have c13 := cbh.out.new cW3.out (by rw [ebh.out]; exact Nat.le_refl _)
  have C3 := Lib.hid (C1.out.then c13)
  have XA3 := Lib.hid (XA1.out.frame c13)
  have CB3 := Lib.hid (CB.out.pure c13)
  have CR3 := Lib.hid (fun k hk => (CR.out k hk).frame c13)
  clear c13
  have y0 := Hdr.c_sub xW3.out
  have y1 := Hdr.c_kind xW3.out
  have y2 := Hdr.c_flags xW3.out
  go_wp2_with ((with_reducible refine Lay.bxL (L := senL) 79 (⟨{ Img.zero with kind := K, sub := S, flags := F }, false, false, false, false, false, 0⟩ : Sen) ?_ ?_); exact rfl; intro W5 bt ebt cbt xbt; replace ebt := Lib.hid ebt; replace cbt := Lib.hid cbt; replace xbt := Lib.hid xbt; refine Hid.out ?_)
  refine Lib.hid ?_
  obtain ⟨base, hbase⟩ : ∃ base, base = W5.heap.size := ⟨_, rfl⟩
  have hT : SInv W3 base bt p0 ⟨{ Img.zero with kind := K, sub := S, flags := F }, false, false, false, false, false, 0⟩ [] W5 := by
    have q2 := xbt.out.lt
    have q4 := ebt.out
    rw [HP0.out]
    exact ⟨xbt.out, rfl, rfl, rfl, rfl, rfl, rfl, rfl, Lay.Buf.nil _ _, SecsIn.nil _ _, Lay.Buf.nil _ _, by omega, by omega, by omega, Nat.zero_le _, Nat.zero_le _, Nat.zero_le _, cbt.out⟩
  have hba : ba < base := by have := XA3.out.lt; have := hT.chg.size; have := hT.o4; omega
  have HT := Lib.hid hT
  have Hbase := Lib.hid hbase
  have Hba := Lib.hid hba
  clear hT hbase hba
  clear y0 y1 y2
  go_wp2_with fail
  go_loopw [9] (fun s9 wr => ∃ (k : Nat) (pk : TP), k ≤ cs.length ∧ s9 = .int .i64 (k : Int) ∧ Im5R W3 base bt ls p0 k pk wr) (fun s9 _ => cs.length - (intOf s9).toNat)
  case atStart => exact ⟨0, p0, Nat.zero_le _, rfl, rfl, rfl, _, _, HT.out⟩
  case round =>
    obtain ⟨k, pk, hk, rfl, hr⟩ := hrel
    by_cases hlt : k < cs.length
    · have dlt : decide ((k : Int) < (cs.length : Int)) = true := decide_eq_true (by omega)
      have hw1 : wrap64 ((k : Int) + 1) = (k : Int) + 1 := by have := HCLN.out; unfold wrap64; omega
      obtain ⟨he, hs, t, xs, hti⟩ := hr
      obtain ⟨g, cap', hsl, _, _, _, _, _, _, hIn⟩ := CB3.out.at (by omega)
      injection hsl with hsl1 hsl2 hsl3
      subst hsl1
      clear hsl2 hsl3
      have hI := (hIn k hlt).frame hti.chg
      obtain ⟨x, hx⟩ : ∃ x, x = cs.getD k cmrL.d := ⟨_, rfl⟩
      rw [← hx] at hI
      have hrk := CR3.out k hlt
      rw [show cs.getD k Cmr.zero = x from hx.symm] at hrk
      rw [drop_getD ls k [] (by rw [← HLN.out]; exact hlt)] at he hs
      have hlk := HMEM.out k
      obtain ⟨lk, hlkk⟩ : ∃ lk, lk = ls.getD k [] := ⟨_, rfl⟩
      rw [← hlkk] at hrk he hs hlk
      rw [show tellS pk (lk :: ls.drop (k + 1)) = tellS (tS pk lk) (ls.drop (k + 1)) from rfl] at hs
      rw [show tellE pk (lk :: ls.drop (k + 1)) = if tE pk lk = 0 then tellE (tS pk lk) (ls.drop (k + 1)) else tE pk lk from rfl] at he
      have htake := fun w h => Take_any lk hlk (.slice x.bytes.a x.bytes.n x.bytes.cap) W3 base bt pk t xs w h hrk
      obtain ⟨E, hEq⟩ : ∃ E, E = tE pk lk := ⟨_, rfl⟩
      rw [← hEq] at he htake
      have hIa := Cmr.at hI
      obtain ⟨hI0, hI1⟩ := hIa
      rw [show cmrL.n = 2 from rfl] at hI1
      have Hs := Lib.hid hs
      have TI := Lib.hid hti
      have HI := Lib.hid hI
      have Hrk := Lib.hid hrk
      have Hx := Lib.hid hx
      have Hlkk := Lib.hid hlkk
      have Hlk := Lib.hid hlk
      have Htake := Lib.hid htake
      have HEq := Lib.hid hEq
      have HIn := Lib.hid hIn
      have HI0 := Lib.hid hI0
      clear hs hti hI hrk hx hlkk hlk htake hEq hIn hI0
      by_cases h0 : E = 0
      · subst h0
        rw [if_pos rfl] at he
        have He := Lib.hid he
        clear he
        go_wp2_with fail
        refine (Htake.out _ TI.out).mono ?_
        rintro e Wd ⟨rfl, hc, ht⟩
        have Hc := Lib.hid hc
        have Ht := Lib.hid ht
        clear hc ht
        go_wp2
        go_roundw
        case rel => exact ⟨k + 1, tS pk lk, hlt, rfl, He.out, Hs.out, Ht.out trivial⟩
        case measure =>
          show cs.length - ((k : Int) + 1).toNat < cs.length - (k : Int).toNat
          omega
      · have d0 : (E != 0) = true := by rw [bne_iff_ne]; exact h0
        rw [if_neg h0] at he
        have H0 := Lib.hid h0
        have HEE := Lib.hid he
        clear h0 he
        go_wp2_with fail
        refine (Htake.out _ TI.out).mono ?_
        rintro e Wd ⟨rfl, hc, ht⟩
        have XAd := Lib.hid (XA3.out.frame hc)
        have CD := Lib.hid (C3.out.then hc)
        clear hc ht
        go_wp2_with ((with_reducible refine Lay.stL Tryz.tIm Img.zero (XAd.out) ?_ ?_ ?_); exact rfl; exact rfl; intro WE cWE xWE; replace cWE := Lib.hid cWE; replace xWE := Lib.hid xWE; refine Hid.out ?_)
        refine Lib.hid ?_
        go_wp2
        refine Lay.ret2 Tryz.tIm rfl xWE.out rfl rfl ?_
        exact ⟨_, by rw [HEE.out]; rfl, CD.out.new cWE.out (by rw [eba.out]; exact Nat.le_refl _), fun h => absurd (HEE.out.trans h) H0.out, fun _ => rfl⟩
    · obtain rfl : k = cs.length := by omega
      have dlt : decide ((cs.length : Int) < (cs.length : Int)) = false := decide_eq_false (by omega)
      obtain ⟨he, hs, t, xs, hti⟩ := hr
      rw [List.drop_eq_nil_of_le (by rw [HLN.out]; exact Nat.le_refl _)] at he hs
      rw [show tellS pk [] = pk from rfl] at hs
      rw [show tellE pk [] = 0 from rfl] at he
      subst hs
      have He := Lib.hid he
      have TI := Lib.hid hti
      clear he hti
      have XAd := Lib.hid (XA3.out.frame TI.out.chg)
      go_wp2_with ((with_reducible refine Lay.ldL Tryz.tIm t.m (Sen.in_m TI.out.box) ?_ ?_); exact rfl; refine Hid.out ?_)
      refine Lib.hid ?_
      go_wp2_with ((with_reducible refine Lay.stL Tryz.tIm t.m (XAd.out) ?_ ?_ ?_); exact rfl; exact rfl; intro WE cWE xWE; replace cWE := Lib.hid cWE; replace xWE := Lib.hid xWE; refine Hid.out ?_)
      refine Lib.hid ?_
      go_wp2
      refine Lay.ret2 Tryz.tIm rfl xWE.out rfl rfl ?_
      refine ⟨_, by rw [← He.out]; rfl, (C3.out.then TI.out.chg).new cWE.out (by rw [eba.out]; exact Nat.le_refl _), fun _ => (TI.out.img.low cWE.out (by simp; exact Hba.out)).mono ?_, fun h => absurd He.out.symm h⟩
      have h1 := C3.out.size
      have h2 := HT.out.chg.size
      have h3 := Hbase.out
      omega
/-- clevisref05.Image, whatever the bytes. -/
theorem Image5_any (l : List UInt8) (a : Option Addr) (cap : Nat) (w : World) (rd : byteL.Rd w (.slice a l.length cap) l) :
    Calls Tryz.prog 10 #[.slice a l.length cap] w (ImgSays l w) := by
  by_cases h : readE l = 0
  · exact Image5_good l h a cap w rd
  · exact Image5_bad l h a cap w rd
end Go.Proofs.YtaipelkegemoeaaGreatDoor
/- image.Of and clevisref06.Of, whatever the bytes. -/
namespace Go.Proofs.YtaipelkegemoeaaGreatDoor
open Go.RowKit
set_option maxRecDepth 100000

/-- Why bytes are no image that may be (0: they are one). -/
def ofE (l : List UInt8) : Int := if imgE l = 0 then mayE l.length (32 + nL l 20 : Nat) (imgP l) else imgE l
def OfSays (l : List UInt8) (w : World) (e : Ending) (w' : World) : Prop := ∃ m : Img, e = .returned (.tuple #[imgL.val m, .int .i64 (ofE l)]) ∧ Chg [] w w' ∧ (ofE l = 0 → DImg w' w.heap.size m (imgP l)) ∧ (¬ ofE l = 0 → m = .zero)
theorem imgE_read {l : List UInt8} (h : imgE l = 0) : readE l = 0 := by
  by_cases hr : readE l = 0
  · exact hr
  · unfold imgE at h; rw [if_neg hr] at h; exact absurd h hr
set_option maxHeartbeats 8000000 in
theorem ROf_any (l : List UInt8) (a : Option Addr) (cap : Nat) (w : World) (rd : byteL.Rd w (.slice a l.length cap) l) :
    Calls Tryz.prog 4 #[.slice a l.length cap] w (OfSays l w) := by
  have hl : l.length ≤ 9223372036854775807 := by
    obtain ⟨_, _, _, h1, h2⟩ := rd.shape
    omega
  have him := fun w rd => Image5_any l a cap w rd
  unfold ImgSays at him
  have hsz := fun w rd => RRead_any l a cap w rd
  unfold RReadsAll at hsz
  have hnl := nL_lt l 20
  have hmy := fun m w hd => RMayI_any m (imgP l) (l.length : Nat) (32 + nL l 20 : Nat) (by omega) (by omega) (PB.img l) w hd
  unfold OfSays
  have hoe : ofE l = ofE l := rfl
  conv at hoe => rhs; unfold ofE
  obtain ⟨E, hE⟩ : ∃ E, E = ofE l := ⟨_, rfl⟩
  rw [← hE] at hoe ⊢
  by_cases h0 : imgE l = 0
  · rw [if_pos h0] at hoe
    have hr := imgE_read h0
    simp only [h0] at him
    have hrn : ∀ n, rN l n = n := fun n => by unfold rN; rw [if_pos hr]
    simp only [hrn, hr] at hsz
    rw [← hoe] at hmy
    obtain ⟨P, hP⟩ : ∃ P, P = imgP l := ⟨_, rfl⟩
    rw [← hP] at him hmy ⊢
    obtain ⟨N, hN⟩ : ∃ N : Nat, N = 32 + nL l 20 := ⟨_, rfl⟩
    rw [← hN] at hsz hmy
    have hwl : IntKind.u64.wrap (l.length : Int) = (l.length : Int) := by rw [IntKind.wrap_u64]; omega
    have hwn : IntKind.u64.wrap (N : Int) = (N : Int) := by rw [IntKind.wrap_u64]; omega
    have HIM := Lib.hid him
    have HSZ := Lib.hid hsz
    have HMY := Lib.hid hmy
    have RD := Lib.hid rd
    have HE := Lib.hid hE
    have Hoe := Lib.hid hoe
    have H0 := Lib.hid h0
    have Hr := Lib.hid hr
    have Hrn := Lib.hid hrn
    have HP := Lib.hid hP
    have Hl := Lib.hid hl
    have Hnl := Lib.hid hnl
    have HN := Lib.hid hN
    clear him hsz hmy rd hE hoe h0 hr hrn hP hl hnl hN
    go_enter Tryz.func4, Tryz.ntmps4
    go_wp2_with ((with_reducible refine Lay.alL Tryz.tIm ?_); intro Wa ba eba cba xba; replace eba := Lib.hid eba; replace cba := Lib.hid cba; replace xba := Lib.hid xba; refine Hid.out ?_)
    refine Lib.hid ?_
    go_wp2_with fail
    refine (HIM.out Wa (RD.out.frame cba.out)).mono ?_
    rintro e W1 ⟨m, rfl, hch, hdm, _⟩
    have C1 := Lib.hid (cba.out.then hch)
    have XA1 := Lib.hid (xba.out.frame hch)
    have hba1 : ba < Wa.heap.size := xba.out.lt
    have DA1 := Lib.hid (hdm trivial)
    clear hch hdm
    go_wp2_with ((with_reducible refine Lay.alL Tryz.tIm ?_); intro W2 bm ebm cbm xbm; replace ebm := Lib.hid ebm; replace cbm := Lib.hid cbm; replace xbm := Lib.hid xbm; refine Hid.out ?_)
    refine Lib.hid ?_
    go_wp2_with ((with_reducible refine Lay.stL Tryz.tIm m (xbm.out) ?_ ?_ ?_); exact rfl; exact rfl; intro W3 cW3 xW3; replace cW3 := Lib.hid cW3; replace xW3 := Lib.hid xW3; refine Hid.out ?_)
    refine Lib.hid ?_
    have c13 := cbm.out.new cW3.out (by rw [ebm.out]; exact Nat.le_refl _)
    have C3 := Lib.hid (C1.out.then c13)
    have XA3 := Lib.hid (XA1.out.frame c13)
    have DA3 := Lib.hid (DA1.out.frame c13)
    clear c13
    go_wp2_with fail
    refine (HSZ.out W3 (Rd_of_byte (RD.out.frame C3.out))).mono ?_
    rintro e W4 ⟨v4, ps, base4, rfl, ho4, _, _, hch⟩
    obtain ⟨va, vn, vc, rfl⟩ := own_form ho4
    have C4 := Lib.hid (C3.out.then hch)
    have XA4 := Lib.hid (XA3.out.frame hch)
    have DA4 := Lib.hid (DA3.out.frame hch)
    have XM4 := Lib.hid (xW3.out.frame hch)
    clear hch ho4
    go_wp2_with ((with_reducible refine Lay.alL Tryz.tHdr ?_); intro W5 bh ebh cbh xbh; replace ebh := Lib.hid ebh; replace cbh := Lib.hid cbh; replace xbh := Lib.hid xbh; refine Hid.out ?_)
    refine Lib.hid ?_
    go_wp2_with ((with_reducible refine Lay.stL Tryz.tHdr (⟨(hdSub l : Nat), (nL l 12 : Nat), (nL l 24 : Nat)⟩ : Hdr) (xbh.out) ?_ ?_ ?_); exact rfl; exact rfl; intro W6 cW6 xW6; replace cW6 := Lib.hid cW6; replace xW6 := Lib.hid xW6; refine Hid.out ?_)
    refine Lib.hid ?_
    have c46 := cbh.out.new cW6.out (by rw [ebh.out]; exact Nat.le_refl _)
    have C6 := Lib.hid (C4.out.then c46)
    have XA6 := Lib.hid (XA4.out.frame c46)
    have DA6 := Lib.hid (DA4.out.frame c46)
    have XM6 := Lib.hid (XM4.out.frame c46)
    clear c46
    go_wp2_with ((with_reducible refine Lay.ldL Tryz.tIm m (XM6.out.in) ?_ ?_); exact rfl; refine Hid.out ?_)
    refine Lib.hid ?_
    go_wp2_with fail
    refine (HMY.out m W6 DA6.out.rd).mono ?_
    rintro e W7 ⟨rfl, hch⟩
    have C7 := Lib.hid (C6.out.then hch)
    have XA7 := Lib.hid (XA6.out.frame hch)
    have DA7 := Lib.hid (DA6.out.frame hch)
    have XM7 := Lib.hid (XM6.out.frame hch)
    clear hch
    by_cases he : E = 0
    · subst he
      go_wp2_with ((with_reducible refine Lay.ldL Tryz.tIm m (XM7.out.in) ?_ ?_); exact rfl; refine Hid.out ?_)
      refine Lib.hid ?_
      go_wp2_with ((with_reducible refine Lay.stL Tryz.tIm m (XA7.out) ?_ ?_ ?_); exact rfl; exact rfl; intro WE cWE xWE; replace cWE := Lib.hid cWE; replace xWE := Lib.hid xWE; refine Hid.out ?_)
      refine Lib.hid ?_
      go_wp2
      refine Lay.ret2 Tryz.tIm rfl xWE.out rfl rfl ?_
      have hlow : DImg WE w.heap.size m P := (DA7.out.low cWE.out (by simp; exact hba1)).mono cba.out.size
      have hcE := C7.out.new cWE.out (by rw [eba.out]; exact Nat.le_refl _)
      first | exact ⟨m, rfl, hcE, hlow⟩ | exact ⟨m, rfl, hcE, fun _ => hlow, fun h => absurd rfl h⟩
    · have d0 : (E != 0) = true := by rw [bne_iff_ne]; exact he
      have HE0 := Lib.hid he
      clear he
      go_wp2_with ((with_reducible refine Lay.stL Tryz.tIm Img.zero (XA7.out) ?_ ?_ ?_); exact rfl; exact rfl; intro WE cWE xWE; replace cWE := Lib.hid cWE; replace xWE := Lib.hid xWE; refine Hid.out ?_)
      refine Lib.hid ?_
      go_wp2
      refine Lay.ret2 Tryz.tIm rfl xWE.out rfl rfl ?_
      exact ⟨_, rfl, C7.out.new cWE.out (by rw [eba.out]; exact Nat.le_refl _), fun h => absurd h HE0.out, fun _ => rfl⟩
  · rw [if_neg h0] at hoe
    rw [← hoe] at h0 him
    have d0 : (E != 0) = true := by rw [bne_iff_ne]; exact h0
    have HIM := Lib.hid him
    have Hsz := Lib.hid hsz
    have Hmy := Lib.hid hmy
    have RD := Lib.hid rd
    have HE := Lib.hid hE
    have Hoe := Lib.hid hoe
    have H0 := Lib.hid h0
    have Hl := Lib.hid hl
    have Hnl := Lib.hid hnl
    clear him hsz hmy rd hE hoe h0 hl hnl
    go_enter Tryz.func4, Tryz.ntmps4
    go_wp2_with ((with_reducible refine Lay.alL Tryz.tIm ?_); intro Wa ba eba cba xba; replace eba := Lib.hid eba; replace cba := Lib.hid cba; replace xba := Lib.hid xba; refine Hid.out ?_)
    refine Lib.hid ?_
    go_wp2_with fail
    refine (HIM.out Wa (RD.out.frame cba.out)).mono ?_
    rintro e W1 ⟨m, rfl, hch, _, _⟩
    have C1 := Lib.hid (cba.out.then hch)
    have XA1 := Lib.hid (xba.out.frame hch)
    clear hch
    go_wp2_with ((with_reducible refine Lay.alL Tryz.tIm ?_); intro W2 bm ebm cbm xbm; replace ebm := Lib.hid ebm; replace cbm := Lib.hid cbm; replace xbm := Lib.hid xbm; refine Hid.out ?_)
    refine Lib.hid ?_
    go_wp2_with ((with_reducible refine Lay.stL Tryz.tIm m (xbm.out) ?_ ?_ ?_); exact rfl; exact rfl; intro W3 cW3 xW3; replace cW3 := Lib.hid cW3; replace xW3 := Lib.hid xW3; refine Hid.out ?_)
    refine Lib.hid ?_
    have c13 := cbm.out.new cW3.out (by rw [ebm.out]; exact Nat.le_refl _)
    have C3 := Lib.hid (C1.out.then c13)
    have XA3 := Lib.hid (XA1.out.frame c13)
    clear c13
    go_wp2_with ((with_reducible refine Lay.stL Tryz.tIm Img.zero (XA3.out) ?_ ?_ ?_); exact rfl; exact rfl; intro WE cWE xWE; replace cWE := Lib.hid cWE; replace xWE := Lib.hid xWE; refine Hid.out ?_)
    refine Lib.hid ?_
    go_wp2
    refine Lay.ret2 Tryz.tIm rfl xWE.out rfl rfl ?_
    exact ⟨_, rfl, C3.out.new cWE.out (by rw [eba.out]; exact Nat.le_refl _), fun h => absurd h H0.out, fun _ => rfl⟩
end Go.Proofs.YtaipelkegemoeaaGreatDoor
/- Plain: the segments of an image that bytes say, and that may be. -/
namespace Go.Proofs.YtaipelkegemoeaaGreatDoor
open Go.RowKit
set_option maxRecDepth 100000

theorem trQ_segs (p : TP) (x : Spn) : (trQ p x).segs = p.segs := by unfold trQ; split <;> rfl
theorem tS_seg16 {p : TP} {l : List UInt8} (h : p.segs.length ≤ 16) (he : tE p l = 0) : (tS p l).segs.length ≤ 16 := by
  unfold tE at he
  by_cases ho : opE l = 0
  · rw [if_neg (by simp [ho])] at he
    unfold tS
    split
    · exact h
    · rename_i hk
      rw [if_neg hk] at he
      split
      · rename_i h25
        rw [if_pos h25] at he
        unfold sgtE at he
        by_cases hs : segE l = 0
        · rw [if_pos hs] at he
          by_cases h16 : p.segs.length = 16 ∨ 64 < p.n + n4 l 64
          · rw [if_pos h16] at he; exact absurd he (by decide)
          · show (p.segs ++ [segP l]).length ≤ 16
            rw [List.length_append]
            simp only [List.length_singleton]
            omega
        · rw [if_neg hs] at he; exact absurd he hs
      · split
        · exact h
        · split
          · exact h
          · split
            · rw [trQ_segs]; exact h
            · split
              · exact h
              · split
                · exact h
                · split
                  · exact h
                  · rw [trQ_segs]; exact h
  · rw [if_pos ho] at he; exact absurd he (by decide)
theorem tell_segs : ∀ (ls : List (List UInt8)) (p : TP), p.segs.length ≤ 16 → tellE p ls = 0 → (tellS p ls).segs.length ≤ 16
  | [], _, h, _ => h
  | l :: r, p, h, he => by
    have h1 : tellE p (l :: r) = if tE p l = 0 then tellE (tS p l) r else tE p l := rfl
    rw [h1] at he
    by_cases h0 : tE p l = 0
    · rw [if_pos h0] at he
      exact tell_segs r _ (tS_seg16 h h0) he
    · rw [if_neg h0] at he; exact absurd he h0
theorem img_segs {l : List UInt8} (h : imgE l = 0) : (imgP l).segs.length ≤ 16 := by
  unfold imgE at h
  split at h
  · exact tell_segs _ _ (Nat.zero_le _) h
  · rename_i hr; exact absurd h hr
theorem goesB_place (n : Int) : ∀ (ls : List Seg) (a : Int) (N : ByteArray → Bool), goesB n a N ls = true → ∀ s ∈ ls, placeB n s = true
  | [], _, _, _, s, hs => by cases hs
  | x :: r, a, N, h, s, hs => by
    rw [goes_cons] at h
    simp only [Bool.and_eq_true] at h
    rcases List.mem_cons.1 hs with e | e
    · rw [e]; exact h.1
    · exact goesB_place n r _ _ h.2.2.2 s e
theorem firstE_all {e : Int} {r : List Int} (h : firstE (e :: r) = 0) : e = 0 ∧ firstE r = 0 := by
  by_cases h0 : e = 0
  · subst h0; exact ⟨rfl, h⟩
  · rw [firstE_ne h0] at h; exact absurd h h0
/-- An image that may be has segments that may be. -/
theorem may_place {n h : Int} {p : TP} (hm : mayE n h p = 0) : ∀ s ∈ p.segs.map SegP.s, placeB n s = true := by
  have h1 := (firstE_all hm).1
  unfold segsE at h1
  split at h1
  · rename_i hb
    unfold segsB at hb
    split at hb
    · exact absurd hb (by decide)
    · rw [Bool.and_eq_true] at hb
      exact goesB_place n _ _ _ hb.1
  · exact absurd h1 (by decide)
theorem ofE_both {l : List UInt8} (h : ofE l = 0) : imgE l = 0 ∧ mayE l.length (32 + nL l 20 : Nat) (imgP l) = 0 := by
  unfold ofE at h
  split at h
  · rename_i h0; exact ⟨h0, h⟩
  · rename_i h0; exact absurd h h0
end Go.Proofs.YtaipelkegemoeaaGreatDoor
/- The reader of rebases, a record. -/
namespace Go.Proofs.YtaipelkegemoeaaGreatDoor
open Go.RowKit
set_option maxRecDepth 100000

structure Rdr where
  c : Option Addr
  sl : SlV
  m : Img
  at_ : Int
  is_ : Bool
  typ : Int
  out : SlV
def Rdr.cells (r : Rdr) : List Value := .pointer r.c :: .slice r.sl.a r.sl.n r.sl.cap :: (r.m.cells ++ [.int .u64 r.at_, .bool r.is_, .int .u8 r.typ, .slice r.out.a r.out.n r.out.cap])
def Rdr.zero : Rdr := ⟨none, ⟨none, 0, 0⟩, Img.zero, 0, false, 0, ⟨none, 0, 0⟩⟩
def rdrL : Lay Rdr := ⟨30, Rdr.cells, Rdr.zero, fun _ => rfl, by decide, fun x u hu => by
  simp only [Rdr.cells, List.mem_cons, List.mem_append, List.not_mem_nil, or_false] at hu
  rcases hu with rfl | rfl | h | rfl | rfl | rfl | rfl
  · rfl
  · rfl
  · exact imgL.one x.m u h
  · rfl
  · rfl
  · rfl
  · rfl⟩
theorem Rdr.set_at {w : World} {g : Nat} {r : Rdr} (h : rdrL.Box w g r) (x : Int) : rdrL.Box (w.setCell ⟨g, 26, none⟩ (.int .u64 x)) g { r with at_ := x } := Lay.Box.set h 26 _ _ rfl
theorem Rdr.set_is {w : World} {g : Nat} {r : Rdr} (h : rdrL.Box w g r) (x : Bool) : rdrL.Box (w.setCell ⟨g, 27, none⟩ (.bool x)) g { r with is_ := x } := Lay.Box.set h 27 _ _ rfl
theorem Rdr.set_typ {w : World} {g : Nat} {r : Rdr} (h : rdrL.Box w g r) (x : Int) : rdrL.Box (w.setCell ⟨g, 28, none⟩ (.int .u8 x)) g { r with typ := x } := Lay.Box.set h 28 _ _ rfl
theorem Rdr.set_out {w : World} {g : Nat} {r : Rdr} (h : rdrL.Box w g r) (x : SlV) : rdrL.Box (w.setCell ⟨g, 29, none⟩ (.slice x.a x.n x.cap)) g { r with out := x } := Lay.Box.set h 29 _ _ rfl
theorem Rdr.c_c {w : World} {b : Nat} {r : Rdr} (h : rdrL.Box w b r) : w.cell? ⟨b, 0, none⟩ = some (.pointer r.c) := by have := h.in 0 (by decide); rw [Nat.zero_add] at this; exact this
theorem Rdr.c_sl {w : World} {b : Nat} {r : Rdr} (h : rdrL.Box w b r) : w.cell? ⟨b, 1, none⟩ = some (.slice r.sl.a r.sl.n r.sl.cap) := by have := h.in 1 (by decide); rw [Nat.zero_add] at this; exact this
theorem Rdr.c_at {w : World} {b : Nat} {r : Rdr} (h : rdrL.Box w b r) : w.cell? ⟨b, 26, none⟩ = some (.int .u64 r.at_) := by have := h.in 26 (by decide); rw [Nat.zero_add] at this; exact this
theorem Rdr.c_is {w : World} {b : Nat} {r : Rdr} (h : rdrL.Box w b r) : w.cell? ⟨b, 27, none⟩ = some (.bool r.is_) := by have := h.in 27 (by decide); rw [Nat.zero_add] at this; exact this
theorem Rdr.c_typ {w : World} {b : Nat} {r : Rdr} (h : rdrL.Box w b r) : w.cell? ⟨b, 28, none⟩ = some (.int .u8 r.typ) := by have := h.in 28 (by decide); rw [Nat.zero_add] at this; exact this
theorem Rdr.c_out {w : World} {b : Nat} {r : Rdr} (h : rdrL.Box w b r) : w.cell? ⟨b, 29, none⟩ = some (.slice r.out.a r.out.n r.out.cap) := by have := h.in 29 (by decide); rw [Nat.zero_add] at this; exact this
theorem Rdr.i_m {w : World} {b : Nat} {r : Rdr} (h : rdrL.Box w b r) : imgL.In w b 2 r.m := fun c hc => by
  have := h.in (2 + c) (by have : c < 24 := hc; show 2 + c < 30; omega)
  rw [Nat.zero_add] at this
  rw [this]
  have hl : r.m.cells.length = 24 := rfl
  show (.pointer r.c :: .slice r.sl.a r.sl.n r.sl.cap :: (r.m.cells ++ _) : List Value)[2 + c]? = r.m.cells[c]?
  rw [Nat.add_comm 2 c, List.getElem?_cons_succ, List.getElem?_cons_succ, List.getElem?_append_left (by rw [hl]; exact hc)]
end Go.Proofs.YtaipelkegemoeaaGreatDoor
/- rebase: further. -/
namespace Go.Proofs.YtaipelkegemoeaaGreatDoor
open Go.RowKit
set_option maxRecDepth 100000

theorem Add64_runR (x y : Nat) (w : World) : (callFunc 71 #[.int .u64 x, .int .u64 y, .int .u64 0]).run Tryz.prog w =
    .ok (.value (.tuple #[.int .u64 (((x + y) % 18446744073709551616 : Nat) : Int), .int .u64 (((x + y) / 18446744073709551616 : Nat) : Int)])) w := by
  rw [run_callFunc_extern Tryz.func71 (by kernel_rfl) (by kernel_rfl) (by kernel_rfl) (e := add64Entry) (by kernel_rfl)]
  have := run_add64 (P := Tryz.prog) x y 0 (by omega) (by omega) (by omega) (by omega) w
  rw [this]
  simp only [Result.andThen]
  congr 5 <;> omega
theorem further_ok (b : Nat) (r : Rdr) (A n : Nat) (hA : r.at_ = A) (h : A + n < 18446744073709551616) (w : World) (hb : rdrL.Box w b r) :
    Calls Tryz.prog 50 #[.pointer (some ⟨b, 0, none⟩), .int .u64 n] w fun e w' => e = .returned (.int .i64 0) ∧ rdrL.Box w' b { r with at_ := ((A + n : Nat) : Int) } ∧ Chg [b] w w' := by
  have hr := Add64_runR A n
  rw [Nat.mod_eq_of_lt h, Nat.div_eq_of_lt h] at hr
  have x3 := Rdr.c_at hb
  have z3 := hb.frozen 26
  rw [hA] at x3
  have Hr := Lib.hid hr
  have Hb := Lib.hid hb
  have HA := Lib.hid hA
  have H := Lib.hid h
  clear hr hb hA h
  obtain ⟨B, hB⟩ : ∃ B : Nat, B = A + n := ⟨_, rfl⟩
  rw [← hB] at Hr ⊢
  have hr2 := fun w => Hr.out w
  clear hB
  go_enter Tryz.func50, Tryz.ntmps50
  go_wp2
  go_ret
  exact ⟨rfl, Rdr.set_at Hb.out _, (Chg.refl [b] w).setCell _ _ (.inl (by simp))⟩
end Go.Proofs.YtaipelkegemoeaaGreatDoor
