/- Lemmas, laid together: part 42 of 43. Conditions: none but each lemma's own. -/
import Derived.Test.YtgjlgamlmmjdpaaGreatDoorJ24
import Derived.Test.YtgjlgamlmmjdpaaGreatDoorJ41
import Derived.Test.YtgjlgamlmmjdpaaGreatDoorJ40
import Derived.Test.YtgjlgamlmmjdpaaGreatDoorJ33
/- Plain: segments and dependencies stand in the order of their commands; the document's commands as records. -/
namespace Go.Proofs.YtgjlgamlmmjdpaaGreatDoor
open Go.RowKit
set_option maxRecDepth 100000

theorem cmr_rd2 {W : World} {base : Nat} {v : Value} {ps : List (Cmd × Value)} (own : W.ownsRow base 67 2 v ps.length (cmdV ps)) (each : ∀ p ∈ ps, ∃ a c, p.2 = .slice a p.1.2.length c ∧ Rd W p.2 (bytesV p.1.2)) : ∃ cs : List Cmr, cs.length = ps.length ∧ cmrL.Buf 67 W base v cs ∧ ∀ k, k < ps.length → byteL.Rd W (.slice (cs.getD k .zero).bytes.a (cs.getD k .zero).bytes.n (cs.getD k .zero).bytes.cap) ((ps.map fun p => p.1.2).getD k []) := by
  have hsl : ∀ p ∈ ps, p.2 = .slice (slOf p.2).a (slOf p.2).n (slOf p.2).cap := by
    intro p hp
    obtain ⟨a, c, e, _⟩ := each p hp
    rw [e]
    rfl
  have hv : ∀ qs : List (Cmd × Value), (∀ p ∈ qs, p.2 = .slice (slOf p.2).a (slOf p.2).n (slOf p.2).cap) → cmdV qs = cmrL.vals (qs.map fun p => (⟨(p.1.1 : Nat), slOf p.2⟩ : Cmr)) := by
    intro qs
    induction qs with
    | nil => intro _; rfl
    | cons q r ih =>
      intro hq
      have h1 := ih (fun p hp => hq p (List.mem_cons_of_mem _ hp))
      have h2 := hq q (List.mem_cons_self ..)
      rw [List.map_cons, Lay.vals_cons, ← h1]
      show [.int .u32 (q.1.1 : Nat), q.2] ++ cmdV r = [.int .u32 (q.1.1 : Nat), .slice (slOf q.2).a (slOf q.2).n (slOf q.2).cap] ++ cmdV r
      rw [← h2]
  refine ⟨ps.map fun p => (⟨(p.1.1 : Nat), slOf p.2⟩ : Cmr), by simp, ?_, fun k hk => ?_⟩
  · rw [hv ps hsl] at own
    unfold Lay.Buf
    rw [List.length_map]
    exact own
  · have hm := List.getElem_mem hk
    obtain ⟨_, _, _, h1⟩ := each _ hm
    have h2 := hsl _ hm
    have e1 : (ps.map fun p => (⟨(p.1.1 : Nat), slOf p.2⟩ : Cmr)).getD k .zero = ⟨(ps[k].1.1 : Nat), slOf ps[k].2⟩ := by simp [List.getD_eq_getElem?_getD, hk]
    have e2 : (ps.map fun p => p.1.2).getD k [] = ps[k].1.2 := by simp [List.getD_eq_getElem?_getD, hk]
    rw [e1, e2]
    have h3 := Rd_to_byte h1
    rw [h2] at h3
    exact h3
theorem trQ_keep (p : TP) (x : Spn) : (trQ p x).segs = p.segs ∧ (trQ p x).deps = p.deps := by
  unfold trQ
  split <;> exact ⟨rfl, rfl⟩
theorem depK_least {c : Int} (h : ¬ depK c = 0) : ¬ leastF c = 0 ∧ ¬ c = 25 := by
  unfold depK at h
  by_cases h1 : c = 12
  · subst h1; decide
  rw [if_neg h1] at h
  by_cases h2 : c = 2147483672
  · subst h2; decide
  rw [if_neg h2] at h
  by_cases h3 : c = 2147483679
  · subst h3; decide
  rw [if_neg h3] at h
  by_cases h4 : c = 2147483683
  · subst h4; decide
  rw [if_neg h4] at h
  exact absurd rfl h
theorem tS_segs (p : TP) (l : List UInt8) : (tS p l).segs = if n4 l 0 = 25 then p.segs ++ [segP l] else p.segs := by
  unfold tS
  by_cases hk : leastF (n4 l 0) = 0
  · rw [if_pos hk, if_neg]
    intro e
    rw [e] at hk
    exact absurd hk (by decide)
  rw [if_neg hk]
  by_cases h25 : n4 l 0 = 25
  · rw [if_pos h25, if_pos h25]
  rw [if_neg h25, if_neg h25]
  split
  · rfl
  split
  · rfl
  split
  · exact (trQ_keep _ _).1
  split
  · rfl
  split
  · rfl
  split
  · rfl
  · exact (trQ_keep _ _).1
theorem tS_deps (p : TP) (l : List UInt8) : (tS p l).deps = if ¬ depK (n4 l 0) = 0 then p.deps ++ [⟨nameV l, depK (n4 l 0)⟩] else p.deps := by
  by_cases hd : depK (n4 l 0) = 0
  · rw [show (if ¬ depK (n4 l 0) = 0 then p.deps ++ [⟨nameV l, depK (n4 l 0)⟩] else p.deps) = p.deps from if_neg (by simpa using hd)]
    unfold tS
    split
    · rfl
    split
    · rfl
    split
    · rfl
    split
    · exact (trQ_keep _ _).2
    split
    · rfl
    split
    · rfl
    split
    · rfl
    · exact (trQ_keep _ _).2
  · have h1 := depK_least hd
    rw [if_pos hd]
    unfold tS
    rw [if_neg h1.1, if_neg (by omega), if_pos hd]
theorem tellS_pre : ∀ (ls : List (List UInt8)) (p : TP), (∃ r, (tellS p ls).segs = p.segs ++ r) ∧ ∃ r, (tellS p ls).deps = p.deps ++ r
  | [], p => ⟨⟨[], by simp [tellS]⟩, ⟨[], by simp [tellS]⟩⟩
  | l :: r, p => by
    obtain ⟨⟨r1, h1⟩, r2, h2⟩ := tellS_pre r (tS p l)
    rw [show tellS p (l :: r) = tellS (tS p l) r from rfl, h1, h2, tS_segs, tS_deps]
    refine ⟨?_, ?_⟩
    · split
      · exact ⟨segP l :: r1, by simp⟩
      · exact ⟨r1, rfl⟩
    · split
      · exact ⟨⟨nameV l, depK (n4 l 0)⟩ :: r2, by simp⟩
      · exact ⟨r2, rfl⟩
/-- What a round knows. -/
theorem tell_round {p : TP} {l : List UInt8} {r : List (List UInt8)} {P : TP} (he : tellE p (l :: r) = 0) (hs : tellS p (l :: r) = P) :
    opE l = 0 ∧ tellE (tS p l) r = 0 ∧ tellS (tS p l) r = P ∧ (n4 l 0 = 25 → segE l = 0 ∧ p.segs.length < P.segs.length ∧ P.segs.getD p.segs.length .zero = segP l) ∧ (¬ depK (n4 l 0) = 0 → nameE l = 0 ∧ p.deps.length < P.deps.length ∧ P.deps.getD p.deps.length .zero = ⟨nameV l, depK (n4 l 0)⟩) := by
  have he0 : tE p l = 0 := by
    by_cases h : tE p l = 0
    · exact h
    · rw [show tellE p (l :: r) = if tE p l = 0 then tellE (tS p l) r else tE p l from rfl, if_neg h] at he
      exact absurd he h
  have he1 : tellE (tS p l) r = 0 := by
    rw [show tellE p (l :: r) = if tE p l = 0 then tellE (tS p l) r else tE p l from rfl, if_pos he0] at he
    exact he
  have hs1 : tellS (tS p l) r = P := hs
  obtain ⟨⟨r1, h1⟩, r2, h2⟩ := tellS_pre r (tS p l)
  rw [hs1] at h1 h2
  have ho : opE l = 0 := by
    by_cases h : opE l = 0
    · exact h
    · unfold tE at he0
      rw [if_pos h] at he0
      exact absurd he0 (by decide)
  refine ⟨ho, he1, hs1, fun h25 => ?_, fun hd => ?_⟩
  · unfold tE at he0
    rw [if_neg (by simp [ho]), if_neg (by rw [h25]; decide), if_pos h25] at he0
    unfold sgtE at he0
    have hsg : segE l = 0 := by
      by_cases h : segE l = 0
      · exact h
      · rw [if_neg h] at he0; exact absurd he0 h
    rw [tS_segs, if_pos h25] at h1
    refine ⟨hsg, by rw [h1]; simp, ?_⟩
    rw [h1, List.append_assoc]
    simp [List.getD_eq_getElem?_getD]
  · have hdl := depK_least hd
    unfold tE at he0
    rw [if_neg (by simp [ho]), if_neg hdl.1, if_neg (by omega), if_pos hd] at he0
    unfold depE at he0
    have hn : nameE l = 0 := by
      by_cases h : nameE l = 0
      · exact h
      · rw [if_neg h] at he0; exact absurd he0 h
    rw [tS_deps, if_pos hd] at h2
    refine ⟨hn, by rw [h2]; simp, ?_⟩
    rw [h2, List.append_assoc]
    simp [List.getD_eq_getElem?_getD]
theorem imgE_0 {l : List UInt8} (h : imgE l = 0) : readE l = 0 ∧ tellE (tp0 l) (cmdLs l) = 0 := by
  unfold imgE at h
  by_cases hr : readE l = 0
  · rw [if_pos hr] at h
    exact ⟨hr, h⟩
  · rw [if_neg hr] at h
    exact absurd h hr
end Go.Proofs.YtgjlgamlmmjdpaaGreatDoor
/- clevisref05.Image, whatever the bytes. -/
namespace Go.Proofs.YtgjlgamlmmjdpaaGreatDoor
open Go.RowKit
set_option maxRecDepth 100000

theorem Tryz.tCm4 : Lay.Ty cmrL Tryz.prog 67 := Lay.Ty.mk' (by kernel_rfl) (by kernel_rfl)
theorem Tryz.tSen : Lay.Ty senL Tryz.prog 78 := Lay.Ty.mk' (by kernel_rfl) (by kernel_rfl)
set_option maxHeartbeats 4000000 in
theorem Image5_bad (l : List UInt8) (hE : ¬ readE l = 0) (hl : l.length ≤ 70368744177664) (a : Option Addr) (cap : Nat) (w : World) (rd : byteL.Rd w (.slice a l.length cap) l) :
    Calls Tryz.prog 13 #[.slice a l.length cap] w (ImgSays l w) := by
  have hrd := fun w rd => RRead_any l a cap w rd hl
  unfold RReadsAll at hrd
  unfold ImgSays imgE
  rw [if_neg hE]
  obtain ⟨E, hEE⟩ : ∃ E, E = readE l := ⟨_, rfl⟩
  rw [← hEE] at hE hrd ⊢
  have d0 : (E != 0) = true := by rw [bne_iff_ne]; exact hE
  have HE := Lib.hid hE
  have HRD := Lib.hid hrd
  have RD := Lib.hid rd
  have HEE := Lib.hid hEE
  have Hl := Lib.hid hl
  clear hE hrd rd hEE hl
  go_enter Tryz.func13, Tryz.ntmps13
  go_wp2_with ((with_reducible refine Lay.alL Tryz.tIm ?_); intro Wa ba eba cba xba; replace eba := Lib.hid eba; replace cba := Lib.hid cba; replace xba := Lib.hid xba; refine Hid.out ?_)
  refine Lib.hid ?_
  go_wp2_with fail
  refine (HRD.out Wa (Rd_of_byte (RD.out.frame cba.out))).mono ?_
  rintro e W1 ⟨v, ps, base, rfl, ho, _, hm, hch⟩
  have C1 := Lib.hid (cba.out.then hch)
  have XA1 := Lib.hid (xba.out.frame hch)
  clear hm hch
  obtain ⟨va, vn, vc, rfl⟩ := own_form ho
  clear ho
  go_wp2_with ((with_reducible refine Lay.alL Tryz.tHdr ?_); intro W2 bh ebh cbh xbh; replace ebh := Lib.hid ebh; replace cbh := Lib.hid cbh; replace xbh := Lib.hid xbh; refine Hid.out ?_)
  refine Lib.hid ?_
  go_wp2_with ((with_reducible refine Lay.stL Tryz.tHdr (⟨(rN l (hdSub l) : Nat), (rN l (nL l 12) : Nat), (rN l (nL l 24) : Nat)⟩ : Hdr) (xbh.out) ?_ ?_ ?_); exact rfl; exact rfl; intro W3 cW3 xW3; replace cW3 := Lib.hid cW3; replace xW3 := Lib.hid xW3; refine Hid.out ?_)
  refine Lib.hid ?_
  have C3 := Lib.hid (C1.out.then (cbh.out.new cW3.out (by rw [ebh.out]; exact Nat.le_refl _)))
  have XA3 := Lib.hid (XA1.out.frame (cbh.out.new cW3.out (by rw [ebh.out]; exact Nat.le_refl _)))
  go_wp2_with ((with_reducible refine Lay.stL Tryz.tIm Img.zero (XA3.out) ?_ ?_ ?_); exact rfl; exact rfl; intro W4 cW4 xW4; replace cW4 := Lib.hid cW4; replace xW4 := Lib.hid xW4; refine Hid.out ?_)
  refine Lib.hid ?_
  go_wp2
  refine Lay.ret2 Tryz.tIm rfl xW4.out rfl rfl ?_
  exact ⟨_, rfl, C3.out.new cW4.out (by rw [eba.out]; exact Nat.le_refl _), fun h => absurd h HE.out, fun _ => rfl⟩
/-- The loop's state. -/
structure Im5R (w1 : World) (base bt : Nat) (ls : List (List UInt8)) (p0 : TP) (k : Nat) (pk : TP) (wr : World) : Prop where
  e : tellE pk (ls.drop k) = tellE p0 ls
  s : tellS pk (ls.drop k) = tellS p0 ls
  i : ∃ t xs, SInv w1 base bt pk t xs wr
set_option maxHeartbeats 8000000 in
theorem Image5_good (l : List UInt8) (hE : readE l = 0) (hl : l.length ≤ 70368744177664) (a : Option Addr) (cap : Nat) (w : World) (rd : byteL.Rd w (.slice a l.length cap) l) :
    Calls Tryz.prog 13 #[.slice a l.length cap] w (ImgSays l w) := by
  have hrd := fun w rd => RRead_any l a cap w rd hl
  unfold RReadsAll at hrd
  have hrn : ∀ n, rN l n = n := fun n => by unfold rN; rw [if_pos hE]
  simp only [hrn, hE] at hrd
  unfold ImgSays imgE imgP
  rw [if_pos hE]
  obtain ⟨p0, hp0⟩ : ∃ p0, p0 = tp0 l := ⟨_, rfl⟩
  obtain ⟨ls, hls⟩ : ∃ ls, ls = cmdLs l := ⟨_, rfl⟩
  rw [← hp0, ← hls]
  obtain ⟨K, hK⟩ : ∃ K : Nat, K = nL l 12 := ⟨_, rfl⟩
  obtain ⟨S, hS⟩ : ∃ S : Nat, S = hdSub l := ⟨_, rfl⟩
  obtain ⟨F, hF⟩ : ∃ F : Nat, F = nL l 24 := ⟨_, rfl⟩
  rw [← hK, ← hS, ← hF] at hrd
  have hp0' : p0 = ⟨{ Img.zero with kind := K, sub := S, flags := F }, [], [], fun _ => false, 0⟩ := by rw [hp0, hK, hS, hF]; rfl
  have hmem : ∀ k, (ls.getD k []).length ≤ 140737488355328 := fun k => by rw [hls]; exact cmdLs_len l hl k
  have HE := Lib.hid hE
  have HRD := Lib.hid hrd
  have RD := Lib.hid rd
  have Hl := Lib.hid hl
  have HK := Lib.hid hK
  have HS := Lib.hid hS
  have HF := Lib.hid hF
  have Hrn := Lib.hid hrn
  have Hp0 := Lib.hid hp0
  have Hls := Lib.hid hls
  have HP0 := Lib.hid hp0'
  have HMEM := Lib.hid hmem
  clear hE hrd rd hl hK hS hF hrn hp0 hls hp0' hmem
  go_enter Tryz.func13, Tryz.ntmps13
  go_wp2_with ((with_reducible refine Lay.alL Tryz.tIm ?_); intro Wa ba eba cba xba; replace eba := Lib.hid eba; replace cba := Lib.hid cba; replace xba := Lib.hid xba; refine Hid.out ?_)
  refine Lib.hid ?_
  go_wp2_with fail
  refine (HRD.out Wa (Rd_of_byte (RD.out.frame cba.out))).mono ?_
  rintro e W1 ⟨v, ps, base1, rfl, ho, hea, hm, hch⟩
  have C1 := Lib.hid (cba.out.then hch)
  have XA1 := Lib.hid (xba.out.frame hch)
  obtain ⟨cs, hcl, hbf, hrds⟩ := cmr_rd2 ho hea
  have hlp : ps.map (fun p => p.1.2) = ls := by rw [Hls.out]; unfold cmdLs; rw [← hm]; simp
  have hln : cs.length = ls.length := by rw [hcl, ← hlp]; simp
  rw [hlp] at hrds
  have hrds2 : ∀ k, k < cs.length → byteL.Rd W1 (.slice (cs.getD k .zero).bytes.a (cs.getD k .zero).bytes.n (cs.getD k .zero).bytes.cap) (ls.getD k []) := fun k hk => hrds k (by rw [← hcl]; exact hk)
  obtain ⟨va, vc, rfl, hvc1, hvc2⟩ := hbf.rd.shape
  have hcln : cs.length ≤ 9223372036854775807 := Nat.le_trans hvc1 hvc2
  have CB := Lib.hid hbf
  have CR := Lib.hid hrds2
  have HLN := Lib.hid hln
  have HCLN := Lib.hid hcln
  clear hbf hrds2 hln hcln
  clear ho hea hm hch hcl hrds hlp hvc1 hvc2
  go_wp2_with ((with_reducible refine Lay.alL Tryz.tHdr ?_); intro W2 bh ebh cbh xbh; replace ebh := Lib.hid ebh; replace cbh := Lib.hid cbh; replace xbh := Lib.hid xbh; refine Hid.out ?_)
  refine Lib.hid ?_
  go_wp2_with ((with_reducible refine Lay.stL Tryz.tHdr (⟨(S : Nat), (K : Nat), (F : Nat)⟩ : Hdr) (xbh.out) ?_ ?_ ?_); exact rfl; exact rfl; intro W3 cW3 xW3; replace cW3 := Lib.hid cW3; replace xW3 := Lib.hid xW3; refine Hid.out ?_)
  refine Lib.hid ?_
  have c13 := cbh.out.new cW3.out (by rw [ebh.out]; exact Nat.le_refl _)
  have C3 := Lib.hid (C1.out.then c13)
  have XA3 := Lib.hid (XA1.out.frame c13)
  have CB3 := Lib.hid (CB.out.pure c13)
  have CR3 := Lib.hid (fun k hk => (CR.out k hk).frame c13)
  clear c13
  have y0 := Hdr.c_sub xW3.out
  have y1 := Hdr.c_kind xW3.out
  have y2 := Hdr.c_flags xW3.out
  go_wp2_with ((with_reducible refine Lay.bxL (L := senL) 78 (⟨{ Img.zero with kind := K, sub := S, flags := F }, false, false, false, false, false, 0⟩ : Sen) ?_ ?_); exact rfl; intro W5 bt ebt cbt xbt; replace ebt := Lib.hid ebt; replace cbt := Lib.hid cbt; replace xbt := Lib.hid xbt; refine Hid.out ?_)
  refine Lib.hid ?_
  obtain ⟨base, hbase⟩ : ∃ base, base = W5.heap.size := ⟨_, rfl⟩
  have hT : SInv W3 base bt p0 ⟨{ Img.zero with kind := K, sub := S, flags := F }, false, false, false, false, false, 0⟩ [] W5 := by
    have q2 := xbt.out.lt
    have q4 := ebt.out
    rw [HP0.out]
    exact ⟨xbt.out, rfl, rfl, rfl, rfl, rfl, rfl, rfl, Lay.Buf.nil _ _, SecsIn.nil _ _, Lay.Buf.nil _ _, by omega, by omega, by omega, Nat.zero_le _, Nat.zero_le _, Nat.zero_le _, cbt.out⟩
  have hba : ba < base := by have := XA3.out.lt; have := hT.chg.size; have := hT.o4; omega
  have HT := Lib.hid hT
  have Hbase := Lib.hid hbase
  have Hba := Lib.hid hba
  clear hT hbase hba
  clear y0 y1 y2
  go_wp2_with fail
  go_loopw [9] (fun s9 wr => ∃ (k : Nat) (pk : TP), k ≤ cs.length ∧ s9 = .int .i64 (k : Int) ∧ Im5R W3 base bt ls p0 k pk wr) (fun s9 _ => cs.length - (intOf s9).toNat)
  case atStart => exact ⟨0, p0, Nat.zero_le _, rfl, rfl, rfl, _, _, HT.out⟩
  case round =>
    obtain ⟨k, pk, hk, rfl, hr⟩ := hrel
    by_cases hlt : k < cs.length
    · have dlt : decide ((k : Int) < (cs.length : Int)) = true := decide_eq_true (by omega)
      have hw1 : wrap64 ((k : Int) + 1) = (k : Int) + 1 := by have := HCLN.out; unfold wrap64; omega
      obtain ⟨he, hs, t, xs, hti⟩ := hr
      obtain ⟨g, cap', hsl, _, _, _, _, _, _, hIn⟩ := CB3.out.at (by omega)
      injection hsl with hsl1 hsl2 hsl3
      subst hsl1
      clear hsl2 hsl3
      have hI := (hIn k hlt).frame hti.chg
      obtain ⟨x, hx⟩ : ∃ x, x = cs.getD k cmrL.d := ⟨_, rfl⟩
      rw [← hx] at hI
      have hrk := CR3.out k hlt
      rw [show cs.getD k Cmr.zero = x from hx.symm] at hrk
      rw [drop_getD ls k [] (by rw [← HLN.out]; exact hlt)] at he hs
      have hlk := HMEM.out k
      obtain ⟨lk, hlkk⟩ : ∃ lk, lk = ls.getD k [] := ⟨_, rfl⟩
      rw [← hlkk] at hrk he hs hlk
      rw [show tellS pk (lk :: ls.drop (k + 1)) = tellS (tS pk lk) (ls.drop (k + 1)) from rfl] at hs
      rw [show tellE pk (lk :: ls.drop (k + 1)) = if tE pk lk = 0 then tellE (tS pk lk) (ls.drop (k + 1)) else tE pk lk from rfl] at he
      have htake := fun w h => Take_any lk hlk (.slice x.bytes.a x.bytes.n x.bytes.cap) W3 base bt pk t xs w h hrk
      obtain ⟨E, hEq⟩ : ∃ E, E = tE pk lk := ⟨_, rfl⟩
      rw [← hEq] at he htake
      have hIa := Cmr.at hI
      obtain ⟨hI0, hI1⟩ := hIa
      rw [show cmrL.n = 2 from rfl] at hI1
      have Hs := Lib.hid hs
      have TI := Lib.hid hti
      have HI := Lib.hid hI
      have Hrk := Lib.hid hrk
      have Hx := Lib.hid hx
      have Hlkk := Lib.hid hlkk
      have Hlk := Lib.hid hlk
      have Htake := Lib.hid htake
      have HEq := Lib.hid hEq
      have HIn := Lib.hid hIn
      have HI0 := Lib.hid hI0
      clear hs hti hI hrk hx hlkk hlk htake hEq hIn hI0
      by_cases h0 : E = 0
      · subst h0
        rw [if_pos rfl] at he
        have He := Lib.hid he
        clear he
        go_wp2_with fail
        refine (Htake.out _ TI.out).mono ?_
        rintro e Wd ⟨rfl, hc, ht⟩
        have Hc := Lib.hid hc
        have Ht := Lib.hid ht
        clear hc ht
        go_wp2
        go_roundw
        case rel => exact ⟨k + 1, tS pk lk, hlt, rfl, He.out, Hs.out, Ht.out trivial⟩
        case measure =>
          show cs.length - ((k : Int) + 1).toNat < cs.length - (k : Int).toNat
          omega
      · have d0 : (E != 0) = true := by rw [bne_iff_ne]; exact h0
        rw [if_neg h0] at he
        have H0 := Lib.hid h0
        have HEE := Lib.hid he
        clear h0 he
        go_wp2_with fail
        refine (Htake.out _ TI.out).mono ?_
        rintro e Wd ⟨rfl, hc, ht⟩
        have XAd := Lib.hid (XA3.out.frame hc)
        have CD := Lib.hid (C3.out.then hc)
        clear hc ht
        go_wp2_with ((with_reducible refine Lay.stL Tryz.tIm Img.zero (XAd.out) ?_ ?_ ?_); exact rfl; exact rfl; intro WE cWE xWE; replace cWE := Lib.hid cWE; replace xWE := Lib.hid xWE; refine Hid.out ?_)
        refine Lib.hid ?_
        go_wp2
        refine Lay.ret2 Tryz.tIm rfl xWE.out rfl rfl ?_
        exact ⟨_, by rw [HEE.out]; rfl, CD.out.new cWE.out (by rw [eba.out]; exact Nat.le_refl _), fun h => absurd (HEE.out.trans h) H0.out, fun _ => rfl⟩
    · obtain rfl : k = cs.length := by omega
      have dlt : decide ((cs.length : Int) < (cs.length : Int)) = false := decide_eq_false (by omega)
      obtain ⟨he, hs, t, xs, hti⟩ := hr
      rw [List.drop_eq_nil_of_le (by rw [HLN.out]; exact Nat.le_refl _)] at he hs
      rw [show tellS pk [] = pk from rfl] at hs
      rw [show tellE pk [] = 0 from rfl] at he
      subst hs
      have He := Lib.hid he
      have TI := Lib.hid hti
      clear he hti
      have XAd := Lib.hid (XA3.out.frame TI.out.chg)
      go_wp2_with ((with_reducible refine Lay.ldL Tryz.tIm t.m (Sen.in_m TI.out.box) ?_ ?_); exact rfl; refine Hid.out ?_)
      refine Lib.hid ?_
      go_wp2_with ((with_reducible refine Lay.stL Tryz.tIm t.m (XAd.out) ?_ ?_ ?_); exact rfl; exact rfl; intro WE cWE xWE; replace cWE := Lib.hid cWE; replace xWE := Lib.hid xWE; refine Hid.out ?_)
      refine Lib.hid ?_
      go_wp2
      refine Lay.ret2 Tryz.tIm rfl xWE.out rfl rfl ?_
      refine ⟨_, by rw [← He.out]; rfl, (C3.out.then TI.out.chg).new cWE.out (by rw [eba.out]; exact Nat.le_refl _), fun _ => (TI.out.img.low cWE.out (by simp; exact Hba.out)).mono ?_, fun h => absurd He.out.symm h⟩
      have h1 := C3.out.size
      have h2 := HT.out.chg.size
      have h3 := Hbase.out
      omega
/-- clevisref05.Image, whatever the bytes. -/
theorem Image5_any (l : List UInt8) (hl : l.length ≤ 70368744177664) (a : Option Addr) (cap : Nat) (w : World) (rd : byteL.Rd w (.slice a l.length cap) l) :
    Calls Tryz.prog 13 #[.slice a l.length cap] w (ImgSays l w) := by
  by_cases h : readE l = 0
  · exact Image5_good l h hl a cap w rd
  · exact Image5_bad l h hl a cap w rd
end Go.Proofs.YtgjlgamlmmjdpaaGreatDoor
/- image.Of and clevisref06.Of, whatever the bytes. -/
namespace Go.Proofs.YtgjlgamlmmjdpaaGreatDoor
open Go.RowKit
set_option maxRecDepth 100000

/-- Why bytes are no image that may be (0: they are one). -/
def ofE (l : List UInt8) : Int := if imgE l = 0 then mayE l.length (32 + nL l 20 : Nat) (imgP l) else imgE l
def OfSays (l : List UInt8) (w : World) (e : Ending) (w' : World) : Prop := ∃ m : Img, e = .returned (.tuple #[imgL.val m, .int .i64 (ofE l)]) ∧ Chg [] w w' ∧ (ofE l = 0 → DImg w' w.heap.size m (imgP l)) ∧ (¬ ofE l = 0 → m = .zero)
theorem imgE_read {l : List UInt8} (h : imgE l = 0) : readE l = 0 := by
  by_cases hr : readE l = 0
  · exact hr
  · unfold imgE at h; rw [if_neg hr] at h; exact absurd h hr
set_option maxHeartbeats 8000000 in
theorem Of_any (l : List UInt8) (hl : l.length ≤ 70368744177664) (a : Option Addr) (cap : Nat) (w : World) (hg : Env w) (rd : byteL.Rd w (.slice a l.length cap) l) :
    Calls Tryz.prog 5 #[.slice a l.length cap] w (OfSays l w) := by
  have him := fun w hg rd => Image_any l hl a cap w hg rd
  unfold ImgSays at him
  have hsz := fun w hg rd => Size_any l a cap w hg rd hl
  have hmy := fun m w hd => MayI_any m (imgP l) (l.length : Nat) (32 + nL l 20 : Nat) (by omega) (PB.img l) w hd
  unfold OfSays
  have hoe : ofE l = ofE l := rfl
  conv at hoe => rhs; unfold ofE
  obtain ⟨E, hE⟩ : ∃ E, E = ofE l := ⟨_, rfl⟩
  rw [← hE] at hoe ⊢
  by_cases h0 : imgE l = 0
  · rw [if_pos h0] at hoe
    have hr := imgE_read h0
    simp only [h0] at him
    have hrn : rN l (32 + nL l 20) = 32 + nL l 20 := by unfold rN; rw [if_pos hr]
    simp only [hrn, hr] at hsz
    rw [← hoe] at hmy
    obtain ⟨P, hP⟩ : ∃ P, P = imgP l := ⟨_, rfl⟩
    rw [← hP] at him hmy ⊢
    have hwl : IntKind.u64.wrap (l.length : Int) = (l.length : Int) := by rw [IntKind.wrap_u64]; omega
    have HIM := Lib.hid him
    have HSZ := Lib.hid hsz
    have HMY := Lib.hid hmy
    have Hg := Lib.hid hg
    have RD := Lib.hid rd
    have HE := Lib.hid hE
    have Hoe := Lib.hid hoe
    have H0 := Lib.hid h0
    have Hr := Lib.hid hr
    have Hrn := Lib.hid hrn
    have HP := Lib.hid hP
    have Hl := Lib.hid hl
    clear him hsz hmy hg rd hE hoe h0 hr hrn hP hl
    go_enter Tryz.func5, Tryz.ntmps5
    go_wp2_with ((with_reducible refine Lay.alL Tryz.tIm ?_); intro Wa ba eba cba xba; replace eba := Lib.hid eba; replace cba := Lib.hid cba; replace xba := Lib.hid xba; refine Hid.out ?_)
    refine Lib.hid ?_
    go_wp2_with fail
    refine (HIM.out Wa (Hg.out.frame cba.out (by simp)) (RD.out.frame cba.out)).mono ?_
    rintro e W1 ⟨m, rfl, hch, hdm, _⟩
    have C1 := Lib.hid (cba.out.then hch)
    have XA1 := Lib.hid (xba.out.frame hch)
    have hba1 : ba < Wa.heap.size := xba.out.lt
    have DA1 := Lib.hid (hdm trivial)
    clear hch hdm
    go_wp2_with ((with_reducible refine Lay.alL Tryz.tIm ?_); intro W2 bm ebm cbm xbm; replace ebm := Lib.hid ebm; replace cbm := Lib.hid cbm; replace xbm := Lib.hid xbm; refine Hid.out ?_)
    refine Lib.hid ?_
    go_wp2_with ((with_reducible refine Lay.stL Tryz.tIm m (xbm.out) ?_ ?_ ?_); exact rfl; exact rfl; intro W3 cW3 xW3; replace cW3 := Lib.hid cW3; replace xW3 := Lib.hid xW3; refine Hid.out ?_)
    refine Lib.hid ?_
    have c13 := cbm.out.new cW3.out (by rw [ebm.out]; exact Nat.le_refl _)
    have C3 := Lib.hid (C1.out.then c13)
    have XA3 := Lib.hid (XA1.out.frame c13)
    have DA3 := Lib.hid (DA1.out.frame c13)
    clear c13
    go_wp2_with fail
    refine (HSZ.out W3 (Hg.out.frame C3.out (by simp)) (Rd_of_byte (RD.out.frame C3.out))).mono ?_
    rintro e W4 ⟨rfl, hch⟩
    have C4 := Lib.hid (C3.out.then hch)
    have XA4 := Lib.hid (XA3.out.frame hch)
    have DA4 := Lib.hid (DA3.out.frame hch)
    have XM4 := Lib.hid (xW3.out.frame hch)
    clear hch
    go_wp2_with ((with_reducible refine Lay.ldL Tryz.tIm m (XM4.out.in) ?_ ?_); exact rfl; refine Hid.out ?_)
    refine Lib.hid ?_
    go_wp2_with fail
    refine (HMY.out m W4 DA4.out.rd).mono ?_
    rintro e W5 ⟨rfl, hch⟩
    have C5 := Lib.hid (C4.out.then hch)
    have XA5 := Lib.hid (XA4.out.frame hch)
    have DA5 := Lib.hid (DA4.out.frame hch)
    have XM5 := Lib.hid (XM4.out.frame hch)
    clear hch
    by_cases he : E = 0
    · subst he
      go_wp2_with ((with_reducible refine Lay.ldL Tryz.tIm m (XM5.out.in) ?_ ?_); exact rfl; refine Hid.out ?_)
      refine Lib.hid ?_
      go_wp2_with ((with_reducible refine Lay.stL Tryz.tIm m (XA5.out) ?_ ?_ ?_); exact rfl; exact rfl; intro WE cWE xWE; replace cWE := Lib.hid cWE; replace xWE := Lib.hid xWE; refine Hid.out ?_)
      refine Lib.hid ?_
      go_wp2
      refine Lay.ret2 Tryz.tIm rfl xWE.out rfl rfl ?_
      have hlow : DImg WE w.heap.size m P := (DA5.out.low cWE.out (by simp; exact hba1)).mono cba.out.size
      have hcE := C5.out.new cWE.out (by rw [eba.out]; exact Nat.le_refl _)
      first | exact ⟨m, rfl, hcE, hlow⟩ | exact ⟨m, rfl, hcE, fun _ => hlow, fun h => absurd rfl h⟩
    · have d0 : (E != 0) = true := by rw [bne_iff_ne]; exact he
      have HE0 := Lib.hid he
      clear he
      go_wp2_with ((with_reducible refine Lay.stL Tryz.tIm Img.zero (XA5.out) ?_ ?_ ?_); exact rfl; exact rfl; intro WE cWE xWE; replace cWE := Lib.hid cWE; replace xWE := Lib.hid xWE; refine Hid.out ?_)
      refine Lib.hid ?_
      go_wp2
      refine Lay.ret2 Tryz.tIm rfl xWE.out rfl rfl ?_
      exact ⟨_, rfl, C5.out.new cWE.out (by rw [eba.out]; exact Nat.le_refl _), fun h => absurd h HE0.out, fun _ => rfl⟩
  · rw [if_neg h0] at hoe
    rw [← hoe] at h0 him
    have d0 : (E != 0) = true := by rw [bne_iff_ne]; exact h0
    have HIM := Lib.hid him
    have Hsz := Lib.hid hsz
    have Hmy := Lib.hid hmy
    have Hg := Lib.hid hg
    have RD := Lib.hid rd
    have HE := Lib.hid hE
    have Hoe := Lib.hid hoe
    have H0 := Lib.hid h0
    have Hl := Lib.hid hl
    clear him hsz hmy hg rd hE hoe h0 hl
    go_enter Tryz.func5, Tryz.ntmps5
    go_wp2_with ((with_reducible refine Lay.alL Tryz.tIm ?_); intro Wa ba eba cba xba; replace eba := Lib.hid eba; replace cba := Lib.hid cba; replace xba := Lib.hid xba; refine Hid.out ?_)
    refine Lib.hid ?_
    go_wp2_with fail
    refine (HIM.out Wa (Hg.out.frame cba.out (by simp)) (RD.out.frame cba.out)).mono ?_
    rintro e W1 ⟨m, rfl, hch, _, _⟩
    have C1 := Lib.hid (cba.out.then hch)
    have XA1 := Lib.hid (xba.out.frame hch)
    clear hch
    go_wp2_with ((with_reducible refine Lay.alL Tryz.tIm ?_); intro W2 bm ebm cbm xbm; replace ebm := Lib.hid ebm; replace cbm := Lib.hid cbm; replace xbm := Lib.hid xbm; refine Hid.out ?_)
    refine Lib.hid ?_
    go_wp2_with ((with_reducible refine Lay.stL Tryz.tIm m (xbm.out) ?_ ?_ ?_); exact rfl; exact rfl; intro W3 cW3 xW3; replace cW3 := Lib.hid cW3; replace xW3 := Lib.hid xW3; refine Hid.out ?_)
    refine Lib.hid ?_
    have c13 := cbm.out.new cW3.out (by rw [ebm.out]; exact Nat.le_refl _)
    have C3 := Lib.hid (C1.out.then c13)
    have XA3 := Lib.hid (XA1.out.frame c13)
    clear c13
    go_wp2_with ((with_reducible refine Lay.stL Tryz.tIm Img.zero (XA3.out) ?_ ?_ ?_); exact rfl; exact rfl; intro WE cWE xWE; replace cWE := Lib.hid cWE; replace xWE := Lib.hid xWE; refine Hid.out ?_)
    refine Lib.hid ?_
    go_wp2
    refine Lay.ret2 Tryz.tIm rfl xWE.out rfl rfl ?_
    exact ⟨_, rfl, C3.out.new cWE.out (by rw [eba.out]; exact Nat.le_refl _), fun h => absurd h H0.out, fun _ => rfl⟩
set_option maxHeartbeats 8000000 in
theorem ROf_any (l : List UInt8) (hl : l.length ≤ 70368744177664) (a : Option Addr) (cap : Nat) (w : World) (rd : byteL.Rd w (.slice a l.length cap) l) :
    Calls Tryz.prog 6 #[.slice a l.length cap] w (OfSays l w) := by
  have him := fun w rd => Image5_any l hl a cap w rd
  unfold ImgSays at him
  have hsz := fun w rd => RRead_any l a cap w rd hl
  unfold RReadsAll at hsz
  have hnl := nL_lt l 20
  have hmy := fun m w hd => RMayI_any m (imgP l) (l.length : Nat) (32 + nL l 20 : Nat) (by omega) (by omega) (PB.img l) w hd
  unfold OfSays
  have hoe : ofE l = ofE l := rfl
  conv at hoe => rhs; unfold ofE
  obtain ⟨E, hE⟩ : ∃ E, E = ofE l := ⟨_, rfl⟩
  rw [← hE] at hoe ⊢
  by_cases h0 : imgE l = 0
  · rw [if_pos h0] at hoe
    have hr := imgE_read h0
    simp only [h0] at him
    have hrn : ∀ n, rN l n = n := fun n => by unfold rN; rw [if_pos hr]
    simp only [hrn, hr] at hsz
    rw [← hoe] at hmy
    obtain ⟨P, hP⟩ : ∃ P, P = imgP l := ⟨_, rfl⟩
    rw [← hP] at him hmy ⊢
    obtain ⟨N, hN⟩ : ∃ N : Nat, N = 32 + nL l 20 := ⟨_, rfl⟩
    rw [← hN] at hsz hmy
    have hwl : IntKind.u64.wrap (l.length : Int) = (l.length : Int) := by rw [IntKind.wrap_u64]; omega
    have hwn : IntKind.u64.wrap (N : Int) = (N : Int) := by rw [IntKind.wrap_u64]; omega
    have HIM := Lib.hid him
    have HSZ := Lib.hid hsz
    have HMY := Lib.hid hmy
    have RD := Lib.hid rd
    have HE := Lib.hid hE
    have Hoe := Lib.hid hoe
    have H0 := Lib.hid h0
    have Hr := Lib.hid hr
    have Hrn := Lib.hid hrn
    have HP := Lib.hid hP
    have Hl := Lib.hid hl
    have Hnl := Lib.hid hnl
    have HN := Lib.hid hN
    clear him hsz hmy rd hE hoe h0 hr hrn hP hl hnl hN
    go_enter Tryz.func6, Tryz.ntmps6
    go_wp2_with ((with_reducible refine Lay.alL Tryz.tIm ?_); intro Wa ba eba cba xba; replace eba := Lib.hid eba; replace cba := Lib.hid cba; replace xba := Lib.hid xba; refine Hid.out ?_)
    refine Lib.hid ?_
    go_wp2_with fail
    refine (HIM.out Wa (RD.out.frame cba.out)).mono ?_
    rintro e W1 ⟨m, rfl, hch, hdm, _⟩
    have C1 := Lib.hid (cba.out.then hch)
    have XA1 := Lib.hid (xba.out.frame hch)
    have hba1 : ba < Wa.heap.size := xba.out.lt
    have DA1 := Lib.hid (hdm trivial)
    clear hch hdm
    go_wp2_with ((with_reducible refine Lay.alL Tryz.tIm ?_); intro W2 bm ebm cbm xbm; replace ebm := Lib.hid ebm; replace cbm := Lib.hid cbm; replace xbm := Lib.hid xbm; refine Hid.out ?_)
    refine Lib.hid ?_
    go_wp2_with ((with_reducible refine Lay.stL Tryz.tIm m (xbm.out) ?_ ?_ ?_); exact rfl; exact rfl; intro W3 cW3 xW3; replace cW3 := Lib.hid cW3; replace xW3 := Lib.hid xW3; refine Hid.out ?_)
    refine Lib.hid ?_
    have c13 := cbm.out.new cW3.out (by rw [ebm.out]; exact Nat.le_refl _)
    have C3 := Lib.hid (C1.out.then c13)
    have XA3 := Lib.hid (XA1.out.frame c13)
    have DA3 := Lib.hid (DA1.out.frame c13)
    clear c13
    go_wp2_with fail
    refine (HSZ.out W3 (Rd_of_byte (RD.out.frame C3.out))).mono ?_
    rintro e W4 ⟨v4, ps, base4, rfl, ho4, _, _, hch⟩
    obtain ⟨va, vn, vc, rfl⟩ := own_form ho4
    have C4 := Lib.hid (C3.out.then hch)
    have XA4 := Lib.hid (XA3.out.frame hch)
    have DA4 := Lib.hid (DA3.out.frame hch)
    have XM4 := Lib.hid (xW3.out.frame hch)
    clear hch ho4
    go_wp2_with ((with_reducible refine Lay.alL Tryz.tHdr ?_); intro W5 bh ebh cbh xbh; replace ebh := Lib.hid ebh; replace cbh := Lib.hid cbh; replace xbh := Lib.hid xbh; refine Hid.out ?_)
    refine Lib.hid ?_
    go_wp2_with ((with_reducible refine Lay.stL Tryz.tHdr (⟨(hdSub l : Nat), (nL l 12 : Nat), (nL l 24 : Nat)⟩ : Hdr) (xbh.out) ?_ ?_ ?_); exact rfl; exact rfl; intro W6 cW6 xW6; replace cW6 := Lib.hid cW6; replace xW6 := Lib.hid xW6; refine Hid.out ?_)
    refine Lib.hid ?_
    have c46 := cbh.out.new cW6.out (by rw [ebh.out]; exact Nat.le_refl _)
    have C6 := Lib.hid (C4.out.then c46)
    have XA6 := Lib.hid (XA4.out.frame c46)
    have DA6 := Lib.hid (DA4.out.frame c46)
    have XM6 := Lib.hid (XM4.out.frame c46)
    clear c46
    go_wp2_with ((with_reducible refine Lay.ldL Tryz.tIm m (XM6.out.in) ?_ ?_); exact rfl; refine Hid.out ?_)
    refine Lib.hid ?_
    go_wp2_with fail
    refine (HMY.out m W6 DA6.out.rd).mono ?_
    rintro e W7 ⟨rfl, hch⟩
    have C7 := Lib.hid (C6.out.then hch)
    have XA7 := Lib.hid (XA6.out.frame hch)
    have DA7 := Lib.hid (DA6.out.frame hch)
    have XM7 := Lib.hid (XM6.out.frame hch)
    clear hch
    by_cases he : E = 0
    · subst he
      go_wp2_with ((with_reducible refine Lay.ldL Tryz.tIm m (XM7.out.in) ?_ ?_); exact rfl; refine Hid.out ?_)
      refine Lib.hid ?_
      go_wp2_with ((with_reducible refine Lay.stL Tryz.tIm m (XA7.out) ?_ ?_ ?_); exact rfl; exact rfl; intro WE cWE xWE; replace cWE := Lib.hid cWE; replace xWE := Lib.hid xWE; refine Hid.out ?_)
      refine Lib.hid ?_
      go_wp2
      refine Lay.ret2 Tryz.tIm rfl xWE.out rfl rfl ?_
      have hlow : DImg WE w.heap.size m P := (DA7.out.low cWE.out (by simp; exact hba1)).mono cba.out.size
      have hcE := C7.out.new cWE.out (by rw [eba.out]; exact Nat.le_refl _)
      first | exact ⟨m, rfl, hcE, hlow⟩ | exact ⟨m, rfl, hcE, fun _ => hlow, fun h => absurd rfl h⟩
    · have d0 : (E != 0) = true := by rw [bne_iff_ne]; exact he
      have HE0 := Lib.hid he
      clear he
      go_wp2_with ((with_reducible refine Lay.stL Tryz.tIm Img.zero (XA7.out) ?_ ?_ ?_); exact rfl; exact rfl; intro WE cWE xWE; replace cWE := Lib.hid cWE; replace xWE := Lib.hid xWE; refine Hid.out ?_)
      refine Lib.hid ?_
      go_wp2
      refine Lay.ret2 Tryz.tIm rfl xWE.out rfl rfl ?_
      exact ⟨_, rfl, C7.out.new cWE.out (by rw [eba.out]; exact Nat.le_refl _), fun h => absurd h HE0.out, fun _ => rfl⟩
  · rw [if_neg h0] at hoe
    rw [← hoe] at h0 him
    have d0 : (E != 0) = true := by rw [bne_iff_ne]; exact h0
    have HIM := Lib.hid him
    have Hsz := Lib.hid hsz
    have Hmy := Lib.hid hmy
    have RD := Lib.hid rd
    have HE := Lib.hid hE
    have Hoe := Lib.hid hoe
    have H0 := Lib.hid h0
    have Hl := Lib.hid hl
    have Hnl := Lib.hid hnl
    clear him hsz hmy rd hE hoe h0 hl hnl
    go_enter Tryz.func6, Tryz.ntmps6
    go_wp2_with ((with_reducible refine Lay.alL Tryz.tIm ?_); intro Wa ba eba cba xba; replace eba := Lib.hid eba; replace cba := Lib.hid cba; replace xba := Lib.hid xba; refine Hid.out ?_)
    refine Lib.hid ?_
    go_wp2_with fail
    refine (HIM.out Wa (RD.out.frame cba.out)).mono ?_
    rintro e W1 ⟨m, rfl, hch, _, _⟩
    have C1 := Lib.hid (cba.out.then hch)
    have XA1 := Lib.hid (xba.out.frame hch)
    clear hch
    go_wp2_with ((with_reducible refine Lay.alL Tryz.tIm ?_); intro W2 bm ebm cbm xbm; replace ebm := Lib.hid ebm; replace cbm := Lib.hid cbm; replace xbm := Lib.hid xbm; refine Hid.out ?_)
    refine Lib.hid ?_
    go_wp2_with ((with_reducible refine Lay.stL Tryz.tIm m (xbm.out) ?_ ?_ ?_); exact rfl; exact rfl; intro W3 cW3 xW3; replace cW3 := Lib.hid cW3; replace xW3 := Lib.hid xW3; refine Hid.out ?_)
    refine Lib.hid ?_
    have c13 := cbm.out.new cW3.out (by rw [ebm.out]; exact Nat.le_refl _)
    have C3 := Lib.hid (C1.out.then c13)
    have XA3 := Lib.hid (XA1.out.frame c13)
    clear c13
    go_wp2_with ((with_reducible refine Lay.stL Tryz.tIm Img.zero (XA3.out) ?_ ?_ ?_); exact rfl; exact rfl; intro WE cWE xWE; replace cWE := Lib.hid cWE; replace xWE := Lib.hid xWE; refine Hid.out ?_)
    refine Lib.hid ?_
    go_wp2
    refine Lay.ret2 Tryz.tIm rfl xWE.out rfl rfl ?_
    exact ⟨_, rfl, C3.out.new cWE.out (by rw [eba.out]; exact Nat.le_refl _), fun h => absurd h H0.out, fun _ => rfl⟩
end Go.Proofs.YtgjlgamlmmjdpaaGreatDoor
