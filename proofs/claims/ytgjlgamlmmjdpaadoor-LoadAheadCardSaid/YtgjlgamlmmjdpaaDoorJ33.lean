/- Lemmas, laid together: part 33 of 38. Conditions: none but each lemma's own. -/
import Derived.Test.YtgjlgamlmmjdpaaDoorJ24
import Derived.Test.YtgjlgamlmmjdpaaDoorJ32
import Derived.Test.YtgjlgamlmmjdpaaDoorJ22
/- load.Image, whatever the bytes. -/
namespace Go.Proofs.YtgjlgamlmmjdpaaDoor
open Go.RowKit
set_option maxRecDepth 100000

theorem Tryd.tIm : Lay.Ty imgL Tryd.prog 37 := Lay.Ty.mk' (by kernel_rfl) (by kernel_rfl)
theorem Tryd.tHdr : Lay.Ty hdrL Tryd.prog 27 := Lay.Ty.mk' (by kernel_rfl) (by kernel_rfl)
theorem Tryd.tCmr : Lay.Ty cmrL Tryd.prog 52 := Lay.Ty.mk' (by kernel_rfl) (by kernel_rfl)
/-- Commands in a row: the error of the first one that is not taken in; what was told behind all. -/
def tellE (p : TP) : List (List UInt8) → Int
  | [] => 0
  | l :: r => if tE p l = 0 then tellE (tS p l) r else tE p l
def tellS (p : TP) : List (List UInt8) → TP
  | [] => p
  | l :: r => tellS (tS p l) r
def slOf : Value → SlV
  | .slice a n c => ⟨a, n, c⟩
  | _ => ⟨none, 0, 0⟩
theorem cmr_rd {W : World} {base : Nat} {v : Value} {ps : List (Cmd × Value)} (h : OutC W base v ps) : ∃ cs : List Cmr, cs.length = ps.length ∧ cmrL.Buf 52 W base v cs ∧ ∀ k, k < ps.length → byteL.Rd W (.slice (cs.getD k .zero).bytes.a (cs.getD k .zero).bytes.n (cs.getD k .zero).bytes.cap) ((ps.map fun p => p.1.2).getD k []) := by
  have hsl : ∀ p ∈ ps, p.2 = .slice (slOf p.2).a (slOf p.2).n (slOf p.2).cap := by
    intro p hp
    obtain ⟨a, m, c, e⟩ := own_form (h.each p hp)
    rw [e]
    rfl
  have hv : ∀ qs : List (Cmd × Value), (∀ p ∈ qs, p.2 = .slice (slOf p.2).a (slOf p.2).n (slOf p.2).cap) → cmdV qs = cmrL.vals (qs.map fun p => (⟨(p.1.1 : Nat), slOf p.2⟩ : Cmr)) := by
    intro qs
    induction qs with
    | nil => intro _; rfl
    | cons q r ih =>
      intro hq
      have h1 := ih (fun p hp => hq p (List.mem_cons_of_mem _ hp))
      have h2 := hq q (List.mem_cons_self ..)
      rw [List.map_cons, Lay.vals_cons, ← h1]
      show [.int .u32 (q.1.1 : Nat), q.2] ++ cmdV r = [.int .u32 (q.1.1 : Nat), .slice (slOf q.2).a (slOf q.2).n (slOf q.2).cap] ++ cmdV r
      rw [← h2]
  refine ⟨ps.map fun p => (⟨(p.1.1 : Nat), slOf p.2⟩ : Cmr), by simp, ?_, fun k hk => ?_⟩
  · have h1 := h.own
    rw [hv ps hsl] at h1
    unfold Lay.Buf
    rw [List.length_map]
    exact h1
  · have hm := List.getElem_mem hk
    have h1 := h.each _ hm
    have h2 := hsl _ hm
    have e1 : (ps.map fun p => (⟨(p.1.1 : Nat), slOf p.2⟩ : Cmr)).getD k .zero = ⟨(ps[k].1.1 : Nat), slOf ps[k].2⟩ := by simp [List.getD_eq_getElem?_getD, hk]
    have e2 : (ps.map fun p => p.1.2).getD k [] = ps[k].1.2 := by simp [List.getD_eq_getElem?_getD, hk]
    rw [e1, e2]
    have h3 := Rd_to_byte (Rd.owned h1)
    rw [h2] at h3
    exact h3
/-- An image in memory, as plain data. -/
def DImg (w : World) (base : Nat) (m : Img) (p : TP) : Prop := ∃ xs, m.bare = p.m ∧ segL.Buf 63 w base (.slice m.segs.a m.segs.n m.segs.cap) xs ∧ SecsIn w base xs p.segs ∧ depL.Buf 66 w base (.slice m.deps.a m.deps.n m.deps.cap) p.deps
theorem DImg.frame {w w' : World} {base : Nat} {m : Img} {p : TP} (h : DImg w base m p) (k : Chg [] w w') : DImg w' base m p := by
  obtain ⟨xs, h1, h2, h3, h4⟩ := h
  exact ⟨xs, h1, h2.pure k, h3.pure k, h4.pure k⟩
theorem DImg.mono {w : World} {base base' : Nat} {m : Img} {p : TP} (h : DImg w base m p) (hb : base' ≤ base) : DImg w base' m p := by
  obtain ⟨xs, h1, h2, h3, h4⟩ := h
  exact ⟨xs, h1, h2.mono hb, ⟨h3.1, fun i hi => ⟨(h3.2 i hi).1, (h3.2 i hi).2.mono hb⟩⟩, h4.mono hb⟩
theorem TInv.img {w1 w : World} {base bt bs : Nat} {p : TP} {t : Tel} {xs : List Seg} (h : TInv w1 base bt bs p t xs w) : DImg w base t.m p := ⟨xs, h.m, h.sg, h.ks, h.dp⟩
theorem Tel.in_m {w : World} {g : Nat} {t : Tel} (h : telL.Box w g t) : imgL.In w g 0 t.m := fun c hc => by
  have hc' : c < 24 := hc
  have h1 := h.in c (Nat.lt_of_lt_of_le hc' (by decide : 24 ≤ 26))
  rw [h1]
  show (t.m.cells ++ [.map t.seen, .int .i64 t.secs])[c]? = t.m.cells[c]?
  rw [List.getElem?_append_left hc']
/-- What bytes tell ahead of their commands. -/
def tp0 (l : List UInt8) : TP := ⟨{ Img.zero with kind := (nL l 12 : Nat), sub := (hdSub l : Nat), flags := (nL l 24 : Nat) }, [], [], fun _ => false, 0⟩
def cmdLs (l : List UInt8) : List (List UInt8) := (readCs l).map Prod.snd
def imgE (l : List UInt8) : Int := if readE l = 0 then tellE (tp0 l) (cmdLs l) else readE l
def imgP (l : List UInt8) : TP := tellS (tp0 l) (cmdLs l)
def ImgSays (l : List UInt8) (w : World) (e : Ending) (w' : World) : Prop := ∃ m : Img, e = .returned (.tuple #[imgL.val m, .int .i64 (imgE l)]) ∧ Chg [] w w' ∧ (imgE l = 0 → DImg w' w.heap.size m (imgP l)) ∧ (¬ imgE l = 0 → m = .zero)
set_option maxHeartbeats 4000000 in
theorem Image_bad (l : List UInt8) (hE : ¬ readE l = 0) (hl : l.length ≤ 70368744177664) (a : Option Addr) (cap : Nat) (w : World) (hg : Env w) (rd : byteL.Rd w (.slice a l.length cap) l) :
    Calls Tryd.prog 6 #[.slice a l.length cap] w (ImgSays l w) := by
  have hrd := fun w hg rd => Read_any l a cap w hg rd hl
  unfold ReadsAll at hrd
  unfold ImgSays imgE
  rw [if_neg hE]
  obtain ⟨E, hEE⟩ : ∃ E, E = readE l := ⟨_, rfl⟩
  rw [← hEE] at hE hrd ⊢
  have d0 : (E != 0) = true := by rw [bne_iff_ne]; exact hE
  have HE := Lib.hid hE
  have HRD := Lib.hid hrd
  have Hg := Lib.hid hg
  have RD := Lib.hid rd
  have HEE := Lib.hid hEE
  have Hl := Lib.hid hl
  clear hE hrd hg rd hEE hl
  go_enter Tryd.func6, Tryd.ntmps6
  go_wp2_with ((with_reducible refine Lay.alL Tryd.tIm ?_); intro Wa ba eba cba xba; replace eba := Lib.hid eba; replace cba := Lib.hid cba; replace xba := Lib.hid xba; refine Hid.out ?_)
  refine Lib.hid ?_
  go_wp2_with fail
  refine (HRD.out Wa (Hg.out.frame cba.out (by simp)) (Rd_of_byte (RD.out.frame cba.out))).mono ?_
  rintro e W1 ⟨v, ps, base, rfl, ho, hm, hb, hch⟩
  have C1 := Lib.hid (cba.out.then hch)
  have XA1 := Lib.hid (xba.out.frame hch)
  clear hm hb hch
  obtain ⟨va, vn, vc, rfl⟩ := own_form ho.own
  clear ho
  go_wp2_with ((with_reducible refine Lay.alL Tryd.tHdr ?_); intro W2 bh ebh cbh xbh; replace ebh := Lib.hid ebh; replace cbh := Lib.hid cbh; replace xbh := Lib.hid xbh; refine Hid.out ?_)
  refine Lib.hid ?_
  go_wp2_with ((with_reducible refine Lay.stL Tryd.tHdr (⟨(rN l (hdSub l) : Nat), (rN l (nL l 12) : Nat), (rN l (nL l 24) : Nat)⟩ : Hdr) (xbh.out) ?_ ?_ ?_); exact rfl; exact rfl; intro W3 cW3 xW3; replace cW3 := Lib.hid cW3; replace xW3 := Lib.hid xW3; refine Hid.out ?_)
  refine Lib.hid ?_
  have C3 := Lib.hid (C1.out.then (cbh.out.new cW3.out (by rw [ebh.out]; exact Nat.le_refl _)))
  have XA3 := Lib.hid (XA1.out.frame (cbh.out.new cW3.out (by rw [ebh.out]; exact Nat.le_refl _)))
  go_wp2_with ((with_reducible refine Lay.stL Tryd.tIm Img.zero (XA3.out) ?_ ?_ ?_); exact rfl; exact rfl; intro W4 cW4 xW4; replace cW4 := Lib.hid cW4; replace xW4 := Lib.hid xW4; refine Hid.out ?_)
  refine Lib.hid ?_
  go_wp2
  refine Lay.ret2 Tryd.tIm rfl xW4.out rfl rfl ?_
  exact ⟨_, rfl, C3.out.new cW4.out (by rw [eba.out]; exact Nat.le_refl _), fun h => absurd h HE.out, fun _ => rfl⟩
/-- The loop's state. -/
structure ImR (w1 : World) (base bt bs : Nat) (ls : List (List UInt8)) (p0 : TP) (k : Nat) (pk : TP) (wr : World) : Prop where
  e : tellE pk (ls.drop k) = tellE p0 ls
  s : tellS pk (ls.drop k) = tellS p0 ls
  i : ∃ t xs, TInv w1 base bt bs pk t xs wr
theorem cmdLs_len (l : List UInt8) (hl : l.length ≤ 70368744177664) (k : Nat) : ((cmdLs l).getD k []).length ≤ 140737488355328 := by
  rw [List.getD_eq_getElem?_getD]
  by_cases h : k < (cmdLs l).length
  · rw [List.getElem?_eq_getElem h]
    have hm := List.getElem_mem h
    simp only [Option.getD_some]
    generalize (cmdLs l)[k] = x at hm
    unfold cmdLs readCs at hm
    split at hm
    · unfold cmdsC at hm
      simp only [List.map_map, List.mem_map, Function.comp] at hm
      obtain ⟨i, _, rfl⟩ := hm
      unfold cmdC
      simp only [List.length_take, List.length_drop]
      omega
    · simp at hm
  · rw [List.getElem?_eq_none (by omega)]
    simp
theorem DImg.low {w w' : World} {base : Nat} {m : Img} {p : TP} {S : List Nat} (h : DImg w base m p) (k : Chg S w w') (hS : ∀ i ∈ S, i < base) : DImg w' base m p := by
  obtain ⟨xs, h1, h2, h3, h4⟩ := h
  exact ⟨xs, h1, h2.frame k (fun b hb hm => by have := (h2.lt b hb).1; have := hS b hm; omega), h3.low k hS, h4.frame k (fun b hb hm => by have := (h4.lt b hb).1; have := hS b hm; omega)⟩
theorem drop_getD {α : Type} (l : List α) (k : Nat) (d : α) (h : k < l.length) : l.drop k = l.getD k d :: l.drop (k + 1) := by
  rw [List.drop_eq_getElem_cons h]
  simp [List.getD_eq_getElem?_getD, h]
set_option maxHeartbeats 8000000 in
theorem Image_good (l : List UInt8) (hE : readE l = 0) (hl : l.length ≤ 70368744177664) (a : Option Addr) (cap : Nat) (w : World) (hg : Env w) (rd : byteL.Rd w (.slice a l.length cap) l) :
    Calls Tryd.prog 6 #[.slice a l.length cap] w (ImgSays l w) := by
  have hrd := fun w hg rd => Read_any l a cap w hg rd hl
  unfold ReadsAll at hrd
  have hrn : ∀ n, rN l n = n := fun n => by unfold rN; rw [if_pos hE]
  simp only [hrn, hE] at hrd
  unfold ImgSays imgE imgP
  rw [if_pos hE]
  obtain ⟨p0, hp0⟩ : ∃ p0, p0 = tp0 l := ⟨_, rfl⟩
  obtain ⟨ls, hls⟩ : ∃ ls, ls = cmdLs l := ⟨_, rfl⟩
  rw [← hp0, ← hls]
  obtain ⟨K, hK⟩ : ∃ K : Nat, K = nL l 12 := ⟨_, rfl⟩
  obtain ⟨S, hS⟩ : ∃ S : Nat, S = hdSub l := ⟨_, rfl⟩
  obtain ⟨F, hF⟩ : ∃ F : Nat, F = nL l 24 := ⟨_, rfl⟩
  rw [← hK, ← hS, ← hF] at hrd
  have hp0' : p0 = ⟨{ Img.zero with kind := K, sub := S, flags := F }, [], [], fun _ => false, 0⟩ := by rw [hp0, hK, hS, hF]; rfl
  have hmem : ∀ k, (ls.getD k []).length ≤ 140737488355328 := fun k => by rw [hls]; exact cmdLs_len l hl k
  have HE := Lib.hid hE
  have HRD := Lib.hid hrd
  have Hg := Lib.hid hg
  have RD := Lib.hid rd
  have Hl := Lib.hid hl
  have HK := Lib.hid hK
  have HS := Lib.hid hS
  have HF := Lib.hid hF
  have Hrn := Lib.hid hrn
  have Hp0 := Lib.hid hp0
  have Hls := Lib.hid hls
  have HP0 := Lib.hid hp0'
  have HMEM := Lib.hid hmem
  clear hE hrd hg rd hl hK hS hF hrn hp0 hls hp0' hmem
  go_enter Tryd.func6, Tryd.ntmps6
  go_wp2_with ((with_reducible refine Lay.alL Tryd.tIm ?_); intro Wa ba eba cba xba; replace eba := Lib.hid eba; replace cba := Lib.hid cba; replace xba := Lib.hid xba; refine Hid.out ?_)
  refine Lib.hid ?_
  go_wp2_with fail
  refine (HRD.out Wa (Hg.out.frame cba.out (by simp)) (Rd_of_byte (RD.out.frame cba.out))).mono ?_
  rintro e W1 ⟨v, ps, base1, rfl, ho, hm, hb, hch⟩
  have C1 := Lib.hid (cba.out.then hch)
  have XA1 := Lib.hid (xba.out.frame hch)
  obtain ⟨cs, hcl, hbf, hrds⟩ := cmr_rd ho
  have hlp : ps.map (fun p => p.1.2) = ls := by rw [Hls.out]; unfold cmdLs; rw [← hm]; simp
  have hln : cs.length = ls.length := by rw [hcl, ← hlp]; simp
  rw [hlp] at hrds
  have hrds2 : ∀ k, k < cs.length → byteL.Rd W1 (.slice (cs.getD k .zero).bytes.a (cs.getD k .zero).bytes.n (cs.getD k .zero).bytes.cap) (ls.getD k []) := fun k hk => hrds k (by rw [← hcl]; exact hk)
  obtain ⟨va, vc, rfl, hvc1, hvc2⟩ := hbf.rd.shape
  have CB := Lib.hid hbf
  have CR := Lib.hid hrds2
  have HLN := Lib.hid hln
  clear hbf hrds2 hln
  clear ho hm hb hch hcl hrds hlp hvc1 hvc2
  go_wp2_with ((with_reducible refine Lay.alL Tryd.tHdr ?_); intro W2 bh ebh cbh xbh; replace ebh := Lib.hid ebh; replace cbh := Lib.hid cbh; replace xbh := Lib.hid xbh; refine Hid.out ?_)
  refine Lib.hid ?_
  go_wp2_with ((with_reducible refine Lay.stL Tryd.tHdr (⟨(S : Nat), (K : Nat), (F : Nat)⟩ : Hdr) (xbh.out) ?_ ?_ ?_); exact rfl; exact rfl; intro W3 cW3 xW3; replace cW3 := Lib.hid cW3; replace xW3 := Lib.hid xW3; refine Hid.out ?_)
  refine Lib.hid ?_
  have c13 := cbh.out.new cW3.out (by rw [ebh.out]; exact Nat.le_refl _)
  have C3 := Lib.hid (C1.out.then c13)
  have XA3 := Lib.hid (XA1.out.frame c13)
  have CB3 := Lib.hid (CB.out.pure c13)
  have CR3 := Lib.hid (fun k hk => (CR.out k hk).frame c13)
  clear c13
  have y0 := Hdr.c_sub xW3.out
  have y1 := Hdr.c_kind xW3.out
  have y2 := Hdr.c_flags xW3.out
  go_wp2_with ((with_reducible refine Map.mkL (Map.intK .u32) 56 ?_); intro W4 bs ebs cbs mbs; replace ebs := Lib.hid ebs; replace cbs := Lib.hid cbs; replace mbs := Lib.hid mbs; refine Hid.out ?_)
  refine Lib.hid ?_
  go_wp2_with ((with_reducible refine Lay.bxL (L := telL) 58 (⟨{ Img.zero with kind := K, sub := S, flags := F }, some bs, 0⟩ : Tel) ?_ ?_); exact rfl; intro W5 bt ebt cbt xbt; replace ebt := Lib.hid ebt; replace cbt := Lib.hid cbt; replace xbt := Lib.hid xbt; refine Hid.out ?_)
  refine Lib.hid ?_
  obtain ⟨base, hbase⟩ : ∃ base, base = W5.heap.size := ⟨_, rfl⟩
  have hT : TInv W3 base bt bs p0 ⟨{ Img.zero with kind := K, sub := S, flags := F }, some bs, 0⟩ [] W5 := by
    have q1 := mbs.out.lt
    have q2 := xbt.out.lt
    have q3 := ebs.out
    have q4 := ebt.out
    have q5 := cbs.out.size
    rw [HP0.out]
    exact ⟨xbt.out, rfl, rfl, rfl, Lay.Buf.nil _ _, SecsIn.nil _ _, Lay.Buf.nil _ _, (mbs.out.frame cbt.out).congr (fun k => rfl), by omega, by omega, by omega, by omega, by omega, by omega, Nat.zero_le _, Nat.zero_le _, Nat.zero_le _, cbs.out.then cbt.out⟩
  have hba : ba < base := by have := XA3.out.lt; have := hT.chg.size; have := hT.o4; omega
  have HT := Lib.hid hT
  have Hbase := Lib.hid hbase
  have Hba := Lib.hid hba
  clear hT hbase hba
  clear y0 y1 y2
  go_wp2_with fail
  go_loopw [33] (fun s33 wr => ∃ (k : Nat) (pk : TP), k ≤ cs.length ∧ s33 = .int .i64 (k : Int) ∧ ImR W3 base bt bs ls p0 k pk wr) (fun s33 _ => cs.length - (intOf s33).toNat)
  case atStart => exact ⟨0, p0, Nat.zero_le _, rfl, rfl, rfl, _, _, HT.out⟩
  case round =>
    obtain ⟨k, pk, hk, rfl, hr⟩ := hrel
    by_cases hlt : k < cs.length
    · obtain ⟨he, hs, t, xs, hti⟩ := hr
      obtain ⟨g, cap', hsl, _, _, _, _, _, _, hIn⟩ := CB3.out.at (by omega)
      injection hsl with hsl1 hsl2 hsl3
      subst hsl1
      clear hsl2 hsl3
      have hI := (hIn k hlt).frame hti.chg
      obtain ⟨x, hx⟩ : ∃ x, x = cs.getD k cmrL.d := ⟨_, rfl⟩
      rw [← hx] at hI
      have hrk := CR3.out k hlt
      rw [show cs.getD k Cmr.zero = x from hx.symm] at hrk
      rw [drop_getD ls k [] (by rw [← HLN.out]; exact hlt)] at he hs
      have hlk := HMEM.out k
      obtain ⟨lk, hlkk⟩ : ∃ lk, lk = ls.getD k [] := ⟨_, rfl⟩
      rw [← hlkk] at hrk he hs hlk
      rw [show tellS pk (lk :: ls.drop (k + 1)) = tellS (tS pk lk) (ls.drop (k + 1)) from rfl] at hs
      rw [show tellE pk (lk :: ls.drop (k + 1)) = if tE pk lk = 0 then tellE (tS pk lk) (ls.drop (k + 1)) else tE pk lk from rfl] at he
      have htell := fun w t xs h => tell_any x lk hlk W3 base bt bs pk t xs w h (Hg.out.frame C3.out (by simp)) hrk
      obtain ⟨E, hEq⟩ : ∃ E, E = tE pk lk := ⟨_, rfl⟩
      rw [← hEq] at he htell
      have Hs := Lib.hid hs
      have TI := Lib.hid hti
      have HI := Lib.hid hI
      have Hrk := Lib.hid hrk
      have Hx := Lib.hid hx
      have Hlkk := Lib.hid hlkk
      have Hlk := Lib.hid hlk
      have Htell := Lib.hid htell
      have HEq := Lib.hid hEq
      have HIn := Lib.hid hIn
      clear hs hti hI hrk hx hlkk hlk htell hEq hIn
      by_cases h0 : E = 0
      · subst h0
        rw [if_pos rfl] at he
        have He := Lib.hid he
        clear he
        go_wp2_with ((with_reducible refine Lay.ldL Tryd.tCmr x (HI.out) ?_ ?_); exact rfl; refine Hid.out ?_)
        refine Lib.hid ?_
        go_wp2_with ((with_reducible refine Lay.alL Tryd.tCmr ?_); intro Wb bx ebx cbx xbx; replace ebx := Lib.hid ebx; replace cbx := Lib.hid cbx; replace xbx := Lib.hid xbx; refine Hid.out ?_)
        refine Lib.hid ?_
        go_wp2_with ((with_reducible refine Lay.stL Tryd.tCmr x (xbx.out) ?_ ?_ ?_); exact rfl; exact rfl; intro Wc cWc xWc; replace cWc := Lib.hid cWc; replace xWc := Lib.hid xWc; refine Hid.out ?_)
        refine Lib.hid ?_
        have TC := Lib.hid (TI.out.pure (cbx.out.new cWc.out (by rw [ebx.out]; exact Nat.le_refl _)))
        go_wp2_with ((with_reducible refine Lay.ldL Tryd.tCmr x (xWc.out.in) ?_ ?_); exact rfl; refine Hid.out ?_)
        refine Lib.hid ?_
        go_wp2_with fail
        refine (Htell.out Wc _ _ TC.out).mono ?_
        rintro e Wd ⟨rfl, hc, ht⟩
        have Hc := Lib.hid hc
        have Ht := Lib.hid ht
        clear hc ht
        go_wp2
        go_roundw
        case rel => exact ⟨k + 1, tS pk lk, hlt, by go_num, He.out, Hs.out, Ht.out trivial⟩
        case measure => simp [intOf]; omega
      · have d0 : (E != 0) = true := by rw [bne_iff_ne]; exact h0
        rw [if_neg h0] at he
        have H0 := Lib.hid h0
        have HEE := Lib.hid he
        clear h0 he
        go_wp2_with ((with_reducible refine Lay.ldL Tryd.tCmr x (HI.out) ?_ ?_); exact rfl; refine Hid.out ?_)
        refine Lib.hid ?_
        go_wp2_with ((with_reducible refine Lay.alL Tryd.tCmr ?_); intro Wb bx ebx cbx xbx; replace ebx := Lib.hid ebx; replace cbx := Lib.hid cbx; replace xbx := Lib.hid xbx; refine Hid.out ?_)
        refine Lib.hid ?_
        go_wp2_with ((with_reducible refine Lay.stL Tryd.tCmr x (xbx.out) ?_ ?_ ?_); exact rfl; exact rfl; intro Wc cWc xWc; replace cWc := Lib.hid cWc; replace xWc := Lib.hid xWc; refine Hid.out ?_)
        refine Lib.hid ?_
        have TC := Lib.hid (TI.out.pure (cbx.out.new cWc.out (by rw [ebx.out]; exact Nat.le_refl _)))
        go_wp2_with ((with_reducible refine Lay.ldL Tryd.tCmr x (xWc.out.in) ?_ ?_); exact rfl; refine Hid.out ?_)
        refine Lib.hid ?_
        go_wp2_with fail
        refine (Htell.out Wc _ _ TC.out).mono ?_
        rintro e Wd ⟨rfl, hc, ht⟩
        have XAd := Lib.hid (XA3.out.frame hc)
        have CD := Lib.hid (C3.out.then hc)
        clear hc ht
        go_wp2_with ((with_reducible refine Lay.stL Tryd.tIm Img.zero (XAd.out) ?_ ?_ ?_); exact rfl; exact rfl; intro WE cWE xWE; replace cWE := Lib.hid cWE; replace xWE := Lib.hid xWE; refine Hid.out ?_)
        refine Lib.hid ?_
        go_wp2
        refine Lay.ret2 Tryd.tIm rfl xWE.out rfl rfl ?_
        exact ⟨_, by rw [HEE.out]; rfl, CD.out.new cWE.out (by rw [eba.out]; exact Nat.le_refl _), fun h => absurd (HEE.out.trans h) H0.out, fun _ => rfl⟩
    · obtain rfl : k = cs.length := by omega
      obtain ⟨he, hs, t, xs, hti⟩ := hr
      rw [List.drop_eq_nil_of_le (by rw [HLN.out]; exact Nat.le_refl _)] at he hs
      rw [show tellS pk [] = pk from rfl] at hs
      rw [show tellE pk [] = 0 from rfl] at he
      subst hs
      have He := Lib.hid he
      have TI := Lib.hid hti
      clear he hti
      have XAd := Lib.hid (XA3.out.frame TI.out.chg)
      go_wp2_with ((with_reducible refine Lay.ldL Tryd.tIm t.m (Tel.in_m TI.out.box) ?_ ?_); exact rfl; refine Hid.out ?_)
      refine Lib.hid ?_
      go_wp2_with ((with_reducible refine Lay.stL Tryd.tIm t.m (XAd.out) ?_ ?_ ?_); exact rfl; exact rfl; intro WE cWE xWE; replace cWE := Lib.hid cWE; replace xWE := Lib.hid xWE; refine Hid.out ?_)
      refine Lib.hid ?_
      go_wp2
      refine Lay.ret2 Tryd.tIm rfl xWE.out rfl rfl ?_
      refine ⟨_, by rw [← He.out]; rfl, (C3.out.then TI.out.chg).new cWE.out (by rw [eba.out]; exact Nat.le_refl _), fun _ => (TI.out.img.low cWE.out (by simp; exact Hba.out)).mono ?_, fun h => absurd He.out.symm h⟩
      have h1 := C3.out.size
      have h2 := HT.out.chg.size
      have h3 := Hbase.out
      omega
/-- load.Image, whatever the bytes. -/
theorem Image_any (l : List UInt8) (hl : l.length ≤ 70368744177664) (a : Option Addr) (cap : Nat) (w : World) (hg : Env w) (rd : byteL.Rd w (.slice a l.length cap) l) :
    Calls Tryd.prog 6 #[.slice a l.length cap] w (ImgSays l w) := by
  by_cases h : readE l = 0
  · exact Image_good l h hl a cap w hg rd
  · exact Image_bad l h hl a cap w hg rd
end Go.Proofs.YtgjlgamlmmjdpaaDoor
/- The document's Get, at, field, Least, Dep, Cmd (of layer 5). -/
namespace Go.Proofs.YtgjlgamlmmjdpaaDoor
open Go.RowKit
set_option maxRecDepth 100000

theorem leNum_drop (l : List UInt8) (m : Nat) (h : m < l.length) : leNum (l.drop m) = (l.getD m 0).toNat + 256 * leNum (l.drop (m + 1)) := by
  rw [List.drop_eq_getElem_cons h]
  show l[m].toNat + 256 * leNum (l.drop (m + 1)) = _
  simp [List.getD_eq_getElem?_getD, h]
theorem byte_cell {w : World} {b off n cap : Nat} {l : List UInt8} (h : byteL.Rd w (.slice (some ⟨b, off, none⟩) n cap) l) (j : Nat) (hj : j < l.length) : w.cell? ⟨b, off + j, none⟩ = some (.int .u8 (l.getD j 0).toNat) := by
  obtain ⟨_, _, _, e, _, _, _, hx⟩ := h
  cases e
  obtain ⟨b', o', e, _, hc⟩ := hx (by rintro rfl; simp at hj)
  cases e
  have := hc j hj 0 (by decide)
  rw [show byteL.n = 1 from rfl, Nat.mul_one, Nat.add_zero] at this
  rw [this]
  rfl
/-- The document's number of a command (0: it is too short for one). -/
def cmdN (l : List UInt8) : Nat := if l.length < 8 then 0 else n4 l 0
end Go.Proofs.YtgjlgamlmmjdpaaDoor
