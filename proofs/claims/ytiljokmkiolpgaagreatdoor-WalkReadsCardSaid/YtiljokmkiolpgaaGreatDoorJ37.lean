/- Lemmas, laid together: part 37 of 42. Conditions: none but each lemma's own. -/
import Derived.Test.YtiljokmkiolpgaaGreatDoorJ35
import Derived.Test.YtiljokmkiolpgaaGreatDoorJ36
import Derived.Test.YtiljokmkiolpgaaGreatDoorJ19
import Derived.Test.YtiljokmkiolpgaaGreatDoorJ10
import Derived.StillTailTactics
import Derived.Test.YtiljokmkiolpgaaGreatDoorJ1
namespace Go.Proofs.YtiljokmkiolpgaaGreatDoor
open Go.RowKit
set_option maxRecDepth 100000
structure SMid (w1 : World) (base bt : Nat) (p : TP) (t : Sen) (w : World) : Prop where
 box : senL.Box w bt t
 nm : t.nm = p.seen 13
 ch : t.ch = p.seen 2147483700
 sy : t.sy = p.seen 2
 en : t.en = p.seen 2147483688
 sp : t.sp = p.seen 34
 secs : t.secs = p.n
 m : t.m.bare = p.m
 o2 : bt < base
 o4 : base ≤ w.heap.size
 o6 : w1.heap.size ≤ bt
 l1 : p.segs.length ≤ 16
 l2 : p.deps.length ≤ 64
 l3 : p.n ≤ 64
 chg : Chg [] w1 w
theorem SInv.grew {w1 w w' : World} {base bt : Nat} {p : TP} {t : Sen} {xs : List Seg} {S : List Nat} (h : SInv w1 base bt p t xs w) (k : Chg S w w') (hS : ∀ i ∈ S, base ≤ i) : SMid w1 base bt p t w' :=
 have h2 := h.o2
 have h6 := h.o6
 ⟨h.box.frameS k (fun hm => by have := hS _ hm; omega), h.nm, h.ch, h.sy, h.en, h.sp, h.secs, h.m, h.o2, Nat.le_trans h.o4 k.size, h.o6, h.l1, h.l2, h.l3, h.chg.trans k (fun i hi hw => by have := hS i hi; omega)⟩
theorem SMid.dep {w1 w0 w : World} {base bt : Nat} {p : TP} {t : Sen} {xs : List Seg} (h : SMid w1 base bt p t w) (h0 : SInv w1 base bt p t xs w0) (k : Chg (Value.slice t.m.deps.a t.m.deps.n t.m.deps.cap).ownBlock.toList w0 w) {a : Option Addr} {n cap : Nat} {ds : List Dep} (hv : depL.Buf 84 w base (.slice a n cap) ds) (hl : ds.length ≤ 64) :
  SInv w1 base bt { p with deps := ds } { t with m := { t.m with deps := ⟨a, n, cap⟩ } } xs (w.setCell ⟨bt, 5, none⟩ (.slice a n cap)) := by
 have c : Chg [bt] w (w.setCell ⟨bt, 5, none⟩ (.slice a n cap)) := (Chg.refl _ _).setCell _ _ (.inl (by simp))
 have o2 := h.o2
 exact ⟨Sen.set_deps h.box ⟨a, n, cap⟩, h.nm, h.ch, h.sy, h.en, h.sp, h.secs, h.m, (h0.sg.frame k (rows_ne h0.sg h0.dp (by decide))).frame c (fun i hi hm => by have := (h0.sg.lt i hi).1; simp at hm; omega), (h0.ks.apart h0.dp (by decide) k).low c (by simp; omega), hv.frame c (fun i hi hm => by have := (hv.lt i hi).1; simp at hm; omega), h.o2, Nat.le_trans h.o4 c.size, h.o6, h.l1, hl, h.l3, h.chg.new c h.o6⟩
theorem SMid.seg {w1 w0 w : World} {base bt : Nat} {p : TP} {t : Sen} {xs ys : List Seg} (h : SMid w1 base bt p t w) (h0 : SInv w1 base bt p t xs w0) (k : Chg (Value.slice t.m.segs.a t.m.segs.n t.m.segs.cap).ownBlock.toList w0 w) {a : Option Addr} {n cap : Nat} {q : List SegP} (hv : segL.Buf 73 w base (.slice a n cap) ys) (hq : SecsIn w base ys q) (hl : q.length ≤ 16) :
  SInv w1 base bt { p with segs := q } { t with m := { t.m with segs := ⟨a, n, cap⟩ } } ys (w.setCell ⟨bt, 4, none⟩ (.slice a n cap)) := by
 have c : Chg [bt] w (w.setCell ⟨bt, 4, none⟩ (.slice a n cap)) := (Chg.refl _ _).setCell _ _ (.inl (by simp))
 have o2 := h.o2
 exact ⟨Sen.set_segs h.box ⟨a, n, cap⟩, h.nm, h.ch, h.sy, h.en, h.sp, h.secs, h.m, hv.frame c (fun i hi hm => by have := (hv.lt i hi).1; simp at hm; omega), hq.low c (by simp; omega), (h0.dp.frame k (rows_ne h0.dp h0.sg (by decide))).frame c (fun i hi hm => by have := (h0.dp.lt i hi).1; simp at hm; omega), h.o2, Nat.le_trans h.o4 c.size, h.o6, hl, h.l2, h.l3, h.chg.new c h.o6⟩
theorem Segment5_any (l : List UInt8) (hl : l.length ≤ 140737488355328) (v : Value) (w : World) (rd : byteL.Rd w v l) :
  Calls Tryz.prog 100 #[v] w fun e w' => ∃ s : Seg, e = .returned (.tuple #[segL.val s, .int .i64 (segE l)]) ∧ Chg [] w w' ∧ (segE l = 0 → s = segX l s.secs ∧ secL.Buf 157 w' w.heap.size (.slice s.secs.a s.secs.n s.secs.cap) (secsN l (n4 l 64))) := by
 by_cases h : opE l = 0
 ·by_cases h2 : n4 l 0 = 25
  ·by_cases h3 : l.length < 72 + 80 * n4 l 64
   ·have hE : segE l = 3 := by unfold segE; rw [if_neg (by simp [h]), if_neg (by simp [h2]), if_pos h3]
    rw [hE]
    exact (Segment5_short l h h2 h3 v w rd hl).mono fun e w' ⟨h1, h2⟩ => ⟨_, h1, h2, fun h => absurd h (by decide)⟩
   ·refine (Segment5_main l h h2 h3 v w rd hl).mono ?_
    rintro e w' ⟨s, E, he, hE, hc, hs⟩
    subst hE
    exact ⟨s, he, hc, hs⟩
  ·have hE : segE l = 7 := by unfold segE; rw [if_neg (by simp [h]), if_pos h2]
   rw [hE]
   exact (Segment5_cmd l h h2 v w rd).mono fun e w' ⟨h1, h2⟩ => ⟨_, h1, h2, fun h => absurd h (by decide)⟩
 ·have hE : segE l = 3 := by unfold segE; rw [if_pos h]
  rw [hE]
  exact (Segment5_bad l h v w rd).mono fun e w' ⟨h1, h2⟩ => ⟨_, h1, h2, fun h => absurd h (by decide)⟩
theorem Segment5_fine (l : List UInt8) (hE : segE l = 0) (hl : l.length ≤ 140737488355328) (v : Value) (w : World) (rd : byteL.Rd w v l) :
  Calls Tryz.prog 100 #[v] w (SegOk l w) := by
 refine (Segment5_any l hl v w rd).mono ?_
 rintro e w' ⟨s, he, hc, hs⟩
 rw [hE] at he
 exact ⟨s, he, hc, (hs hE).1, (hs hE).2⟩
theorem once5_any (b j : Nat) (x : Bool) (w : World) (h : w.cell? ⟨b, j, none⟩ = some (.bool x)) (hf : w.frozen? ⟨b, j, none⟩ = false) :
  Calls Tryz.prog 79 #[.pointer (some ⟨b, j, none⟩)] w fun e w' => e = .returned (.bool (!x)) ∧ w' = w.setCell ⟨b, j, none⟩ (.bool true) := by
 go_enter Tryz.func79, Tryz.ntmps79
 go_wp2
 go_ret
 exact ⟨rfl, rfl⟩
theorem Sen.in_tr {w : World} {g : Nat} {t : Sen} (h : senL.Box w g t) : spnL.In w g 14 ⟨t.m.trO, t.m.trS⟩ := fun c hc => by
 have h1 := Sen.c_tr h
 have : c = 0 ∨ c = 1 := by have : spnL.n = 2 := rfl; omega
 rcases this with rfl | rfl
 ·exact h1.1
 ·exact h1.2
set_option maxHeartbeats 4000000 in
theorem trie5_any (x : Spn) (w1 : World) (base bt : Nat) (p : TP) (t : Sen) (xs : List Seg) (w : World) (h : SInv w1 base bt p t xs w) :
  Calls Tryz.prog 102 #[.pointer (some ⟨bt, 0, none⟩), spnL.val x] w (SenSays w1 base bt (trE p x) (trQ p x)) := by
 have htr : t.m.trS = p.m.trS := by rw [← h.m]; rfl
 have H := hY (h)
 clear h
 unfold trE trQ
 by_cases h0 : x.size = 0
 ·rw [if_pos h0, if_pos h0]
  have d1 : (x.size == 0) = true := by rw [h0]; rfl
  have Htr := hY htr
  have H0 := hY h0
  clear htr h0
  go_enter Tryz.func102, Tryz.ntmps102
  go_wp2_with ((with_reducible refine Lay.bxQ (L := spnL) 30 x ?_ ?_); exact rfl)
  refine hY fun W b eb cb xb => ?_
  have H1 := hY (H.out.pure cb.out)
  have y1 := Spn.c_size xb.out
  go_wp2
  go_ret
  exact ⟨rfl, H1.out.chg, fun _ => ⟨_, _, H1.out⟩⟩
 ·rw [if_neg h0, if_neg h0]
  have d1 : (x.size == 0) = false := by rw [beq_eq_false_iff_ne]; exact h0
  by_cases ht : 0 < p.m.trS
  ·rw [if_pos ht]
   have d2 : decide ((0 : Int) < t.m.trS) = true := by rw [htr]; exact decide_eq_true ht
   have Htr := hY htr
   have H0 := hY h0
   have Ht := hY ht
   clear htr h0 ht
   go_enter Tryz.func102, Tryz.ntmps102
   go_wp2_with ((with_reducible refine Lay.bxQ (L := spnL) 30 x ?_ ?_); exact rfl)
   refine hY fun W b eb cb xb => ?_
   have H1 := hY (H.out.pure cb.out)
   have y1 := Spn.c_size xb.out
   have y2 := (Sen.c_tr H1.out.box).2
   go_wp2
   go_ret
   exact ⟨rfl, H1.out.chg, fun h => absurd h (by decide)⟩
  ·rw [if_neg ht]
   have d2 : decide ((0 : Int) < t.m.trS) = false := by rw [htr]; exact decide_eq_false ht
   have Htr := hY htr
   have H0 := hY h0
   have Ht := hY ht
   clear htr h0 ht
   go_enter Tryz.func102, Tryz.ntmps102
   go_wp2_with ((with_reducible refine Lay.bxQ (L := spnL) 30 x ?_ ?_); exact rfl)
   refine hY fun W b eb cb xb => ?_
   have H1 := hY (H.out.pure cb.out)
   have y1 := Spn.c_size xb.out
   have y2 := (Sen.c_tr H1.out.box).2
   go_wp2_with ((with_reducible refine Lay.ldQ Tryz.tSpn x (xb.out.in) ?_ ?_); exact rfl)
   refine hY ?_
   go_wp2_with ((with_reducible refine stAt Tryz.tSpn x (Sen.in_tr H1.out.box) H1.out.box.frozen ?_ ?_ ?_); exact rfl; exact rfl; intro W3 eW3; replace eW3 := hY eW3; refine Hid.out ?_)
   refine hY ?_
   have hc : Chg [bt] W W3 := by rw [eW3.out]; exact Lay.setW_chg _ _ _ _
   have hb : senL.Box W3 bt { t with m := { t.m with trO := x.off, trS := x.size } } := by rw [eW3.out]; exact Sen.set_tr H1.out.box x
   have hq : ({ t.m with trO := x.off, trS := x.size } : Img).bare = { p.m with trO := x.off, trS := x.size } := by rw [← H.out.m]; rfl
   have hf := H1.out.upd hc hb (q := { p with m := { p.m with trO := x.off, trS := x.size } }) H1.out.nm H1.out.ch H1.out.sy H1.out.en H1.out.sp H1.out.secs hq rfl rfl rfl rfl H1.out.l3
   have Hf := hY hf
   clear hf
   clear hc hb hq y1 y2
   go_wp2
   go_ret
   exact ⟨rfl, Hf.out.chg, fun _ => ⟨_, _, Hf.out⟩⟩
set_option linter.unusedSimpArgs false in
set_option maxHeartbeats 8000000 in
theorem segment5_ok (l : List UInt8) (hE : segE l = 0) (hl : l.length ≤ 140737488355328) (v : Value) (w1 : World) (base bt : Nat) (p : TP) (t : Sen) (xs : List Seg) (w : World) (h : SInv w1 base bt p t xs w) (h16 : ¬ p.segs.length = 16) (h64 : p.n + n4 l 64 ≤ 64) (rd : byteL.Rd w v l) :
    Calls Tryz.prog 76 #[.pointer (some ⟨bt, 0, none⟩), v] w (SenSays w1 base bt 0 { p with segs := p.segs ++ [segP l], n := p.n + n4 l 64 }) := by
  have hsg := Segment5_fine l hE hl v w rd
  have hm := segE_ok hE
  have H := hY (h)
  have RD := hY rd
  have Hl := hY hl
  have HSG := hY hsg
  have HE := hY hE
  clear rd hl hsg hE
  clear h
  obtain ⟨N, hN⟩ : ∃ N, N = n4 l 64 := ⟨_, rfl⟩
  rw [← hN] at hm
  try rw [← hN] at h64
  try rw [← hN]
  go_enter Tryz.func76, Tryz.ntmps76
  go_wp2_with fail
  refine (HSG.out).mono ?_
  rintro e W1 ⟨s, rfl, hch, hsx, hsb⟩
  rw [← hN] at hsb
  have H1 := hY (H.out.pure hch)
  have SB1 := hY (hsb.mono H.out.o4)
  have HSX : Hid (s.bare = segX l ⟨none, 0, 0⟩) := hY (by rw [hsx]; rfl)
  have HSN : Hid ((s.secs.n : Int) = (N : Int)) := by
    refine hY ?_
    obtain ⟨_, _, he, _, _⟩ := hsb.rd.shape
    injection he with _ he2 _
    rw [he2, secsN_len]
  have HN := hY hN
  clear hN
  clear hch hsx hsb
  go_wp2_with (with_reducible refine Lay.alQ Tryz.tSg ?_)
  refine hY fun W2 bx ebx cbx xbx => ?_
  go_wp2_with ((with_reducible refine Lay.stQ Tryz.tSg s (xbx.out) ?_ ?_ ?_); exact rfl; exact rfl)
  refine hY fun W3 cW3 xW3 => ?_
  have c13 : Chg [] W1 W3 := cbx.out.new cW3.out (by rw [ebx.out]; exact Nat.le_refl _)
  have hbx : ∀ i ∈ (Value.slice t.m.segs.a t.m.segs.n t.m.segs.cap).ownBlock.toList, i < bx := fun i hi => by rw [ebx.out]; exact (H1.out.sg.lt i (by simpa using hi)).2
  have hbt : bt < bx := by rw [ebx.out]; exact Nat.lt_of_lt_of_le H1.out.o2 H1.out.o4
  have H3 := hY (H1.out.pure c13)
  have SB3 := hY (SB1.out.pure c13)
  have X3 := hY (xW3.out)
  have Hbx := hY hbx
  have Hbt := hY hbt
  clear hbx hbt
  clear c13 SB1
  have hl3 := H3.out.l3
  have y25 := Sen.c_secs (Lay.Box.drew H3.out.box)
  rw [H3.out.secs] at y25
  have z25 := (Lay.Box.drew H3.out.box).frozen 29
  have y6 := Seg.c_secs (Lay.Box.drew X3.out)
  have hsn := HSN.out
  go_upto_region 4 with fail
  refine wp_region_still_tail 11 (by kernel_rfl) (by kernel_rfl) ?_
  simp only [List.take_succ_cons, List.take_zero, List.drop_succ_cons, List.drop_zero]
  change wpStill _ _ W3.drew _ _ _
  repeat still_step
  refine wpStill_nil ?_
  change wpList _ _ _ _ _ W3.drew
  have hw : IntKind.i64.wrap ((p.n : Int) + (N : Int)) = ((p.n + N : Nat) : Int) := by rw [IntKind.wrap_i64]; omega
  rw [hw]
  clear hw
  have hd : Chg [] W3 W3.drew := (Chg.refl _ _).drew
  have HD3 := hY (H3.out.pure hd)
  clear hd
  go_upto_region 5 with fail
  have hc4 : Chg [bt] W3.drew (W3.drew.setCell ⟨bt, 29, none⟩ (.int .i64 ((p.n + N : Nat) : Int))) := (Chg.refl _ _).setCell _ _ (.inl (by simp))
  obtain ⟨p2, hp2⟩ : ∃ p2 : TP, p2 = { p with n := p.n + N } := ⟨_, rfl⟩
  obtain ⟨t2, ht2⟩ : ∃ t2 : Sen, t2 = { t with secs := ((p.n + N : Nat) : Int) } := ⟨_, rfl⟩
  refine Lay.with_world (fun W => SMid w1 base bt p2 t2 W ∧ segL.Buf 73 W base (.slice t2.m.segs.a t2.m.segs.n t2.m.segs.cap) xs ∧ SecsIn W base xs p2.segs ∧ depL.Buf 84 W base (.slice t2.m.deps.a t2.m.deps.n t2.m.deps.cap) p2.deps ∧ segL.Box W bx s ∧ secL.Buf 157 W base (.slice s.secs.a s.secs.n s.secs.cap) (secsN l N)) ?_ (fun W4 hW => ?_)
  · subst hp2 ht2
    have o2 := HD3.out.o2
    refine ⟨⟨Sen.set_secs HD3.out.box _, HD3.out.nm, HD3.out.ch, HD3.out.sy, HD3.out.en, HD3.out.sp, rfl, HD3.out.m, HD3.out.o2, Nat.le_trans HD3.out.o4 hc4.size, HD3.out.o6, HD3.out.l1, HD3.out.l2, ?_, HD3.out.chg.new hc4 HD3.out.o6⟩, HD3.out.sg.frame hc4 (fun i hi hm => by have := (HD3.out.sg.lt i hi).1; simp at hm; omega), HD3.out.ks.low hc4 (by simp; omega), HD3.out.dp.frame hc4 (fun i hi hm => by have := (HD3.out.dp.lt i hi).1; simp at hm; omega), (Lay.Box.drew X3.out).frameS hc4 (by have := Hbt.out; simp; omega), (SB3.out.pure ((Chg.refl _ _).drew)).frame hc4 (fun i hi hm => by have := (SB3.out.lt i hi).1; simp at hm; omega)⟩
    exact h64
  obtain ⟨hM, hS, hK, hD, hX, hB⟩ := hW
  clear hc4 y25 z25 y6 hsn H3 HD3 X3 SB3
  have hTI : SInv w1 base bt p2 t2 xs W4 := ⟨hM.box, hM.nm, hM.ch, hM.sy, hM.en, hM.sp, hM.secs, hM.m, hS, hK, hD, hM.o2, hM.o4, hM.o6, hM.l1, hM.l2, hM.l3, hM.chg⟩
  have Hp2 := hY hp2
  have Ht2 := hY ht2
  clear hp2 ht2
  have HSL : Hid (((t2.m.segs.n : Nat) : Int) = (p.segs.length : Int)) := by
    refine hY ?_
    obtain ⟨_, _, he, _, _⟩ := hS.rd.shape
    injection he with _ he2 _
    rw [he2, hK.1, Hp2.out]
  have y4 := Sen.c_segs hM.box
  have y25 := Sen.c_secs hM.box
  rw [hTI.secs, show p2.n = p.n + N by rw [Hp2.out]] at y25
  have d1 : (((t2.m.segs.n : Nat) : Int) == 16) = false := by rw [HSL.out, beq_eq_false_iff_ne]; omega
  have d2 : decide ((64 : Int) < (p.n : Int) + (N : Int)) = false := decide_eq_false (by omega)
  have hl1 : xs.length < 16 := by have := hTI.l1; have h1 := hK.1; have h2 : p2.segs = p.segs := by rw [Hp2.out]
                                  rw [h2] at this h1; omega
  obtain ⟨own, hown⟩ : ∃ own, own = (Value.slice t2.m.segs.a t2.m.segs.n t2.m.segs.cap).ownBlock := ⟨_, rfl⟩
  have hob : ∀ i ∈ own.toList, i < bx ∧ base ≤ i := fun i hi => by
    have h1 := hi
    rw [hown] at h1
    refine ⟨Hbx.out i ?_, (hS.lt i (by simpa using h1)).1⟩
    rw [show t2.m = t.m by rw [Ht2.out]] at h1
    exact h1
  have TI := hY hTI
  have HX := hY hX
  have HB := hY hB
  have HM := hY hM
  have HS := hY hS
  have HK := hY hK
  have HD := hY hD
  have H64 := hY h64
  have HOB := hY hob
  have HL1 := hY hl1
  have Hown := hY hown
  clear hTI hX hB hM hS hK hD h64 hob hl1 hown
  go_upto_region 7 with fail
  clear y25
  replace y4 := Sen.c_segs (Lay.Box.drew HM.out.box)
  refine wp_region_noPanic ?_
  refine wp_region_held_drew (S := fun w' => Chg (bt :: own.toList) W4 w' ∧ segL.In w' bx 0 s) (by kernel_rfl) ⟨(Chg.refl _ _).drew, (Lay.Box.drew HX.out).in⟩ (fun hHeld => ?_)
  refine tkr 0 ?_ hHeld ?_ ?_
  rotate_left
  · intro w hSw
    go_simp
    try with_reducible rfl
  try simp only [Act.put, aS, aZ, aC]
  refine tkr 1 ?_ hHeld ?_ ?_
  rotate_left
  · intro w hSw
    go_simp
    try with_reducible rfl
  try simp only [Act.put, aS, aZ, aC]
  refine tkr 2 ?_ hHeld ?_ ?_
  rotate_left
  · intro w hSw
    go_simp
    try with_reducible rfl
  try simp only [Act.put, aS, aZ, aC]
  refine tkr 3 ?_ hHeld ?_ ?_
  rotate_left
  · intro w hSw
    go_simp
    try with_reducible rfl
  try simp only [Act.put, aS, aZ, aC]
  refine tkr 4 ?_ hHeld ?_ ?_
  rotate_left
  · intro w hSw
    go_simp
    try with_reducible rfl
  try simp only [Act.put, aS, aZ, aC]
  refine tkr 6 ?_ hHeld ?_ ?_
  rotate_left
  · intro w hSw
    refine Lay.read_ld Tryz.tSg hSw.2 ?_ ?_
    exact rfl
    exact rfl
  try simp only [Act.put, aS, aZ, aC]
  refine wpAnyH_ready (rs := [5, 7]) (by kernel_rfl) (by simp) ?_
  refine AllReadyH.cons rfl (fun K hK => ?_) (AllReadyH.cons rfl (fun K hK => ?_) AllReadyH.nil)
  · go_simp
    refine hK.out _ _ hHeld ?_
    clear hK hHeld K
    intro hHeld
    try (unfold Act.put; simp only [aS, aZ, aC])
    refine wpAnyH_ready (rs := [7]) (by kernel_rfl) (by simp) ?_
    refine AllReadyH.cons (by simp only [gA, gC, gZ]; rfl) (fun K hK => ?_) AllReadyH.nil
    refine Lay.armBs1 rfl _ rfl s (seg_built _) rfl (fun wj g hcj hrj => ?_)
    have J1 := hY hcj
    have JR := hY hrj
    clear hcj hrj
    replace y4 := J1.out.cell y4 (by simp)
    refine hK.out _ _ ⟨hHeld.1.then J1.out, hHeld.2.frame J1.out⟩ ?_
    clear hK hHeld K
    intro hHeld
    try (unfold Act.put; simp only [aS, aZ, aC])
    refine wpAnyH_ready (rs := [8]) (by kernel_rfl) (by simp) ?_
    refine AllReadyH.cons (by simp only [gA, gC, gZ]; rfl) (fun K hK => ?_) AllReadyH.nil
    have DJ : Hid (Chg [] W4 wj) := hY (((Chg.refl [] W4).drew).then J1.out)
    refine Lay.armApp (L := segL) Tryz.infoSeg rfl _ _ rfl base (.slice t2.m.segs.a t2.m.segs.n t2.m.segs.cap) xs rfl (HS.out.pure DJ.out) ⟨g, 0, none⟩ 1 1 rfl [s] JR.out (by have := HL1.out; simp; omega) (by have := HL1.out; simp; omega) (by have := TI.out.o4; have := DJ.out.size; omega) (fun vk wk hok hgr hlc => ?_)
    obtain ⟨a9, c9, rfl, _, _⟩ := hok.rd.shape
    rw [show (xs ++ [s]).length = xs.length + 1 by simp] at hok hlc
    have GR := hY (Lay.chg_grown hgr)
    have TJ := hY (TI.out.pure DJ.out)
    have TK := hY (TJ.out.grew GR.out (grown_ne TJ.out.sg))
    rw [← Hown.out] at GR
    have hnb : bx ∉ own.toList := fun hm => by have := HOB.out bx hm; omega
    have C12 : Hid (Chg (bt :: own.toList) W4 wk) := hY (hHeld.1.same (GR.out.mono (fun i hi _ => List.mem_cons_of_mem _ hi)))
    have XK : Hid (segL.Box wk bx s) := hY ((HX.out.frame DJ.out).frameS GR.out hnb)
    have IF9 := hY (XK.out.in)
    have HF : Hid (SInv w1 base bt { p2 with segs := p2.segs ++ [segP l] } { t2 with m := { t2.m with segs := ⟨a9, xs.length + 1, c9⟩ } } (xs ++ [s]) (wk.setCell ⟨bt, 4, none⟩ (.slice a9 (xs.length + 1) c9))) := by
      refine hY ?_
      refine TK.out.seg TJ.out (by rw [← Hown.out]; exact GR.out) hok ?_ ?_
      · refine SecsIn.snoc (TJ.out.ks.apart TJ.out.sg (by decide) (by rw [← Hown.out]; exact GR.out)) s (segP l) HSX.out ?_
        have hb := (HB.out.pure DJ.out).frame GR.out (fun b hb => by rw [Hown.out]; exact rows_ne (HB.out.pure DJ.out) TJ.out.sg (by decide) b hb)
        rw [HN.out] at hb
        exact hb
      · have h1 := HK.out.1
        have := HL1.out
        simp
        omega
    clear hok hgr hlc y4
    have y4 := Sen.c_segs TK.out.box
    have z4 := TK.out.box.frozen 4
    refine hK.out _ _ ⟨C12.out, IF9.out⟩ ?_
    clear hK hHeld K
    intro hHeld
    try (unfold Act.put; simp only [aS, aZ, aC])
    refine tkr 9 ?_ hHeld ?_ ?_
    rotate_left
    · intro w hSw
      go_simp
      try with_reducible rfl
    try simp only [Act.put, aS, aZ, aC]
    refine tkr 10 ?_ hHeld ?_ ?_
    rotate_left
    · intro w hSw
      go_simp
      try with_reducible rfl
    try simp only [Act.put, aS, aZ, aC]
    refine tkr 11 ?_ hHeld ?_ ?_
    rotate_left
    · intro w hSw
      go_simp
      try with_reducible rfl
    try simp only [Act.put, aS, aZ, aC]
    refine wpAnyH_ready (rs := [12]) (by kernel_rfl) (by simp) ?_
    refine AllReadyH.cons rfl (fun K hK => ?_) AllReadyH.nil
    go_simp
    refine hK.out _ _ ⟨C12.out.setCell _ _ (.inl (by simp)), IF9.out.frameS (S := [bt]) ((Chg.refl _ _).setCell _ _ (.inl (by simp))) (by have := Hbt.out; simp; omega)⟩ ?_
    clear hK hHeld K
    intro hHeld
    try (unfold Act.put; simp only [aS, aZ, aC])
    refine wpAnyH_done (by kernel_rfl) ?_ _
    refine NoPanic.normal ?_
    refine with_exitT (Q := Exit.then _ _ _ _) (fun W => SInv w1 base bt { p2 with segs := p2.segs ++ [segP l] } { t2 with m := { t2.m with segs := ⟨a9, xs.length + 1, c9⟩ } } (xs ++ [s]) W) HF.out (fun WE hW => ?_)
    have TE := hY (hW)
    clear hW hHeld y4 z4 HF
    rw [Hp2.out] at TE
    go_wp2
    go_ret
    exact ⟨rfl, TE.out.chg, fun _ => ⟨_, _, TE.out⟩⟩
  · refine Lay.armBs1 rfl _ rfl s (seg_built _) rfl (fun wj g hcj hrj => ?_)
    have J1 := hY hcj
    have JR := hY hrj
    clear hcj hrj
    replace y4 := J1.out.cell y4 (by simp)
    refine hK.out _ _ ⟨hHeld.1.then J1.out, hHeld.2.frame J1.out⟩ ?_
    clear hK hHeld K
    intro hHeld
    try (unfold Act.put; simp only [aS, aZ, aC])
    refine wpAnyH_ready (rs := [5]) (by kernel_rfl) (by simp) ?_
    refine AllReadyH.cons rfl (fun K hK => ?_) AllReadyH.nil
    go_simp
    refine hK.out _ _ hHeld ?_
    clear hK hHeld K
    intro hHeld
    try (unfold Act.put; simp only [aS, aZ, aC])
    refine wpAnyH_ready (rs := [8]) (by kernel_rfl) (by simp) ?_
    refine AllReadyH.cons (by simp only [gA, gC, gZ]; rfl) (fun K hK => ?_) AllReadyH.nil
    have DJ : Hid (Chg [] W4 wj) := hY (((Chg.refl [] W4).drew).then J1.out)
    refine Lay.armApp (L := segL) Tryz.infoSeg rfl _ _ rfl base (.slice t2.m.segs.a t2.m.segs.n t2.m.segs.cap) xs rfl (HS.out.pure DJ.out) ⟨g, 0, none⟩ 1 1 rfl [s] JR.out (by have := HL1.out; simp; omega) (by have := HL1.out; simp; omega) (by have := TI.out.o4; have := DJ.out.size; omega) (fun vk wk hok hgr hlc => ?_)
    obtain ⟨a9, c9, rfl, _, _⟩ := hok.rd.shape
    rw [show (xs ++ [s]).length = xs.length + 1 by simp] at hok hlc
    have GR := hY (Lay.chg_grown hgr)
    have TJ := hY (TI.out.pure DJ.out)
    have TK := hY (TJ.out.grew GR.out (grown_ne TJ.out.sg))
    rw [← Hown.out] at GR
    have hnb : bx ∉ own.toList := fun hm => by have := HOB.out bx hm; omega
    have C12 : Hid (Chg (bt :: own.toList) W4 wk) := hY (hHeld.1.same (GR.out.mono (fun i hi _ => List.mem_cons_of_mem _ hi)))
    have XK : Hid (segL.Box wk bx s) := hY ((HX.out.frame DJ.out).frameS GR.out hnb)
    have IF9 := hY (XK.out.in)
    have HF : Hid (SInv w1 base bt { p2 with segs := p2.segs ++ [segP l] } { t2 with m := { t2.m with segs := ⟨a9, xs.length + 1, c9⟩ } } (xs ++ [s]) (wk.setCell ⟨bt, 4, none⟩ (.slice a9 (xs.length + 1) c9))) := by
      refine hY ?_
      refine TK.out.seg TJ.out (by rw [← Hown.out]; exact GR.out) hok ?_ ?_
      · refine SecsIn.snoc (TJ.out.ks.apart TJ.out.sg (by decide) (by rw [← Hown.out]; exact GR.out)) s (segP l) HSX.out ?_
        have hb := (HB.out.pure DJ.out).frame GR.out (fun b hb => by rw [Hown.out]; exact rows_ne (HB.out.pure DJ.out) TJ.out.sg (by decide) b hb)
        rw [HN.out] at hb
        exact hb
      · have h1 := HK.out.1
        have := HL1.out
        simp
        omega
    clear hok hgr hlc y4
    have y4 := Sen.c_segs TK.out.box
    have z4 := TK.out.box.frozen 4
    refine hK.out _ _ ⟨C12.out, IF9.out⟩ ?_
    clear hK hHeld K
    intro hHeld
    try (unfold Act.put; simp only [aS, aZ, aC])
    refine tkr 9 ?_ hHeld ?_ ?_
    rotate_left
    · intro w hSw
      go_simp
      try with_reducible rfl
    try simp only [Act.put, aS, aZ, aC]
    refine tkr 10 ?_ hHeld ?_ ?_
    rotate_left
    · intro w hSw
      go_simp
      try with_reducible rfl
    try simp only [Act.put, aS, aZ, aC]
    refine tkr 11 ?_ hHeld ?_ ?_
    rotate_left
    · intro w hSw
      go_simp
      try with_reducible rfl
    try simp only [Act.put, aS, aZ, aC]
    refine wpAnyH_ready (rs := [12]) (by kernel_rfl) (by simp) ?_
    refine AllReadyH.cons rfl (fun K hK => ?_) AllReadyH.nil
    go_simp
    refine hK.out _ _ ⟨C12.out.setCell _ _ (.inl (by simp)), IF9.out.frameS (S := [bt]) ((Chg.refl _ _).setCell _ _ (.inl (by simp))) (by have := Hbt.out; simp; omega)⟩ ?_
    clear hK hHeld K
    intro hHeld
    try (unfold Act.put; simp only [aS, aZ, aC])
    refine wpAnyH_done (by kernel_rfl) ?_ _
    refine NoPanic.normal ?_
    refine with_exitT (Q := Exit.then _ _ _ _) (fun W => SInv w1 base bt { p2 with segs := p2.segs ++ [segP l] } { t2 with m := { t2.m with segs := ⟨a9, xs.length + 1, c9⟩ } } (xs ++ [s]) W) HF.out (fun WE hW => ?_)
    have TE := hY (hW)
    clear hW hHeld y4 z4 HF
    rw [Hp2.out] at TE
    go_wp2
    go_ret
    exact ⟨rfl, TE.out.chg, fun _ => ⟨_, _, TE.out⟩⟩
set_option maxHeartbeats 8000000 in
theorem segment5_16 (l : List UInt8) (hE : segE l = 0) (hl : l.length ≤ 140737488355328) (v : Value) (w1 : World) (base bt : Nat) (p q : TP) (t : Sen) (xs : List Seg) (w : World) (h : SInv w1 base bt p t xs w) (h16 : p.segs.length = 16) (rd : byteL.Rd w v l) :
  Calls Tryz.prog 76 #[.pointer (some ⟨bt, 0, none⟩), v] w (SenSays w1 base bt 11 q) := by
 have hsg := Segment5_fine l hE hl v w rd
 have h64 : True := trivial
 have hsl : ((t.m.segs.n : Nat) : Int) = 16 := by
  obtain ⟨_, _, he, _, _⟩ := h.sg.rd.shape
  injection he with _ he2 _
  rw [he2, h.ks.1, h16]
  rfl
 have d1 : (((t.m.segs.n : Nat) : Int) == 16) = true := by rw [hsl]; rfl
 have H16 := hY h16
 have Hsl := hY hsl
 clear h16 hsl
 have hm := segE_ok hE
 have H := hY (h)
 have RD := hY rd
 have Hl := hY hl
 have HSG := hY hsg
 have HE := hY hE
 clear rd hl hsg hE
 clear h
 obtain ⟨N, hN⟩ : ∃ N, N = n4 l 64 := ⟨_, rfl⟩
 rw [← hN] at hm
 try rw [← hN] at h64
 try rw [← hN]
 go_enter Tryz.func76, Tryz.ntmps76
 go_wp2_with fail
 refine (HSG.out).mono ?_
 rintro e W1 ⟨s, rfl, hch, hsx, hsb⟩
 rw [← hN] at hsb
 have H1 := hY (H.out.pure hch)
 have SB1 := hY (hsb.mono H.out.o4)
 have HSX : Hid (s.bare = segX l ⟨none, 0, 0⟩) := hY (by rw [hsx]; rfl)
 have HSN : Hid ((s.secs.n : Int) = (N : Int)) := by
  refine hY ?_
  obtain ⟨_, _, he, _, _⟩ := hsb.rd.shape
  injection he with _ he2 _
  rw [he2, secsN_len]
 have HN := hY hN
 clear hN
 clear hch hsx hsb
 go_wp2_with (with_reducible refine Lay.alQ Tryz.tSg ?_)
 refine hY fun W2 bx ebx cbx xbx => ?_
 go_wp2_with ((with_reducible refine Lay.stQ Tryz.tSg s (xbx.out) ?_ ?_ ?_); exact rfl; exact rfl)
 refine hY fun W3 cW3 xW3 => ?_
 have c13 : Chg [] W1 W3 := cbx.out.new cW3.out (by rw [ebx.out]; exact Nat.le_refl _)
 have hbx : ∀ i ∈ (Value.slice t.m.segs.a t.m.segs.n t.m.segs.cap).ownBlock.toList, i < bx := fun i hi => by rw [ebx.out]; exact (H1.out.sg.lt i (by simpa using hi)).2
 have hbt : bt < bx := by rw [ebx.out]; exact Nat.lt_of_lt_of_le H1.out.o2 H1.out.o4
 have H3 := hY (H1.out.pure c13)
 have SB3 := hY (SB1.out.pure c13)
 have X3 := hY (xW3.out)
 have Hbx := hY hbx
 have Hbt := hY hbt
 clear hbx hbt
 clear c13 SB1
 have hl3 := H3.out.l3
 have y25 := Sen.c_secs (Lay.Box.drew H3.out.box)
 rw [H3.out.secs] at y25
 have z25 := (Lay.Box.drew H3.out.box).frozen 29
 have y6 := Seg.c_secs (Lay.Box.drew X3.out)
 have hsn := HSN.out
 go_upto_region 4 with fail
 refine wp_region_still_tail 11 (by kernel_rfl) (by kernel_rfl) ?_
 simp only [List.take_succ_cons, List.take_zero, List.drop_succ_cons, List.drop_zero]
 change wpStill _ _ W3.drew _ _ _
 repeat still_step
 refine wpStill_nil ?_
 change wpList _ _ _ _ _ W3.drew
 have hw : IntKind.i64.wrap ((p.n : Int) + (N : Int)) = ((p.n + N : Nat) : Int) := by rw [IntKind.wrap_i64]; omega
 rw [hw]
 clear hw
 have hd : Chg [] W3 W3.drew := (Chg.refl _ _).drew
 have HD3 := hY (H3.out.pure hd)
 clear hd
 go_upto_region 5 with fail
 have hc4 : Chg [bt] W3.drew (W3.drew.setCell ⟨bt, 29, none⟩ (.int .i64 ((p.n + N : Nat) : Int))) := (Chg.refl _ _).setCell _ _ (.inl (by simp))
 refine Lay.with_world (fun W => senL.Box W bt { t with secs := ((p.n + N : Nat) : Int) } ∧ Chg [] w1 W) ⟨Sen.set_secs HD3.out.box _, HD3.out.chg.new hc4 HD3.out.o6⟩ (fun W4 hW => ?_)
 have CE := hY (hW.2)
 have y4 := Sen.c_segs hW.1
 clear hc4 y25 z25 y6 hsn hW
 go_wp2
 go_ret
 exact ⟨rfl, CE.out, fun h => absurd h (by decide)⟩
set_option maxHeartbeats 8000000 in
theorem segment5_64 (l : List UInt8) (hE : segE l = 0) (hl : l.length ≤ 140737488355328) (v : Value) (w1 : World) (base bt : Nat) (p q : TP) (t : Sen) (xs : List Seg) (w : World) (h : SInv w1 base bt p t xs w) (h16 : ¬ p.segs.length = 16) (h64 : 64 < p.n + n4 l 64) (rd : byteL.Rd w v l) :
  Calls Tryz.prog 76 #[.pointer (some ⟨bt, 0, none⟩), v] w (SenSays w1 base bt 11 q) := by
 have hsg := Segment5_fine l hE hl v w rd
 have hsl : ((t.m.segs.n : Nat) : Int) = (p.segs.length : Int) := by
  obtain ⟨_, _, he, _, _⟩ := h.sg.rd.shape
  injection he with _ he2 _
  rw [he2, h.ks.1]
 have d1 : (((t.m.segs.n : Nat) : Int) == 16) = false := by rw [hsl, beq_eq_false_iff_ne]; omega
 have H16 := hY h16
 have Hsl := hY hsl
 clear h16 hsl
 have hm := segE_ok hE
 have H := hY (h)
 have RD := hY rd
 have Hl := hY hl
 have HSG := hY hsg
 have HE := hY hE
 clear rd hl hsg hE
 clear h
 obtain ⟨N, hN⟩ : ∃ N, N = n4 l 64 := ⟨_, rfl⟩
 rw [← hN] at hm
 try rw [← hN] at h64
 try rw [← hN]
 go_enter Tryz.func76, Tryz.ntmps76
 go_wp2_with fail
 refine (HSG.out).mono ?_
 rintro e W1 ⟨s, rfl, hch, hsx, hsb⟩
 rw [← hN] at hsb
 have H1 := hY (H.out.pure hch)
 have SB1 := hY (hsb.mono H.out.o4)
 have HSX : Hid (s.bare = segX l ⟨none, 0, 0⟩) := hY (by rw [hsx]; rfl)
 have HSN : Hid ((s.secs.n : Int) = (N : Int)) := by
  refine hY ?_
  obtain ⟨_, _, he, _, _⟩ := hsb.rd.shape
  injection he with _ he2 _
  rw [he2, secsN_len]
 have HN := hY hN
 clear hN
 clear hch hsx hsb
 go_wp2_with (with_reducible refine Lay.alQ Tryz.tSg ?_)
 refine hY fun W2 bx ebx cbx xbx => ?_
 go_wp2_with ((with_reducible refine Lay.stQ Tryz.tSg s (xbx.out) ?_ ?_ ?_); exact rfl; exact rfl)
 refine hY fun W3 cW3 xW3 => ?_
 have c13 : Chg [] W1 W3 := cbx.out.new cW3.out (by rw [ebx.out]; exact Nat.le_refl _)
 have hbx : ∀ i ∈ (Value.slice t.m.segs.a t.m.segs.n t.m.segs.cap).ownBlock.toList, i < bx := fun i hi => by rw [ebx.out]; exact (H1.out.sg.lt i (by simpa using hi)).2
 have hbt : bt < bx := by rw [ebx.out]; exact Nat.lt_of_lt_of_le H1.out.o2 H1.out.o4
 have H3 := hY (H1.out.pure c13)
 have SB3 := hY (SB1.out.pure c13)
 have X3 := hY (xW3.out)
 have Hbx := hY hbx
 have Hbt := hY hbt
 clear hbx hbt
 clear c13 SB1
 have hl3 := H3.out.l3
 have y25 := Sen.c_secs (Lay.Box.drew H3.out.box)
 rw [H3.out.secs] at y25
 have z25 := (Lay.Box.drew H3.out.box).frozen 29
 have y6 := Seg.c_secs (Lay.Box.drew X3.out)
 have hsn := HSN.out
 go_upto_region 4 with fail
 refine wp_region_still_tail 11 (by kernel_rfl) (by kernel_rfl) ?_
 simp only [List.take_succ_cons, List.take_zero, List.drop_succ_cons, List.drop_zero]
 change wpStill _ _ W3.drew _ _ _
 repeat still_step
 refine wpStill_nil ?_
 change wpList _ _ _ _ _ W3.drew
 have hw : IntKind.i64.wrap ((p.n : Int) + (N : Int)) = ((p.n + N : Nat) : Int) := by rw [IntKind.wrap_i64]; omega
 rw [hw]
 clear hw
 have hd : Chg [] W3 W3.drew := (Chg.refl _ _).drew
 have HD3 := hY (H3.out.pure hd)
 clear hd
 go_upto_region 5 with fail
 have d2 : decide ((64 : Int) < (p.n : Int) + (N : Int)) = true := decide_eq_true (by omega)
 have hc4 : Chg [bt] W3.drew (W3.drew.setCell ⟨bt, 29, none⟩ (.int .i64 ((p.n + N : Nat) : Int))) := (Chg.refl _ _).setCell _ _ (.inl (by simp))
 refine Lay.with_world (fun W => senL.Box W bt { t with secs := ((p.n + N : Nat) : Int) } ∧ Chg [] w1 W) ⟨Sen.set_secs HD3.out.box _, HD3.out.chg.new hc4 HD3.out.o6⟩ (fun W4 hW => ?_)
 have CE := hY (hW.2)
 clear y25
 have y4 := Sen.c_segs hW.1
 have y25 := Sen.c_secs hW.1
 clear hc4 z25 y6 hsn hW
 go_wp2
 go_ret
 exact ⟨rfl, CE.out, fun h => absurd h (by decide)⟩
theorem segment5_bad (l : List UInt8) (hE : ¬ segE l = 0) (hl : l.length ≤ 140737488355328) (v : Value) (w1 : World) (base bt : Nat) (p q : TP) (t : Sen) (xs : List Seg) (w : World) (h : SInv w1 base bt p t xs w) (rd : byteL.Rd w v l) :
  Calls Tryz.prog 76 #[.pointer (some ⟨bt, 0, none⟩), v] w (SenSays w1 base bt (segE l) q) := by
 have hsg := Segment5_any l hl v w rd
 obtain ⟨E, hEE⟩ : ∃ E, E = segE l := ⟨_, rfl⟩
 rw [← hEE] at hE hsg ⊢
 have d0 : (E != 0) = true := by rw [bne_iff_ne]; exact hE
 have H := hY (h)
 have RD := hY rd
 have Hl := hY hl
 have HSG := hY hsg
 have HE := hY hE
 have HEE := hY hEE
 clear rd hl hsg hE hEE
 clear h
 go_enter Tryz.func76, Tryz.ntmps76
 go_wp2_with fail
 refine (HSG.out).mono ?_
 rintro e W1 ⟨s, rfl, hch, _⟩
 have H1 := hY (H.out.pure hch)
 clear hch
 go_wp2_with (with_reducible refine Lay.alQ Tryz.tSg ?_)
 refine hY fun W2 bx ebx cbx xbx => ?_
 go_wp2_with ((with_reducible refine Lay.stQ Tryz.tSg s (xbx.out) ?_ ?_ ?_); exact rfl; exact rfl)
 refine hY fun W3 cW3 xW3 => ?_
 have c13 : Chg [] W1 W3 := cbx.out.new cW3.out (by rw [ebx.out]; exact Nat.le_refl _)
 have H3 := hY (H1.out.pure c13)
 clear c13
 go_wp2
 go_ret
 exact ⟨rfl, H3.out.chg, fun h => absurd h HE.out⟩
theorem segment5_any (l : List UInt8) (hl : l.length ≤ 140737488355328) (v : Value) (w1 : World) (base bt : Nat) (p : TP) (t : Sen) (xs : List Seg) (w : World) (h : SInv w1 base bt p t xs w) (rd : byteL.Rd w v l) :
  Calls Tryz.prog 76 #[.pointer (some ⟨bt, 0, none⟩), v] w (SenSays w1 base bt (sgtE p l) { p with segs := p.segs ++ [segP l], n := p.n + n4 l 64 }) := by
 unfold sgtE
 by_cases hE : segE l = 0
 ·rw [if_pos hE]
  by_cases h16 : p.segs.length = 16
  ·rw [if_pos (.inl h16)]
   exact segment5_16 l hE hl v w1 base bt p _ t xs w h h16 rd
  ·by_cases h64 : 64 < p.n + n4 l 64
   ·rw [if_pos (.inr h64)]
    exact segment5_64 l hE hl v w1 base bt p _ t xs w h h16 h64 rd
   ·rw [if_neg (by omega)]
    exact segment5_ok l hE hl v w1 base bt p t xs w h h16 (by omega) rd
 ·rw [if_neg hE]
  exact segment5_bad l hE hl v w1 base bt p _ t xs w h rd
end Go.Proofs.YtiljokmkiolpgaaGreatDoor
