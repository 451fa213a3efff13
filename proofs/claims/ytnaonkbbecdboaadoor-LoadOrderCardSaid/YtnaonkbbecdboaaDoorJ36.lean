/- Lemmas, laid together: part 36 of 39. Conditions: none but each lemma's own. -/
import Derived.Test.YtnaonkbbecdboaaDoorJ35
import Derived.Test.YtnaonkbbecdboaaDoorJ19
/- The document's Segment (of layer 5). -/
namespace Go.Proofs.YtnaonkbbecdboaaDoor
open Go.RowKit
set_option maxRecDepth 100000

theorem opE_3 {l : List UInt8} (h : ¬ opE l = 0) : opE l = 3 := by
  unfold opE at h ⊢
  split
  · rfl
  · split
    · rfl
    · rename_i h1 h2; rw [if_neg h1, if_neg h2] at h; exact absurd rfl h
set_option maxHeartbeats 4000000 in
theorem Segment5_bad (l : List UInt8) (h : ¬ opE l = 0) (v : Value) (w : World) (rd : byteL.Rd w v l) :
    Calls Tryd.prog 8 #[v] w fun e w' => e = .returned (.tuple #[segL.val segL.d, .int .i64 3]) ∧ Chg [] w w' := by
  have HCM := Lib.hid (fun w rd => (opE_3 h) ▸ Cmd5_any l v w rd)
  have H := Lib.hid h
  have RD := Lib.hid rd
  clear h rd
  go_enter Tryd.func8, Tryd.ntmps8
  go_wp2_with ((with_reducible refine Lay.alL Tryd.tSg ?_); intro Wa ba eba cba xba; replace eba := Lib.hid eba; replace cba := Lib.hid cba; replace xba := Lib.hid xba; refine Hid.out ?_)
  refine Lib.hid ?_
  go_wp2_with fail
  refine (HCM.out _ (RD.out.frame cba.out)).mono ?_
  rintro e W ⟨rfl, rfl⟩
  go_wp2_with ((with_reducible refine Lay.stL Tryd.tSg (segL.d) (xba.out) ?_ ?_ ?_); exact rfl; exact rfl; intro W2 cW2 xW2; replace cW2 := Lib.hid cW2; replace xW2 := Lib.hid xW2; refine Hid.out ?_)
  refine Lib.hid ?_
  go_wp2
  refine Lay.ret2 Tryd.tSg rfl xW2.out rfl rfl ?_
  exact ⟨rfl, cba.out.new cW2.out (by rw [eba.out]; exact Nat.le_refl _)⟩
set_option maxHeartbeats 4000000 in
theorem Segment5_cmd (l : List UInt8) (h : opE l = 0) (h2 : n4 l 0 ≠ 25) (v : Value) (w : World) (rd : byteL.Rd w v l) :
    Calls Tryd.prog 8 #[v] w fun e w' => e = .returned (.tuple #[segL.val segL.d, .int .i64 7]) ∧ Chg [] w w' := by
  have hcm := fun w rd => h ▸ Cmd5_any l v w rd
  rw [show cmdN l = n4 l 0 by unfold cmdN; rw [if_neg (by have := (opE_len h).1; omega)]] at hcm
  have d2 : (((n4 l 0 : Nat) : Int) != 25) = true := by rw [bne_iff_ne]; omega
  have H := Lib.hid h
  have RD := Lib.hid rd
  have HCM := Lib.hid hcm
  have H2 := Lib.hid h2
  clear h rd hcm h2
  go_enter Tryd.func8, Tryd.ntmps8
  go_wp2_with ((with_reducible refine Lay.alL Tryd.tSg ?_); intro Wa ba eba cba xba; replace eba := Lib.hid eba; replace cba := Lib.hid cba; replace xba := Lib.hid xba; refine Hid.out ?_)
  refine Lib.hid ?_
  go_wp2_with fail
  refine (HCM.out _ (RD.out.frame cba.out)).mono ?_
  rintro e W ⟨rfl, rfl⟩
  go_wp2_with ((with_reducible refine Lay.stL Tryd.tSg (segL.d) (xba.out) ?_ ?_ ?_); exact rfl; exact rfl; intro W2 cW2 xW2; replace cW2 := Lib.hid cW2; replace xW2 := Lib.hid xW2; refine Hid.out ?_)
  refine Lib.hid ?_
  go_wp2
  refine Lay.ret2 Tryd.tSg rfl xW2.out rfl rfl ?_
  exact ⟨rfl, cba.out.new cW2.out (by rw [eba.out]; exact Nat.le_refl _)⟩
set_option maxHeartbeats 8000000 in
theorem Segment5_short (l : List UInt8) (h : opE l = 0) (h2 : n4 l 0 = 25) (h3 : l.length < 72 + 80 * n4 l 64) (v : Value) (w : World) (rd : byteL.Rd w v l) (hl : l.length ≤ 140737488355328) :
    Calls Tryd.prog 8 #[v] w fun e w' => e = .returned (.tuple #[segL.val segL.d, .int .i64 3]) ∧ Chg [] w w' := by
  have d3 : decide (((l.length : Int) - 72) / 80 < (n4 l 64 : Int)) = true := decide_eq_true (by omega)
  have H3 := Lib.hid h3
  clear h3
  have h72 : 72 ≤ l.length := by have := (opE_len h).2; rw [h2] at this; have h3 : leastF ((25 : Nat) : Int) = 72 := by decide
                                 omega
  have hcm := fun w rd => h ▸ Cmd5_any l v w rd
  rw [show cmdN l = 25 by unfold cmdN; rw [if_neg (by omega), h2]] at hcm
  have hf8 := fun w rd => field5_any l 8 (by omega) v w rd
  have ha := fun (p : Nat) (hp : p + 8 ≤ l.length) w rd => at5_any l p 8 (by decide) (by decide) hp v w rd
  have ha4 := fun (p : Nat) (hp : p + 4 ≤ l.length) w rd => at5_any l p 4 (by decide) (by decide) hp v w rd
  have A24 := Lib.hid (fun w rd => ha 24 (by omega) w rd)
  have A32 := Lib.hid (fun w rd => ha 32 (by omega) w rd)
  have A40 := Lib.hid (fun w rd => ha 40 (by omega) w rd)
  have A48 := Lib.hid (fun w rd => ha 48 (by omega) w rd)
  have A60 := Lib.hid (fun w rd => ha4 60 (by omega) w rd)
  have A64 := Lib.hid (fun w rd => ha4 64 (by omega) w rd)
  have hm := n4_lt l 64
  have hmp := n4_lt l 60
  obtain ⟨a, cap, rfl, hc1, hc2⟩ := rd.shape
  have H := Lib.hid h
  have RD := Lib.hid rd
  have HCM := Lib.hid hcm
  have H2 := Lib.hid h2
  have F8 := Lib.hid hf8
  have Ha := Lib.hid ha
  have Ha4 := Lib.hid ha4
  clear h rd hcm h2 hf8 ha ha4
  go_enter Tryd.func8, Tryd.ntmps8
  go_wp2_with ((with_reducible refine Lay.alL Tryd.tSg ?_); intro Wa ba eba cba xba; replace eba := Lib.hid eba; replace cba := Lib.hid cba; replace xba := Lib.hid xba; refine Hid.out ?_)
  refine Lib.hid ?_
  go_wp2_with fail
  refine (HCM.out _ (RD.out.frame cba.out)).mono ?_
  rintro e W ⟨rfl, rfl⟩
  go_wp2_with fail
  refine (F8.out _ (RD.out.frame cba.out)).mono ?_
  rintro e W ⟨rfl, rfl⟩
  go_wp2_with fail
  refine (A24.out _ (RD.out.frame cba.out)).mono ?_
  rintro e W ⟨rfl, rfl⟩
  go_wp2_with fail
  refine (A32.out _ (RD.out.frame cba.out)).mono ?_
  rintro e W ⟨rfl, rfl⟩
  go_wp2_with fail
  refine (A40.out _ (RD.out.frame cba.out)).mono ?_
  rintro e W ⟨rfl, rfl⟩
  go_wp2_with fail
  refine (A48.out _ (RD.out.frame cba.out)).mono ?_
  rintro e W ⟨rfl, rfl⟩
  go_wp2_with fail
  refine (A60.out _ (RD.out.frame cba.out)).mono ?_
  rintro e W ⟨rfl, rfl⟩
  rw [show leNum ((l.drop 24).take 8) = n8 l 24 from rfl, show leNum ((l.drop 32).take 8) = n8 l 32 from rfl, show leNum ((l.drop 40).take 8) = n8 l 40 from rfl, show leNum ((l.drop 48).take 8) = n8 l 48 from rfl, show leNum ((l.drop 60).take 4) = n4 l 60 from rfl]
  go_wp2_with ((with_reducible refine Lay.alL Tryd.tSg ?_); intro Wb bs ebs cbs xbs; replace ebs := Lib.hid ebs; replace cbs := Lib.hid cbs; replace xbs := Lib.hid xbs; refine Hid.out ?_)
  refine Lib.hid ?_
  go_wp2_with ((with_reducible refine Lay.stL Tryd.tSg (segX l ⟨none, 0, 0⟩) (xbs.out) ?_ ?_ ?_); exact rfl; exact rfl; intro V5 cV5 xV5; replace cV5 := Lib.hid cV5; replace xV5 := Lib.hid xV5; refine Hid.out ?_)
  refine Lib.hid ?_
  have hbs : ba < bs := by rw [ebs.out]; exact xba.out.lt
  have XA5 := Lib.hid ((xba.out.frame cbs.out).frameS cV5.out (by simp; omega))
  have C5 := Lib.hid ((cba.out.then cbs.out).new cV5.out (by have := cba.out.size; rw [ebs.out]; omega))
  have R5 := Lib.hid (RD.out.frame C5.out)
  go_wp2_with fail
  refine (A64.out _ R5.out).mono ?_
  rintro e W ⟨rfl, rfl⟩
  rw [show leNum ((l.drop 64).take 4) = n4 l 64 from rfl]
  obtain ⟨N, hN⟩ : ∃ N, N = n4 l 64 := ⟨_, rfl⟩
  rw [← hN] at hm ⊢
  rw [← hN] at d3
  have HN := Lib.hid hN
  clear hN
  go_wp2_with ((with_reducible refine Lay.stL Tryd.tSg (segL.d) (XA5.out) ?_ ?_ ?_); exact rfl; exact rfl; intro WE cWE xWE; replace cWE := Lib.hid cWE; replace xWE := Lib.hid xWE; refine Hid.out ?_)
  refine Lib.hid ?_
  go_wp2
  refine Lay.ret2 Tryd.tSg rfl xWE.out rfl rfl ?_
  exact ⟨rfl, C5.out.new cWE.out (by rw [eba.out]; exact Nat.le_refl _)⟩
/-- The state of the document's loop over sections. -/
structure Sg5 (w0 : World) (B ba bs : Nat) (x : Seg) (ks : List Sec) (wr : World) : Prop where
  bx : segL.Box wr bs x
  bf : secL.Buf 77 wr B (.slice x.secs.a x.secs.n x.secs.cap) ks
  ra : segL.Box wr ba segL.d
  sz : B ≤ wr.heap.size
  chg : Chg [] w0 wr
theorem Sg5.pure {w0 : World} {B ba bs : Nat} {x : Seg} {ks : List Sec} {w w' : World} (h : Sg5 w0 B ba bs x ks w) (k : Chg [] w w') : Sg5 w0 B ba bs x ks w' :=
  ⟨h.bx.frame k, h.bf.pure k, h.ra.frame k, Nat.le_trans h.sz k.size, h.chg.then k⟩
structure Sg5G (w0 : World) (B ba bs : Nat) (x : Seg) (wr : World) : Prop where
  bx : segL.Box wr bs x
  ra : segL.Box wr ba segL.d
  sz : B ≤ wr.heap.size
  chg : Chg [] w0 wr
theorem Sg5.grew {w0 : World} {B ba bs : Nat} {x : Seg} {ks : List Sec} {w w' : World} (h : Sg5 w0 B ba bs x ks w) (g : w.grownBy w' (Value.slice x.secs.a x.secs.n x.secs.cap).ownBlock) (h1 : ba < bs) (h3 : bs < B) (h0 : w0.heap.size ≤ ba) : Sg5G w0 B ba bs x w' := by
  have k := Lay.chg_grown g
  have hb : ∀ i ∈ (Value.slice x.secs.a x.secs.n x.secs.cap).ownBlock.toList, B ≤ i := fun i hi => (h.bf.lt i (by simpa using hi)).1
  exact ⟨h.bx.frameS k (fun hm => by have := hb _ hm; omega), h.ra.frameS k (fun hm => by have := hb _ hm; omega), Nat.le_trans h.sz k.size, h.chg.trans k (fun i hi hw => by have := hb i hi; omega)⟩
theorem Sg5.app {w0 : World} {B ba bs : Nat} {l : List UInt8} {sv : SlV} {ks : List Sec} {w : World} {a : Option Addr} {n cap : Nat} (h : Sg5G w0 B ba bs (segX l sv) w) (hv : secL.Buf 77 w B (.slice a n cap) ks) (h1 : ba < bs) (h3 : bs < B) (h0 : w0.heap.size ≤ ba) : Sg5 w0 B ba bs (segX l ⟨a, n, cap⟩) ks (w.setCell ⟨bs, 6, none⟩ (.slice a n cap)) := by
  have k : Chg [bs] w (w.setCell ⟨bs, 6, none⟩ (.slice a n cap)) := (Chg.refl _ _).setCell _ _ (.inl (by simp))
  exact ⟨Seg.set_secs h.bx ⟨a, n, cap⟩, hv.frame k (fun i hi hm => by have := (hv.lt i hi).1; simp at hm; omega), h.ra.frameS k (by simp; omega), Nat.le_trans h.sz k.size, h.chg.new k (by omega)⟩
theorem sub_take (l : List UInt8) (p q m : Nat) (h : q + m ≤ 80) : ((((l.drop p).take 80).drop q).take m) = (l.drop (p + q)).take m := by
  rw [List.drop_take, List.take_take, List.drop_drop, Nat.min_eq_left (by omega)]
theorem low_byte (l : List UInt8) (q : Nat) (h : q + 4 ≤ l.length) : n4 l q % 256 = (l.getD q 0).toNat := by
  unfold n4
  rw [List.drop_eq_getElem_cons (by omega : q < l.length), List.take_succ_cons]
  show (l[q].toNat + 256 * leNum ((l.drop (q + 1)).take 3)) % 256 = _
  have h1 := l[q].toNat_lt
  simp [List.getD_eq_getElem?_getD, (by omega : q < l.length)]
end Go.Proofs.YtnaonkbbecdboaaDoor
