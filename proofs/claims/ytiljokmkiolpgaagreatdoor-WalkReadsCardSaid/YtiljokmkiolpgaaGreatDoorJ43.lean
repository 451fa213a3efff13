/- Lemmas, laid together: part 43 of 42. Conditions: none but each lemma's own. -/
import Derived.Test.YtiljokmkiolpgaaGreatDoorJ34
import Derived.Test.YtiljokmkiolpgaaGreatDoorJ42
import Derived.Test.YtiljokmkiolpgaaGreatDoorJ10
import Derived.Test.YtiljokmkiolpgaaGreatDoorJ11
import Derived.Test.YtiljokmkiolpgaaGreatDoorJ1
namespace Go.Proofs.YtiljokmkiolpgaaGreatDoor
open Go.RowKit
set_option maxRecDepth 100000
def fxsA (r : ChR (List Fx)) : List Fx := match r with | .ok a => a | .bad _ => []
def fxsN (r : ChR (List Fx)) : Int := match r with | .ok _ => 0 | .bad n => n
theorem fxs_uni {w : World} {r : ChR (List Fx)} {e : Ending} {w' : World} (h : FxsP w r e w') : Chg [] w w' ∧ ∃ sl : SlV, e = .returned (.tuple #[.slice sl.a sl.n sl.cap, .int .i64 (fxsN r)]) ∧ fxl.Rd w' (.slice sl.a sl.n sl.cap) (fxsA r) ∧ (fxsA r).length ≤ 20000 := by
 obtain ⟨h1, h2⟩ := h
 refine ⟨h1, ?_⟩
 cases r with
 | ok a =>
  obtain ⟨sl, he, hb, hl⟩ := h2
  exact ⟨sl, he, hb.rd, hl⟩
 | bad n => exact ⟨⟨none, 0, 0⟩, h2, Lay.Rd.nil _, Nat.zero_le _⟩
set_option maxHeartbeats 4000000 in
theorem WalkReads_big (W : World) (l : List UInt8) (a : Option Addr) (cap : Nat) (h : 60000 < l.length) :
  Calls Tryz.prog 3 #[.slice a l.length cap] W fun e W' => e = .returned (.bool true) ∧ Chg [] W W' := by
 have d1 : decide ((60000 : Int) < (l.length : Int)) = true := decide_eq_true (by omega)
 have d1' : decide (60000 < l.length) = true := decide_eq_true h
 have H := hY h
 clear h
 go_enter Tryz.func3, Tryz.ntmps3
 go_wp2_with fail
 refine (known16 _).mono ?_
 rintro e WK ⟨rfl, hk⟩
 have Hk := hY hk
 clear hk
 go_wp2
 go_ret
 exact ⟨rfl, ((Chg.refl [] W)).then Hk.out⟩
set_option maxHeartbeats 4000000 in
theorem WalkReads_no (W : World) (l : List UInt8) (a : Option Addr) (cap : Nat) (rb : byteL.Rd W (.slice a l.length cap) l) (h : ¬ 60000 < l.length) (h0 : ¬ ofE l = 0) :
  Calls Tryz.prog 3 #[.slice a l.length cap] W fun e W' => e = .returned (.bool true) ∧ Chg [] W W' := by
 have d1 : decide ((60000 : Int) < (l.length : Int)) = false := decide_eq_false (by omega)
 have d1' : decide (60000 < l.length) = false := decide_eq_false h
 have h2 := fun w rd => ROf_any l a cap w rd
 unfold OfSays at h2
 obtain ⟨E, hE⟩ : ∃ E, E = ofE l := ⟨_, rfl⟩
 rw [← hE] at h2 h0
 have dE : (E != 0) = true := by rw [bne_iff_ne]; exact h0
 have H2 := hY h2
 have HE := hY hE
 have RB := hY rb
 have H0 := hY h0
 have H := hY h
 clear h2 hE rb h0 h
 go_enter Tryz.func3, Tryz.ntmps3
 go_wp2_with fail
 refine (H2.out _ RB.out).mono ?_
 rintro e W1 ⟨m, rfl, hch, hd, hz⟩
 have C1 := hY (hch)
 have HD := hY (hd)
 clear hch hd hz
 go_wp2_with (with_reducible refine Lay.alQ Tryz.tImg ?_)
 refine hY fun W2 bm ebm cbm xbm => ?_
 go_wp2_with ((with_reducible refine Lay.stQ Tryz.tImg m (xbm.out) ?_ ?_ ?_); exact rfl; exact rfl)
 refine hY fun W3 cW3 xW3 => ?_
 have C13 : Hid (Chg [] W1 W3) := hY (cbm.out.new cW3.out (by rw [ebm.out]; exact Nat.le_refl _))
 have C3 : Hid (Chg [] W W3) := hY (C1.out.then C13.out)
 have XM3 := hY (xW3.out)
 go_wp2_with fail
 refine (known16 _).mono ?_
 rintro e WK ⟨rfl, hk⟩
 have Hk := hY hk
 clear hk
 go_wp2
 go_ret
 exact ⟨rfl, (C3.out).then Hk.out⟩
set_option maxHeartbeats 8000000 in
theorem WalkReads_yes (W : World) (hg : Env W) (l : List UInt8) (a : Option Addr) (cap : Nat) (rb : byteL.Rd W (.slice a l.length cap) l) (h : ¬ 60000 < l.length) (h0 : ofE l = 0) :
  Calls Tryz.prog 3 #[.slice a l.length cap] W fun e W' => e = .returned (.bool true) ∧ Chg [] W W' := by
 have d1 : decide ((60000 : Int) < (l.length : Int)) = false := decide_eq_false (by omega)
 have d1' : decide (60000 < l.length) = false := decide_eq_false h
 have h2 := fun w rd => ROf_any l a cap w rd
 unfold OfSays at h2
 rw [h0] at h2
 have hln : (([] : List UInt8).length + l.length) * 1 ≤ 140737488355328 ∧ ([] : List UInt8).length + l.length ≤ 9223372036854775807 := by
  rw [List.length_nil]
  omega
 have H2 := hY h2
 have RB := hY rb
 have H0 := hY h0
 have H := hY h
 have Hg := hY hg
 have Hln := hY hln
 clear h2 rb h0 h hg hln
 go_enter Tryz.func3, Tryz.ntmps3
 go_wp2_with fail
 refine (H2.out _ RB.out).mono ?_
 rintro e W1 ⟨m, rfl, hch, hd, hz⟩
 have C1 := hY (hch)
 have HD := hY (hd)
 clear hch hd hz
 go_wp2_with (with_reducible refine Lay.alQ Tryz.tImg ?_)
 refine hY fun W2 bm ebm cbm xbm => ?_
 go_wp2_with ((with_reducible refine Lay.stQ Tryz.tImg m (xbm.out) ?_ ?_ ?_); exact rfl; exact rfl)
 refine hY fun W3 cW3 xW3 => ?_
 have C13 : Hid (Chg [] W1 W3) := hY (cbm.out.new cW3.out (by rw [ebm.out]; exact Nat.le_refl _))
 have C3 : Hid (Chg [] W W3) := hY (C1.out.then C13.out)
 have XM3 := hY (xW3.out)
 obtain ⟨xs, off, size, hwk⟩ := wlk_of H0.out (HD.out (by first | rfl | trivial))
 have WI := hY (hwk.frame C13.out)
 have RB3 := hY (RB.out.frame C3.out)
 have HF1 : Hid (∀ W', Chg [] W3 W' → ∀ v, byteL.Rd W' v l → Calls Tryz.prog 7 #[v, imgL.val m] W' (FxsP W' (fixupsC l xs m.deps.n off size))) := by
  refine hY ?_
  intro W' hW v rv
  have hi := WI.out.frame hW
  have hh := H.out
  exact fixups_any l (by omega) v m xs hi.b hi.end_ hi.len off size hi.co hi.cs hi.ob hi.sb (fun g hg1 hh p q1 q2 => up_word l hi.up g hg1 hh p q1 q2) W' (Hg.out.frame (C3.out.then hW) (by simp)) rv hi.rd hi.own
 have HF2 : Hid (∀ W', Chg [] W3 W' → ∀ v, byteL.Rd W' v l → Calls Tryz.prog 8 #[v, imgL.val m] W' (FxsP W' (fixupsC l xs m.deps.n off size))) := by
  refine hY ?_
  intro W' hW v rv
  have hi := WI.out.frame hW
  have hh := H.out
  exact rfixups_any l (by omega) v m xs hi.b hi.end_ hi.len off size hi.co hi.cs hi.ob hi.sb W' rv hi.rd
 obtain ⟨FF, hFF⟩ : ∃ FF, FF = fixupsC l xs m.deps.n off size := ⟨_, rfl⟩
 rw [← hFF] at HF1 HF2
 have HNX : Hid (∀ i, i + 1 < (fxsA FF).length → ((fxsA FF).getD i .zero).at_ + 8 ≤ ((fxsA FF).getD (i + 1) .zero).at_) := by
  refine hY ?_
  intro i hi
  cases hf : FF with
  | ok b => rw [hf] at hi; exact fixupsC_next WI.out.b WI.out.up (hFF.symm.trans hf) i hi
  | bad n => rw [hf] at hi; exact absurd hi (Nat.not_lt_zero _)
 have HLB : Hid (∀ i, i < (fxsA FF).length → 0 ≤ ((fxsA FF).getD i .zero).at_ ∧ ((fxsA FF).getD i .zero).at_ + 8 ≤ 140737488355328) := by
  refine hY ?_
  intro i hi
  cases hf : FF with
  | ok b => rw [hf] at hi; exact fixupsC_b WI.out.b WI.out.end_ (hFF.symm.trans hf) _ (getD_mem Fx.zero b hi)
  | bad n => rw [hf] at hi; exact absurd hi (Nat.not_lt_zero _)
 have HFF := hY hFF
 clear hFF
 clear hwk HD H2
 go_wp2_with (at_builtin; go_must (refine Lay.app (L := byteL) Tryz.infoByte rfl _ _ rfl W3.heap.size (.slice none 0 0) [] rfl (Lay.Buf.nil _ _) _ rfl l RB3.out Hln.out.1 Hln.out.2 (Nat.le_refl _) ?_); intro vb VB hov hgv hlc; refine Hid.out ?_)
 refine hY ?_
 have hgo := Lay.chg_grown hgv
 have C3B : Hid (Chg [] W3 VB) := hY (hgo)
 rw [List.nil_append] at hov
 obtain ⟨ab, cb, rfl, hb1, hb2⟩ := hov.rd.shape
 have OWB := hY (hov.rd)
 clear hov hgv hlc hgo hb1 hb2
 go_wp2_with ((with_reducible refine Lay.ldQ Tryz.tImg m ((XM3.out.frame C3B.out).in) ?_ ?_); exact rfl)
 refine hY ?_
 go_wp2_with fail
 refine (HF1.out VB C3B.out _ OWB.out).mono ?_
 rintro e W5 hp
 obtain ⟨hc, sl, rfl, hrd, hll⟩ := fxs_uni hp
 have C5 := hY (C3B.out.then hc)
 have OW5 := hY (OWB.out.frame hc)
 have L5 := hY (hrd)
 clear hp hc hrd
 go_wp2_with ((with_reducible refine Lay.ldQ Tryz.tImg m ((XM3.out.frame C5.out).in) ?_ ?_); exact rfl)
 refine hY ?_
 go_wp2_with fail
 refine (HF2.out W5 C5.out _ (RB3.out.frame C5.out)).mono ?_
 rintro e W6 hp
 obtain ⟨hc, s2, rfl, hrd, _⟩ := fxs_uni hp
 have C6 := hY (C5.out.then hc)
 have OW6 := hY (OW5.out.frame hc)
 have L6 := hY (L5.out.frame hc)
 have R6 := hY (hrd)
 clear hp hc hrd OW5 L5 C5
 obtain ⟨A, hA⟩ : ∃ A, A = fxsA FF := ⟨_, rfl⟩
 obtain ⟨N, hN⟩ : ∃ N, N = fxsN FF := ⟨_, rfl⟩
 rw [← hA] at HNX HLB L6 R6 hll
 rw [← hN]
 have hs1 := run_strB OW6.out
 have hs2 := run_strB (RB3.out.frame C6.out)
 have hee : (N != N) = false := by simp
 have HEQ : Hid (Calls Tryz.prog 9 #[.slice sl.a sl.n sl.cap, .slice s2.a s2.n s2.cap] W6 fun e w' => e = .returned (.bool true) ∧ Chg [] W6 w') := by
  refine hY ?_
  have h := REqual_any A A _ _ W6 (fx_ofL L6.out) (fx_ofL R6.out)
  rw [decide_eq_true rfl] at h
  exact h
 have HA := hY hA
 have HN := hY hN
 clear hA hN
 go_wp2_with fail
 refine (HEQ.out).mono ?_
 rintro e W7 ⟨rfl, hc⟩
 have C7 := hY (C6.out.then hc)
 have L7 := hY (L6.out.frame hc)
 clear hc hs1 hs2
 obtain ⟨a7, n7, c7⟩ := sl
 obtain ⟨_, _, he, q1, q2⟩ := L7.out.shape
 cases he
 dsimp only
 have Q1 := hY q1
 have Q2 := hY q2
 clear q1 q2
 go_wp2_with fail
 go_loopw [10] (fun s10 wr => ∃ m : Nat, m ≤ A.length ∧ s10 = .int .i64 ((m + 1 : Nat) : Int) ∧ Chg [] W7 wr) (fun s10 _ => A.length + 1 - (intOf s10).toNat)
 case atStart => exact ⟨0, Nat.zero_le _, rfl, Chg.refl _ _⟩
 case round =>
  obtain ⟨j, hj, rfl, hcq⟩ := hrel
  have Hcq := hY hcq
  clear hcq
  by_cases hlt : j + 1 < A.length
  ·obtain ⟨g, o, rfl, _, hcell⟩ := (L7.out.frame Hcq.out).at (by omega)
   obtain ⟨p, hp⟩ : ∃ q, q = (A.getD (j + 1) .zero).at_ := ⟨_, rfl⟩
   obtain ⟨q, hq⟩ : ∃ q, q = (A.getD j .zero).at_ := ⟨_, rfl⟩
   have x0 : wr.cell? ⟨g, o + (j + 1) * 7, none⟩ = some (.int .u64 p) := by rw [hp]; exact hcell (j + 1) hlt 0 (by decide)
   have y0 : wr.cell? ⟨g, o + j * 7, none⟩ = some (.int .u64 q) := by rw [hq]; exact hcell j (by omega) 0 (by decide)
   have hle : q + 8 ≤ p := by rw [hp, hq]; exact HNX.out j hlt
   have hqb := HLB.out j (by omega)
   rw [← hq] at hqb
   have hw : IntKind.u64.wrap (q + 8) = q + 8 := by rw [IntKind.wrap_u64]; omega
   have d8 : decide (p < q + 8) = false := decide_eq_false (by omega)
   have Hcell := hY hcell
   have Hp := hY hp
   have Hq := hY hq
   have Hle := hY hle
   have Hqb := hY hqb
   clear hcell hp hq hle hqb
   go_wp2_with fail
   go_quiet (fail)
   go_wp2
   go_roundw
   case rel => exact ⟨j + 1, by omega, by go_num, Hcq.out.drewN _⟩
   case measure => simp [intOf]; omega
  ·go_wp2_with fail
   refine (known16 _).mono ?_
   rintro e WK ⟨rfl, hk⟩
   have Hk := hY hk
   clear hk
   go_wp2
   go_ret
   exact ⟨rfl, (((C3.out.then C7.out).then Hcq.out)).then Hk.out⟩
theorem WalkReads_walk (W : World) (hg : Env W) (l : List UInt8) (a : Option Addr) (cap : Nat) (rd : Rd W (.slice a l.length cap) (bytesV l)) :
  Calls Tryz.prog 3 #[.slice a l.length cap] W fun e W' => e = .returned (.bool true) ∧ Chg [] W W' := by
 by_cases h : 60000 < l.length
 ·exact WalkReads_big W l a cap h
 ·by_cases h0 : ofE l = 0
  ·exact WalkReads_yes W hg l a cap (Rd_to_byte rd) h h0
  ·exact WalkReads_no W l a cap (Rd_to_byte rd) h h0
end Go.Proofs.YtiljokmkiolpgaaGreatDoor
