/- Lemmas, laid together: part 40 of 41. Conditions: none but each lemma's own. -/
import Derived.Test.YtkomocgodljecaaGreatDoorK39
import Derived.Test.YtkomocgodljecaaGreatDoorK17
import Derived.Test.YtkomocgodljecaaGreatDoorK29
import Derived.Test.YtkomocgodljecaaGreatDoorK33
import Derived.Test.YtkomocgodljecaaGreatDoorK35
import Derived.Test.YtkomocgodljecaaGreatDoorK37
import Derived.Test.YtkomocgodljecaaGreatDoorK38
import Derived.Test.YtkomocgodljecaaGreatDoorK10
import Derived.Test.YtkomocgodljecaaGreatDoorK34
import Derived.Test.YtkomocgodljecaaGreatDoorK1
import Derived.JoinedAt
import Derived.ChangeMaps5
import Derived.Deep.Slices
/- clevislaw14.known. -/
namespace Go.Proofs.YtkomocgodljecaaGreatDoor
open Go.RowKit
set_option maxRecDepth 100000

def img14 (sg dp : SlV) : Img := { Img.zero with kind := 2, segs := sg, deps := dp }
theorem two_rd {W1 W2 : World} {oD : Obj} {cs : Array Value} {E : TypeId} {S : List Nat} (ls : List Seg) (hcs : cs.toList = segL.vals ls) (hl : ls.length ≤ maxLen) (k : Chg S ((W1.alloc oD).alloc (.cells cs E)) W2) (hS : W1.heap.size + 1 ∉ S) : segL.Rd W2 (.slice (some ⟨W1.heap.size + 1, 0, none⟩) ls.length ls.length) ls := by
  have h := Lay.Rd.of_heap (L := segL) (heap_alloc_eq (W1.alloc oD) (.cells cs E)) hcs rfl hl
  rw [show (W1.alloc oD).heap.size = W1.heap.size + 1 by simp] at h
  exact h.frameS k (fun b hb hm => by cases hb; exact hS hm)
set_option maxHeartbeats 2000000 in
theorem two14_any (w : World) : Calls Tryz.prog 13 #[] w fun e w' => ∃ sb db, e = .returned (imgL.val (img14 ⟨some ⟨sb, 0, none⟩, 2, 2⟩ ⟨some ⟨db, 0, none⟩, 1, 1⟩)) ∧ segL.Rd w' (.slice (some ⟨sb, 0, none⟩) 2 2) tw4 ∧ Chg [] w w' ∧ sb < w'.heap.size := by
  go_enter Tryz.func13, Tryz.ntmps13
  go_wp2_with ((with_reducible refine Lay.alL Tryz.tImg ?_); intro W1 br ebr cbr xbr; replace ebr := Lib.hid ebr; replace cbr := Lib.hid cbr; replace xbr := Lib.hid xbr; refine Hid.out ?_)
  refine Lib.hid ?_
  go_wp2_with ((with_reducible refine Lay.stL Tryz.tImg (img14 ⟨some ⟨W1.heap.size + 1, 0, none⟩, 2, 2⟩ ⟨some ⟨W1.heap.size, 0, none⟩, 1, 1⟩) (((xbr.out.alloc _).alloc _)) ?_ ?_ ?_); exact rfl; exact rfl; intro W2 cW2 xW2; replace cW2 := Lib.hid cW2; replace xW2 := Lib.hid xW2; refine Hid.out ?_)
  refine Lib.hid ?_
  have hlt := xbr.out.lt
  have HR := Lib.hid (two_rd tw4 rfl (by decide) cW2.out (by simp; omega))
  go_wp2
  refine Lay.ret1 Tryz.tImg Tryz.results13 xW2.out rfl rfl ?_
  have hsb := HR.out.cells.2 0 _ rfl
  exact ⟨_, _, rfl, HR.out, ((cbr.out.alloc _).alloc _).new cW2.out (by rw [ebr.out]; exact Nat.le_refl _), World.block_lt_of_cell? _ _ hsb⟩
theorem slv_eqB {so : SlV} {a : Option Addr} {n c : Nat} (h : so.v = .slice a n c) : so = ⟨a, n, c⟩ := by
  obtain ⟨a', n', c'⟩ := so
  unfold SlV.v at h
  injection h with h1 h2 h3
  dsimp only at h1 h2 h3
  rw [h1, h2, h3]
set_option maxHeartbeats 4000000 in
theorem known14 (w : World) (hw : Env w) : Calls Tryz.prog 6 #[] w fun e w' => e = .returned (.bool true) ∧ Chg [] w w' := by
  have he : ∀ W : World, (binOp .eql 53 (.agg #[.int .u64 4096, .int .i64 2, .int .u64 0, .int .i64 1, .string ⟨#[95, 97]⟩, .int .i64 0, .bool false]) (.agg #[.int .u64 4096, .int .i64 2, .int .u64 0, .int .i64 1, .string ⟨#[95, 97]⟩, .int .i64 0, .bool false])).run Tryz.prog W = .ok (.bool true) W := by
    intro W
    kernel_rfl
  have he2 : ∀ W : World, (binOp .eql 53 (.agg (fxl.f fD3).toArray) (.agg #[.int .u64 4096, .int .i64 2, .int .u64 0, .int .i64 1, .string ⟨#[95, 97]⟩, .int .i64 0, .bool false])).run Tryz.prog W = .ok (.bool true) W := he
  have Hw := Lib.hid hw
  clear hw
  go_enter Tryz.func6, Tryz.ntmps6
  go_wp2_with fail
  refine (two14_any w).mono ?_
  rintro e W3 ⟨sb, db, rfl, hs, hc, hsb⟩
  have C3 := Lib.hid (hc)
  have S3 := Lib.hid hs
  clear hs
  clear hc
  have D3 : Hid (BIn (W3.alloc (.cells #[.int .u8 17, .int .u8 64, .int .u8 95, .int .u8 97, .int .u8 0, .int .u8 113, .int .u8 0, .int .u8 144, .int .u8 0] 5)) (img14 ⟨some ⟨sb, 0, none⟩, 2, 2⟩ ⟨some ⟨db, 0, none⟩, 1, 1⟩) tw4) := by
    refine Lib.hid ?_
    refine ⟨tw4B, S3.out.frame ((Chg.refl _ _).alloc _), fun k hk => ?_⟩
    cases hk
    exact Nat.lt_of_lt_of_le hsb ((Chg.refl [] W3).alloc _).size
  go_wp2_with fail
  refine (Decode_b1 _ (Hw.out.frame (C3.out.alloc _) (by simp)) (img14 ⟨some ⟨sb, 0, none⟩, 2, 2⟩ ⟨some ⟨db, 0, none⟩, 1, 1⟩) D3.out rfl _ (Rd_of_byte (Lay.Rd.of_heap (ls := dB) (heap_alloc_eq _ _) rfl rfl (by decide)))).mono ?_
  rintro e W4 ⟨so, rfl, hc, hb⟩
  have C4 : Hid (Chg [] w W4) := Lib.hid ((C3.out.alloc _).then hc)
  obtain ⟨g2, cap2, he0, _, _, _, _, _, _, _⟩ := hb.at (by decide)
  obtain rfl := slv_eqB he0
  rw [show d14l.length = 1 from rfl] at hb ⊢
  have R4 : Hid (fxl.Rd W4 (.slice (some ⟨g2, 0, none⟩) 1 cap2) d14l) := Lib.hid (hb.rd)
  clear hb he0 hc D3 S3 C3 hsb
  unfold SlV.v
  go_wp2_with fail
  refine (two14_any W4).mono ?_
  rintro e W5 ⟨sb5, db5, rfl, hs, hc, hsb⟩
  have C5 := Lib.hid (C4.out.then hc)
  have R5 := Lib.hid (R4.out.frame hc)
  have S5 := Lib.hid hs
  clear hs
  clear hc R4
  have D5 : Hid (BIn (W5.alloc (.cells #[.int .u8 113, .int .u8 0, .int .u8 144] 5)) (img14 ⟨some ⟨sb5, 0, none⟩, 2, 2⟩ ⟨some ⟨db5, 0, none⟩, 1, 1⟩) tw4) := by
    refine Lib.hid ?_
    refine ⟨tw4B, S5.out.frame ((Chg.refl _ _).alloc _), fun k hk => ?_⟩
    cases hk
    exact Nat.lt_of_lt_of_le hsb ((Chg.refl [] W5).alloc _).size
  go_wp2_with fail
  refine (Decode_b2 _ (Hw.out.frame (C5.out.alloc _) (by simp)) (img14 ⟨some ⟨sb5, 0, none⟩, 2, 2⟩ ⟨some ⟨db5, 0, none⟩, 1, 1⟩) D5.out _ (Rd_of_byte (Lay.Rd.of_heap (ls := [113, 0, 144]) (heap_alloc_eq _ _) rfl rfl (by decide)))).mono ?_
  rintro e W6 ⟨rfl, hc⟩
  have C6 := Lib.hid ((C5.out.alloc _).then hc)
  have R6 := Lib.hid (R5.out.frame (((Chg.refl [] W5).alloc _).then hc))
  clear hc R5 D5 S5 hsb
  go_wp2_with fail
  refine (two14_any W6).mono ?_
  rintro e W7 ⟨sb7, db7, rfl, hs, hc, _⟩
  have C7 := Lib.hid (C6.out.then hc)
  have R7 := Lib.hid (R6.out.frame hc)
  have S7 := Lib.hid hs
  clear hs
  clear hc R6
  go_wp2_with fail
  refine (Make_d (img14 ⟨some ⟨sb7, 0, none⟩, 2, 2⟩ ⟨some ⟨db7, 0, none⟩, 1, 1⟩) sb7 rfl rfl (.slice (some ⟨g2, 0, none⟩) 1 cap2) W7 S7.out (fx_ofL R7.out)).mono ?_
  rintro e W8 ⟨s8, rfl, hb, hc⟩
  have C8 := Lib.hid (C7.out.then hc)
  have hI : fxl.In W8 g2 0 fD3 := by
    obtain ⟨b, off, e, _, h⟩ := (R7.out.frame hc).at (by decide)
    cases e
    have := h 0 (by decide)
    rwa [Nat.zero_mul, Nat.zero_add] at this
  obtain ⟨a8, c8, he0, _⟩ := hb.rd.shape
  obtain rfl := slv_eqB he0
  have hs1 := run_strB hb.rd
  rw [show dB.length = 9 from rfl] at hs1 ⊢
  rw [show (⟨dB.toArray⟩ : ByteArray) = ⟨#[17, 64, 95, 97, 0, 113, 0, 144, 0]⟩ from rfl] at hs1
  have HI := Lib.hid hI
  clear hI
  clear hb hc R7 S7 he0
  unfold SlV.v
  go_wp2_with ((with_reducible refine Lay.ldG2 Tryz.tFx fD3 (HI.out) ?_ ?_ ?_); exact rfl; exact rfl; refine Hid.out ?_)
  refine Lib.hid ?_
  go_wp2
  go_ret
  exact ⟨rfl, C8.out⟩
end Go.Proofs.YtkomocgodljecaaGreatDoor
/- clevislaw14.BindMeans, walked. -/
namespace Go.Proofs.YtkomocgodljecaaGreatDoor
open Go.RowKit
set_option maxRecDepth 100000

set_option maxHeartbeats 8000000 in
theorem BindMeans_walk (W : World) (hg : Env W) (m : Img) (p : TP) (hd : DRd W m p) (hp : PB p) (K : Int) (_ : (Lit.int .i64 K).wf = true) (l : List Fx) (a : Option Addr) (cap : Nat) (rl : FxRd W (.slice a l.length cap) l) (hat : ∀ f ∈ l, (0 ≤ f.at_ ∧ f.at_ < 18446744073709551616) ∧ -9223372036854775808 ≤ f.add ∧ f.add < 9223372036854775808) :
    Calls Tryz.prog 4 #[imgL.val m, .int .i64 K, .slice a l.length cap] W fun e W' => e = .returned (.bool true) ∧ Chg [] W W' := by
  have hd0 := hd
  obtain ⟨ls0, _, rd0, hll, hlk, _⟩ := hd0
  have HK := Lib.hid (fun W hg => known14 W hg)
  have HMU := Lib.hid (fun w rd => Much_any m ls0 w rd)
  have HMY := Lib.hid (fun w hd => RMayI_any m p 1099511627776 0 (by decide) (by decide) hp w hd)
  obtain ⟨E0, hE0⟩ : ∃ E, E = mayE 1099511627776 0 p := ⟨_, rfl⟩
  rw [← hE0] at HMY
  obtain ⟨sa, scap, hv, _, _⟩ := rd0.shape
  try unfold SlV.v at hv
  obtain ⟨n0, hn0⟩ : ∃ n, n = ls0.length := ⟨_, rfl⟩
  rw [← hn0] at hv
  have HV := Lib.hid hv
  have RD := Lib.hid rd0
  have HD := Lib.hid hd
  have HP := Lib.hid hp
  have RL := Lib.hid rl
  have HAT := Lib.hid hat
  have Hg := Lib.hid hg
  have Hll := Lib.hid hll
  have Hlk := Lib.hid hlk
  clear hv rd0 hd hp rl hat hg hll hlk
  by_cases c1 : 100 < l.length
  · have d1 : decide ((100 : Int) < (l.length : Int)) = true := decide_eq_true (by omega)
    have KC1 := Lib.hid c1
    have HE0 := Lib.hid hE0
    have Hn0 := Lib.hid hn0
    clear c1 hE0 hn0
    go_enter Tryz.func4, Tryz.ntmps4
    go_wp2_with ((with_reducible refine Lay.bxL (L := imgL) 30 m ?_ ?_); exact rfl; intro W1 bm ebm cbm xbm; replace ebm := Lib.hid ebm; replace cbm := Lib.hid cbm; replace xbm := Lib.hid xbm; refine Hid.out ?_)
    refine Lib.hid ?_
    go_upto_region 1 with fail
    go_wp2_with fail
    refine (HK.out _ (Hg.out.frame cbm.out (by simp))).mono ?_
    rintro e WK ⟨rfl, hk⟩
    have Hk := Lib.hid hk
    clear hk
    go_wp2
    go_ret
    exact ⟨rfl, (cbm.out).then Hk.out⟩
  have d1 : decide ((100 : Int) < (l.length : Int)) = false := decide_eq_false (by omega)
  by_cases c0 : E0 = 0
  case neg =>
    have e0 : (E0 == 0) = false := by rw [beq_eq_false_iff_ne]; exact c0
    have e0b : (E0 != 0) = true := by rw [bne, e0]; rfl
    have KC1 := Lib.hid c1
    have KC0 := Lib.hid c0
    have HE0 := Lib.hid hE0
    have Hn0 := Lib.hid hn0
    clear c1 c0 hE0 hn0
    go_enter Tryz.func4, Tryz.ntmps4
    go_wp2_with ((with_reducible refine Lay.bxL (L := imgL) 30 m ?_ ?_); exact rfl; intro W1 bm ebm cbm xbm; replace ebm := Lib.hid ebm; replace cbm := Lib.hid cbm; replace xbm := Lib.hid xbm; refine Hid.out ?_)
    refine Lib.hid ?_
    go_upto_region 1 with fail
    go_wp2_with ((with_reducible refine ldG Tryz.tImg m (xbm.out.in) ?_ ?_ ?_); exact rfl; exact rfl; refine Hid.out ?_)
    refine Lib.hid ?_
    go_wp2_with fail
    refine (HMU.out _ (RD.out.frame cbm.out)).mono ?_
    unfold MuchP
    rintro e W2 ⟨b, rfl, hch, hb⟩
    have C2 : Hid (Chg [] W W2) := Lib.hid (cbm.out.then hch)
    have X2 := Lib.hid (xbm.out.frame hch)
    clear hch
    cases b with
    | true =>
      clear hb
      go_wp2_with fail
      refine (HK.out _ (Hg.out.frame C2.out (by simp))).mono ?_
      rintro e WK ⟨rfl, hk⟩
      have Hk := Lib.hid hk
      clear hk
      go_wp2
      go_ret
      exact ⟨rfl, (C2.out).then Hk.out⟩
    | false =>
      have Hb := Lib.hid hb
      clear hb
      go_wp2_with ((with_reducible refine ldG Tryz.tImg m (X2.out.in) ?_ ?_ ?_); exact rfl; exact rfl; refine Hid.out ?_)
      refine Lib.hid ?_
      go_wp2_with fail
      refine (HMY.out _ (HD.out.frame C2.out)).mono ?_
      rintro e W3 ⟨rfl, hch⟩
      have C3 : Hid (Chg [] W W3) := Lib.hid (C2.out.then hch)
      have X3 := Lib.hid (X2.out.frame hch)
      clear hch
      have x4 := Img.c_segs X3.out
      rw [HV.out] at x4
      clear x4
      go_wp2_with fail
      refine (HK.out _ (Hg.out.frame C3.out (by simp))).mono ?_
      rintro e WK ⟨rfl, hk⟩
      have Hk := Lib.hid hk
      clear hk
      go_wp2
      go_ret
      exact ⟨rfl, (C3.out).then Hk.out⟩
  case pos =>
  subst c0
  obtain ⟨ls, rd, hls, hlen, hle, hne⟩ := segs_may HD.out HP.out hE0.symm
  have hnn : n0 = ls.length := by rw [hn0, hlen]; exact Hll.out
  by_cases c2 : 16 < n0
  · have d2 : decide ((16 : Int) < (n0 : Int)) = true := decide_eq_true (by omega)
    have KC1 := Lib.hid c1
    have KC2 := Lib.hid c2
    have HE0 := Lib.hid hE0
    have Hn0 := Lib.hid hn0
    have RDZ := Lib.hid rd
    have Hls := Lib.hid hls
    have Hlen := Lib.hid hlen
    have Hle := Lib.hid hle
    have Hne := Lib.hid hne
    have Hnn := Lib.hid hnn
    clear c1 c2 hE0 hn0 rd hls hlen hle hne hnn
    go_enter Tryz.func4, Tryz.ntmps4
    go_wp2_with ((with_reducible refine Lay.bxL (L := imgL) 30 m ?_ ?_); exact rfl; intro W1 bm ebm cbm xbm; replace ebm := Lib.hid ebm; replace cbm := Lib.hid cbm; replace xbm := Lib.hid xbm; refine Hid.out ?_)
    refine Lib.hid ?_
    go_upto_region 1 with fail
    go_wp2_with ((with_reducible refine ldG Tryz.tImg m (xbm.out.in) ?_ ?_ ?_); exact rfl; exact rfl; refine Hid.out ?_)
    refine Lib.hid ?_
    go_wp2_with fail
    refine (HMU.out _ (RD.out.frame cbm.out)).mono ?_
    unfold MuchP
    rintro e W2 ⟨b, rfl, hch, hb⟩
    have C2 : Hid (Chg [] W W2) := Lib.hid (cbm.out.then hch)
    have X2 := Lib.hid (xbm.out.frame hch)
    clear hch
    cases b with
    | true =>
      clear hb
      go_wp2_with fail
      refine (HK.out _ (Hg.out.frame C2.out (by simp))).mono ?_
      rintro e WK ⟨rfl, hk⟩
      have Hk := Lib.hid hk
      clear hk
      go_wp2
      go_ret
      exact ⟨rfl, (C2.out).then Hk.out⟩
    | false =>
      have Hb := Lib.hid hb
      clear hb
      go_wp2_with ((with_reducible refine ldG Tryz.tImg m (X2.out.in) ?_ ?_ ?_); exact rfl; exact rfl; refine Hid.out ?_)
      refine Lib.hid ?_
      go_wp2_with fail
      refine (HMY.out _ (HD.out.frame C2.out)).mono ?_
      rintro e W3 ⟨rfl, hch⟩
      have C3 : Hid (Chg [] W W3) := Lib.hid (C2.out.then hch)
      have X3 := Lib.hid (X2.out.frame hch)
      clear hch
      have x4 := Img.c_segs X3.out
      rw [HV.out] at x4
      go_wp2_with fail
      refine (HK.out _ (Hg.out.frame C3.out (by simp))).mono ?_
      rintro e WK ⟨rfl, hk⟩
      have Hk := Lib.hid hk
      clear hk
      go_wp2
      go_ret
      exact ⟨rfl, (C3.out).then Hk.out⟩
  have d2 : decide ((16 : Int) < (n0 : Int)) = false := decide_eq_false (by omega)
  have HA := Lib.hid (fun w rd hl => BMake_any m K m.deps.n rfl ls hls (by omega) l (by omega) HAT.out (.slice a l.length cap) w rd hl)
  unfold BMakeP at HA
  obtain ⟨S, hS⟩ : ∃ S, S = setF l := ⟨_, rfl⟩
  rw [← hS] at HA
  obtain ⟨E, hE⟩ : ∃ E, E = mayBE K m.deps.n ls S := ⟨_, rfl⟩
  rw [← hE] at HA
  have hq : SegQ ls := ⟨hls, hle, by omega⟩
  have HRS := Lib.hid (fun v w rd => RSet_any l v w rd (by omega))
  rw [← hS] at HRS
  have KC1 := Lib.hid c1
  have KC2 := Lib.hid c2
  have HE0 := Lib.hid hE0
  have Hn0 := Lib.hid hn0
  have RDS := Lib.hid rd
  have Hls := Lib.hid hls
  have Hlen := Lib.hid hlen
  have Hle := Lib.hid hle
  have Hne := Lib.hid hne
  have Hnn := Lib.hid hnn
  have HS := Lib.hid hS
  have Hq := Lib.hid hq
  have HE := Lib.hid hE
  clear c1 c2 hE0 hn0 rd hls hlen hle hne hnn hS hq hE
  go_enter Tryz.func4, Tryz.ntmps4
  go_wp2_with ((with_reducible refine Lay.bxL (L := imgL) 30 m ?_ ?_); exact rfl; intro W1 bm ebm cbm xbm; replace ebm := Lib.hid ebm; replace cbm := Lib.hid cbm; replace xbm := Lib.hid xbm; refine Hid.out ?_)
  refine Lib.hid ?_
  go_upto_region 1 with fail
  go_wp2_with ((with_reducible refine ldG Tryz.tImg m (xbm.out.in) ?_ ?_ ?_); exact rfl; exact rfl; refine Hid.out ?_)
  refine Lib.hid ?_
  go_wp2_with fail
  refine (HMU.out _ (RD.out.frame cbm.out)).mono ?_
  unfold MuchP
  rintro e W2 ⟨b, rfl, hch, hb⟩
  have C2 : Hid (Chg [] W W2) := Lib.hid (cbm.out.then hch)
  have X2 := Lib.hid (xbm.out.frame hch)
  clear hch
  cases b with
  | true =>
    clear hb
    go_wp2_with fail
    refine (HK.out _ (Hg.out.frame C2.out (by simp))).mono ?_
    rintro e WK ⟨rfl, hk⟩
    have Hk := Lib.hid hk
    clear hk
    go_wp2
    go_ret
    exact ⟨rfl, (C2.out).then Hk.out⟩
  | false =>
    have hdn := (hb rfl).2
    clear hb
    have Hdn := Lib.hid hdn
    clear hdn
    go_wp2_with ((with_reducible refine ldG Tryz.tImg m (X2.out.in) ?_ ?_ ?_); exact rfl; exact rfl; refine Hid.out ?_)
    refine Lib.hid ?_
    go_wp2_with fail
    refine (HMY.out _ (HD.out.frame C2.out)).mono ?_
    rintro e W3 ⟨rfl, hch⟩
    have C3 : Hid (Chg [] W W3) := Lib.hid (C2.out.then hch)
    have X3 := Lib.hid (X2.out.frame hch)
    clear hch
    have x4 := Img.c_segs X3.out
    rw [HV.out] at x4
    go_wp2_with ((with_reducible refine Lay.ldL Tryz.tImg m (X3.out.in) ?_ ?_); exact rfl; refine Hid.out ?_)
    refine Lib.hid ?_
    clear x4
    go_wp2_with fail
    refine (HA.out _ (RDS.out.frame C3.out) (RL.out.frame C3.out)).mono ?_
    rintro e W4 ⟨s1, rfl, hc4, h0, h1⟩
    have C4 : Hid (Chg [] W W4) := Lib.hid (C3.out.then hc4)
    have X4 := Lib.hid (X3.out.frame hc4)
    clear hc4 h1
    unfold SlV.v
    by_cases hE0 : E = 0
    case neg =>
      have e0 : (E == 0) = false := by rw [beq_eq_false_iff_ne]; exact hE0
      have e0b : (E != 0) = true := by rw [bne, e0]; rfl
      clear h0
      have HE0 := Lib.hid hE0
      clear hE0
      go_wp2_with fail
      refine (HK.out _ (Hg.out.frame C4.out (by simp))).mono ?_
      rintro e WK ⟨rfl, hk⟩
      have Hk := Lib.hid hk
      clear hk
      go_wp2
      go_ret
      exact ⟨rfl, (C4.out).then Hk.out⟩
    case pos =>
    subst hE0
    have hbb := (h0 rfl).rd
    clear h0
    have HM := Lib.hid (mayBE_zero HE.out.symm)
    obtain ⟨sD, hD1, hD2⟩ := bind_made Hq.out HM.out.k (nd := m.deps.n) (S := S) ⟨HM.out.kind, HM.out.ord, HM.out.wr, fun f hf => (HAT.out f (mem_setF.1 (HS.out ▸ hf))).2⟩ HM.out.len
    have hal : (allN ls K S).length ≤ 6000001 := allN_len HM.out
    have hdec := fun w hw hst hsg => Decode_D m K (.slice s1.a s1.n s1.cap) (allN ls K S) (Nat.le_trans hal (by decide)) w hw hst ls hsg (Nat.le_trans Hdn.out (by decide))
    rw [hD1] at hdec
    have sg : SgD W4 m ls := ⟨Hls.out, RDS.out.frame C4.out, fun k hk => by
      obtain ⟨b, hb1, hb2⟩ := (RDS.out.frame C4.out).block Hne.out
      rw [hb1] at hk
      cases hk
      exact hb2⟩
    have GB : Hid (Rd W4 (.slice s1.a s1.n s1.cap) (bytesV (allN ls K S))) := Lib.hid (Rd_of_byte hbb)
    have Hdec := Lib.hid hdec
    have HD1 := Lib.hid hD1
    have HD2 := Lib.hid hD2
    have Hal := Lib.hid hal
    have SG := Lib.hid sg
    clear hdec hD1 hD2 hal sg
    clear hbb
    go_wp2_with ((with_reducible refine Lay.ldL Tryz.tImg m (X4.out.in) ?_ ?_); exact rfl; refine Hid.out ?_)
    refine Lib.hid ?_
    go_wp2_with fail
    refine (Hdec.out _ (Hg.out.frame C4.out (by simp)) GB.out SG.out).mono ?_
    rintro e W5 ⟨so, rfl, hc5, hfb⟩
    rw [HD2.out] at hfb
    obtain ⟨a5, c5, he5, _⟩ := hfb.rd.shape
    rw [he5] at hfb ⊢
    have C5 : Hid (Chg [] W W5) := Lib.hid (C4.out.then hc5)
    have FB5 := Lib.hid (hfb)
    clear hc5 hfb he5
    go_wp2_with fail
    refine (HRS.out _ _ (RL.out.frame C5.out)).mono ?_
    rintro e W6 ⟨v6, rfl, hb6, hc6⟩
    obtain ⟨a6, c6, rfl, _⟩ := (fb_of hb6).rd.shape
    have C6 : Hid (Chg [] W W6) := Lib.hid (C5.out.then hc6)
    have R5 := Lib.hid (FB5.out.rd.frame hc6)
    have R6 := Lib.hid ((fb_of hb6).rd)
    clear hb6 hc6
    go_wp2_with fail
    refine (REqual_any S S _ _ W6 R5.out R6.out).mono ?_
    rintro e W7 ⟨rfl, hc7⟩
    have C7 : Hid (Chg [] W W7) := Lib.hid (C6.out.then hc7)
    rw [decide_eq_true rfl]
    clear hc7
    go_wp2_with fail
    refine (HK.out _ (Hg.out.frame C7.out (by simp))).mono ?_
    rintro e WK ⟨rfl, hk⟩
    have Hk := Lib.hid hk
    clear hk
    go_wp2
    go_ret
    exact ⟨rfl, (C7.out).then Hk.out⟩
end Go.Proofs.YtkomocgodljecaaGreatDoor
/- Records that came in, behind a door: the general part of XEndB. -/
namespace Go.Proofs.YtkomocgodljecaaGreatDoor
open Go.ChangeShapes Go.WideShapes Go.RowKit
def tyOf : TypeDesc → List (TypeId × Nat)
  | .struct fs => fs.toList.map fun f => (f.type, f.offset)
  | _ => []
section
variable {H : Type} {enc : TypeId × Value → H} {P : Program} {w : World} {base : Nat} {spare : Nat → Bool} {held : Bool}
theorem struct_at {t : TypeId} {l : List (TypeId × Nat)} (h : (P.underlying t).map tyOf = some l) (hne : l ≠ []) {fuel : Nat} {cs : List Value} {x : DataW H × List MemPlace}
    (ht : DataW.trod enc P w base spare held fuel t cs = some x) :
    cs.length = P.cellsOf t ∧ ∀ (j : Nat) (ty : TypeId) (o : Nat), l[j]? = some (ty, o) → ∃ n y, DataW.trod enc P w base spare held n ty ((cs.drop o).take (P.cellsOf ty)) = some y := by
  cases hu : P.underlying t with
  | none => rw [hu] at h; cases h
  | some d =>
    rw [hu] at h
    simp only [Option.map_some, Option.some.injEq] at h
    cases d with
    | struct fs =>
      obtain ⟨xs, n, _, rfl, hl, hlen, hf⟩ := DataW.trod_struct hu ht
      refine ⟨hl, fun j ty o hj => ?_⟩
      rw [← h] at hj
      simp only [tyOf, List.getElem?_map, Array.getElem?_toList] at hj
      cases hfj : fs[j]? with
      | none => rw [hfj] at hj; cases hj
      | some f =>
        rw [hfj] at hj
        simp only [Option.map_some, Option.some.injEq, Prod.mk.injEq] at hj
        obtain ⟨rfl, rfl⟩ := hj
        have hjl : j < fs.size := (Array.getElem?_eq_some_iff.1 hfj).1
        have hy : xs[j]? = some (xs[j]'(by omega)) := List.getElem?_eq_getElem (by omega)
        exact ⟨_, _, (hf j f hfj).trans hy⟩
    | _ => exact absurd h.symm hne
theorem int_at {t : TypeId} {K : IntKind} (hu : P.underlying t = some (.int K)) {n o k : Nat} {cs : List Value} {y : DataW H × List MemPlace} (h : DataW.trod enc P w base spare held n t ((cs.drop o).take k) = some y) :
    ∃ z : Int, cs[o]? = some (.int K z) ∧ (Lit.int K z).wf = true := by
  obtain ⟨z, hc, _, hw⟩ := DataW.trod_int hu h
  refine ⟨z, ?_, hw⟩
  have : ((cs.drop o).take k)[0]? = some (.int K z) := by rw [hc]; rfl
  rw [List.getElem?_take] at this
  split at this
  · simpa using this
  · cases this
end
section
variable {H : Type} {enc : TypeId × Value → H} {P : Program} {w : World} {base : Nat} {spare : Nat → Bool} {held : Bool}
theorem str_at {t : TypeId} (hu : P.underlying t = some .string) {n o k : Nat} {cs : List Value} {y : DataW H × List MemPlace} (h : DataW.trod enc P w base spare held n t ((cs.drop o).take k) = some y) :
    ∃ s : ByteArray, cs[o]? = some (.string s) := by
  obtain ⟨z, hc, _, _⟩ := DataW.trod_string hu h
  refine ⟨z, ?_⟩
  have : ((cs.drop o).take k)[0]? = some (.string z) := by rw [hc]; rfl
  rw [List.getElem?_take] at this
  split at this
  · simpa using this
  · cases this
theorem bool_at {t : TypeId} (hu : P.underlying t = some .bool) {n o k : Nat} {cs : List Value} {y : DataW H × List MemPlace} (h : DataW.trod enc P w base spare held n t ((cs.drop o).take k) = some y) :
    ∃ s : Bool, cs[o]? = some (.bool s) := by
  obtain ⟨z, hc, _⟩ := DataW.trod_bool hu h
  refine ⟨z, ?_⟩
  have : ((cs.drop o).take k)[0]? = some (.bool z) := by rw [hc]; rfl
  rw [List.getElem?_take] at this
  split at this
  · simpa using this
  · cases this
end
theorem list_of {α : Type} (d : α) (Q : Nat → α → Prop) : ∀ n, (∀ i, i < n → ∃ s, Q i s) → ∃ l : List α, l.length = n ∧ ∀ i, i < n → Q i (l.getD i d)
  | 0, _ => ⟨[], rfl, fun i hi => absurd hi (Nat.not_lt_zero i)⟩
  | n + 1, h => by
    obtain ⟨l, hl, hq⟩ := list_of d Q n (fun i hi => h i (by omega))
    obtain ⟨s, hs⟩ := h n (by omega)
    refine ⟨l ++ [s], by simp [hl], fun i hi => ?_⟩
    by_cases hin : i < n
    · have := hq i hin
      rw [List.getD_eq_getElem?_getD] at this ⊢
      rw [List.getElem?_append_left (by omega)]
      exact this
    · obtain rfl : i = n := by omega
      rw [List.getD_eq_getElem?_getD, List.getElem?_append_right (by omega), hl, Nat.sub_self]
      exact hs
/-- A slice of structs whose cells are C each: its elements' cells, and what is read of each. -/
theorem open_rows {H : Type} {enc : TypeId × Value → H} {T E : TypeId} {C : Nat} {W : World} {a : Option Addr} {len cap : Nat} {d : DataW H} {ps : List MemPlace} (hu : Tryz.prog.underlying T = some (.slice E)) (hC : Tryz.prog.cellsOf E = C) (hC0 : 0 < C)
    (h : DataW.Trod enc Tryz.prog W 0 (fun _ => true) true T (.slice a len cap) d ps) :
    len ≤ cap ∧ cap ≤ maxLen ∧ (0 < len → ∃ b off, a = some ⟨b, off, none⟩ ∧ b < W.heap.size ∧
      ∀ i, i < len → ∃ cs n x, DataW.trod enc Tryz.prog W 0 (fun _ => true) true n E cs = some x ∧ cs.length = C ∧ ∀ j, j < C → W.cell? ⟨b, off + i * C + j, none⟩ = cs[j]?) := by
  obtain ⟨fuel, hf⟩ := h
  rcases Go.Deep.open_slice hu hf with ⟨hcs, _⟩ | ⟨ad, l, c, m, n, D, Pl, hcs, _, hl, hm, hmm, _, hi⟩
  · simp [Value.cells] at hcs
    obtain ⟨rfl, rfl, rfl⟩ := hcs
    exact ⟨Nat.le_refl _, Nat.zero_le _, fun h => absurd h (by omega)⟩
  · simp [Value.cells] at hcs
    obtain ⟨rfl, rfl, rfl⟩ := hcs
    refine ⟨hl, hm, fun hp => ?_⟩
    have hm' : m = cap := by simpa using hmm
    rw [hC] at hi
    have key : ∀ i, i < len → ∃ cs n x, DataW.trod enc Tryz.prog W 0 (fun _ => true) true n E cs = some x ∧ cs.length = C ∧ ∀ j, j < C → W.cell? (ad.add (i * C + j)) = cs[j]? := fun i hil => by
      obtain ⟨cs, hc, ht⟩ := hi i (by omega)
      obtain ⟨_, hcl, hat⟩ := World.cells?_some hc
      exact ⟨cs, _, _, ht, hcl, fun j hj => by rw [← Go.Deep.add_add]; exact hat j hj⟩
    obtain ⟨b, off, spot⟩ := ad
    obtain ⟨cs, _, _, _, hcl, hc0⟩ := key 0 hp
    have h0 := hc0 0 hC0
    have hv : cs[0]? = some (cs[0]'(by omega)) := List.getElem?_eq_getElem (by omega)
    rw [hv] at h0
    have hspot : spot = none := by simpa [Addr.add] using World.cell?_spot h0
    subst hspot
    refine ⟨b, off, rfl, ?_, fun i hil => ?_⟩
    · rw [Go.WideShapes.add_plain] at h0
      exact World.block_lt_of_cell? _ _ h0
    · obtain ⟨cs, n, x, ht, hcl, hat⟩ := key i hil
      exact ⟨cs, n, x, ht, hcl, fun j hj => by rw [← hat j hj, Go.WideShapes.add_plain, Nat.add_assoc]⟩

end Go.Proofs.YtkomocgodljecaaGreatDoor
