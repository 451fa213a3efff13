/- Lemmas, laid together: part 38 of 39. Conditions: none but each lemma's own. -/
import Derived.Test.YtnaonkbbecdboaaDoorJ34
import Derived.Test.YtnaonkbbecdboaaDoorJ19
import Derived.BigQuiet
import Derived.Deep.QuietTactic
/- The document's SameSegment (of layer 5): two segments with the same numbers and the same sections are the same. -/
namespace Go.Proofs.YtnaonkbbecdboaaDoor
open Go.RowKit
set_option maxRecDepth 100000

/-- A segment in memory, as plain data. -/
def SegRd (w : World) (s : Seg) (p : SegP) : Prop := s.bare = p.s ∧ secL.Rd w (.slice s.secs.a s.secs.n s.secs.cap) p.ks
theorem SegRd.frame {w w' : World} {s : Seg} {p : SegP} (h : SegRd w s p) (k : Chg [] w w') : SegRd w' s p := ⟨h.1, h.2.frame k⟩
set_option maxHeartbeats 1000000 in
theorem SameSeg (s r : Seg) (p : SegP) (w : World) (hs : SegRd w s p) (hr : SegRd w r p) :
    Calls Tryd.prog 9 #[segL.val s, segL.val r] w fun e w' => e = .returned (.bool true) ∧ Chg [] w w' := by
  have hb := hs.1.trans hr.1.symm
  have e0 : s.name = r.name := (congrArg Seg.name hb : s.bare.name = r.bare.name)
  have e1 : s.addr = r.addr := (congrArg Seg.addr hb : s.bare.addr = r.bare.addr)
  have e2 : s.size = r.size := (congrArg Seg.size hb : s.bare.size = r.bare.size)
  have e3 : s.off = r.off := (congrArg Seg.off hb : s.bare.off = r.bare.off)
  have e4 : s.fsize = r.fsize := (congrArg Seg.fsize hb : s.bare.fsize = r.bare.fsize)
  have e5 : s.prot = r.prot := (congrArg Seg.prot hb : s.bare.prot = r.bare.prot)
  have n1 : s.secs.n = p.ks.length := by
    obtain ⟨_, _, he, _, _⟩ := hs.2.shape
    injection he
  have n2 : r.secs.n = p.ks.length := by
    obtain ⟨_, _, he, _, _⟩ := hr.2.shape
    injection he
  have hkm : p.ks.length ≤ 9223372036854775807 := by obtain ⟨_, _, _, h1, h2⟩ := hs.2.shape; omega
  have S0 := Lib.hid (hs.2)
  have T0 := Lib.hid (hr.2)
  obtain ⟨K, hK⟩ : ∃ K, K = p.ks.length := ⟨_, rfl⟩
  rw [← hK] at n1 n2 hkm
  clear hs hr hb
  have HK := Lib.hid hK
  have Hkm := Lib.hid hkm
  clear hK hkm
  go_enter Tryd.func9, Tryd.ntmps9
  go_wp2_with ((with_reducible refine Lay.bxL (L := segL) 47 s ?_ ?_); exact rfl; intro W1 b1 eb1 cb1 xb1; replace eb1 := Lib.hid eb1; replace cb1 := Lib.hid cb1; replace xb1 := Lib.hid xb1; refine Hid.out ?_)
  refine Lib.hid ?_
  go_wp2_with ((with_reducible refine Lay.bxL (L := segL) 47 r ?_ ?_); exact rfl; intro W2 b2 eb2 cb2 xb2; replace eb2 := Lib.hid eb2; replace cb2 := Lib.hid cb2; replace xb2 := Lib.hid xb2; refine Hid.out ?_)
  refine Lib.hid ?_
  have c12 : Chg [] w W2 := cb1.out.then cb2.out
  have x1 := xb1.out.frame cb2.out
  have x2 := xb2.out
  have S2 := Lib.hid (S0.out.frame c12)
  have T2 := Lib.hid (T0.out.frame c12)
  have y0 := Seg.c_name x1
  have y1 := Seg.c_addr x1
  have y2 := Seg.c_size x1
  have y3 := Seg.c_off x1
  have y4 := Seg.c_fsize x1
  have y5 := Seg.c_prot x1
  have y6 := Seg.c_secs x1
  have z0 := Seg.c_name x2
  have z1 := Seg.c_addr x2
  have z2 := Seg.c_size x2
  have z3 := Seg.c_off x2
  have z4 := Seg.c_fsize x2
  have z5 := Seg.c_prot x2
  have z6 := Seg.c_secs x2
  rw [e0] at y0
  rw [e1] at y1
  rw [e2] at y2
  rw [e3] at y3
  rw [e4] at y4
  rw [e5] at y5
  rw [n1] at y6 S2
  rw [n2] at z6 T2
  have X1 := Lib.hid x1
  have X2 := Lib.hid x2
  have E0 := Lib.hid e0
  have E1 := Lib.hid e1
  have E2 := Lib.hid e2
  have E3 := Lib.hid e3
  have E4 := Lib.hid e4
  have E5 := Lib.hid e5
  have N1 := Lib.hid n1
  have N2 := Lib.hid n2
  have C12 := Lib.hid c12
  clear x1 x2 e0 e1 e2 e3 e4 e5 n1 n2 c12
  go_wp2_with fail
  go_loopw [5] (fun s5 wr => ∃ k : Nat, k ≤ K ∧ s5 = .int .i64 (k : Int) ∧ Chg [] W2 wr) (fun s5 _ => K - (intOf s5).toNat)
  case atStart => exact ⟨0, Nat.zero_le _, rfl, Chg.refl _ _⟩
  case round =>
    obtain ⟨k, hk, rfl, hc⟩ := hrel
    replace y6 := hc.cell y6 (by simp)
    replace z6 := hc.cell z6 (by simp)
    have CC := Lib.hid (C12.out.then hc)
    have CW := Lib.hid (hc)
    clear hc y0 y1 y2 y3 y4 y5 z0 z1 z2 z3 z4 z5
    by_cases hlt : k < K
    · have dlt : decide ((k : Int) < (K : Int)) = true := decide_eq_true (by omega)
      have hkl : k < p.ks.length := by rw [← HK.out]; exact hlt
      obtain ⟨g, o, h1, _, hin1⟩ := S2.out.at (by omega)
      obtain ⟨g', o', h2, _, hin2⟩ := T2.out.at (by omega)
      obtain ⟨X, hX⟩ : ∃ X, X = p.ks.getD k secL.d := ⟨_, rfl⟩
      have i1 := (hin1 k hkl).frame CW.out
      have i2 := (hin2 k hkl).frame CW.out
      rw [← hX] at i1 i2
      rw [h1] at y6
      rw [h2] at z6
      have hneq := Sec.neq X X
      rw [decide_eq_true rfl] at hneq
      have hw1 : wrap64 ((k : Int) + 1) = (k : Int) + 1 := by have := Hkm.out; unfold wrap64; omega
      obtain ⟨a0, a1, a2, a3, a4, a5⟩ := Sec.at i1
      obtain ⟨b0, b1, b2, b3, b4, b5⟩ := Sec.at i2
      rw [show secL.n = 6 from rfl] at a0 a1 a2 a3 a4 a5 b0 b1 b2 b3 b4 b5
      have I1 := Lib.hid i1
      have I2 := Lib.hid i2
      have HX := Lib.hid hX
      have Hin1 := Lib.hid hin1
      have Hin2 := Lib.hid hin2
      have H1 := Lib.hid h1
      have H2 := Lib.hid h2
      clear i1 i2 hX hin1 hin2 h1 h2
      go_upto_region 6 with fail
      go_quiet (fail)
      go_wp2
      go_roundw
      case rel => exact ⟨k + 1, hlt, (congrArg (Value.int .i64) hw1).trans rfl, CW.out.then ((Chg.refl _ _).drewN _)⟩
      case measure =>
        rw [hw1]
        show K - ((k : Int) + 1).toNat < K - (k : Int).toNat
        omega
    · obtain rfl : k = K := by omega
      have dlt : decide ((k : Int) < (k : Int)) = false := decide_eq_false (by omega)
      go_wp2
      go_ret
      exact ⟨rfl, CC.out⟩
end Go.Proofs.YtnaonkbbecdboaaDoor
