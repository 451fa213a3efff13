/- Lemmas, laid together: part 37 of 41. Conditions: none but each lemma's own. -/
import Derived.Test.YtkomocgodljecaaGreatDoorK33
import Derived.Test.YtkomocgodljecaaGreatDoorK36
import Derived.Deep.DeepCutAuto
import Derived.Deep.CutBlock
import Derived.Deep.DeepMust
/- bind.Make, of any fixups. -/
namespace Go.Proofs.YtkomocgodljecaaGreatDoor
open Go.RowKit
set_option maxRecDepth 100000

theorem meas_w {L k : Nat} (hw : wrap64 ((k : Int) + 1) = (k : Int) + 1) (h : k < L) : L - (intOf (.int .i64 (wrap64 ((k : Int) + 1)))).toNat < L - (intOf (.int .i64 (k : Int))).toNat := by
  rw [hw]
  show L - ((k : Int) + 1).toNat < L - (k : Int).toNat
  omega
theorem meas_v {L k : Nat} (h : k < L) : L - (intOf (.int .i64 ((k : Int) + 1))).toNat < L - (intOf (.int .i64 (k : Int))).toNat := by
  show L - ((k : Int) + 1).toNat < L - (k : Int).toNat
  omega
/-- What a call of Make hands back. -/
def BMakeP (ls : List Seg) (K : Int) (nd : Nat) (S : List Fx) (w : World) (e : Ending) (w' : World) : Prop :=
  ∃ so : SlV, e = .returned (.tuple #[so.v, .int .i64 (mayBE K nd ls S)]) ∧ Chg [] w w' ∧ (mayBE K nd ls S = 0 → BB w' w.heap.size so.v (allN ls K S)) ∧ (¬ mayBE K nd ls S = 0 → so = ⟨none, 0, 0⟩)
set_option linter.unusedSimpArgs false in
set_option maxHeartbeats 8000000 in
theorem BMake_any (m : Img) (K : Int) (nd : Nat) (hnd : m.deps.n = nd) (ls : List Seg) (hls : SegsB ls) (h16 : ls.length ≤ 16) (l : List Fx) (hl5 : l.length ≤ 100000) (hat : ∀ f ∈ l, (0 ≤ f.at_ ∧ f.at_ < 18446744073709551616) ∧ -9223372036854775808 ≤ f.add ∧ f.add < 9223372036854775808) (v : Value) (w : World) (rd : segL.Rd w m.segs.v ls) (hl : FxRd w v l) :
    Calls Tryz.prog 7 #[imgL.val m, .int .i64 K, v] w (BMakeP ls K nd (setF l) w) := by
  obtain ⟨S, hS⟩ : ∃ S, S = setF l := ⟨_, rfl⟩
  have hSat : ∀ f ∈ S, (0 ≤ f.at_ ∧ f.at_ < 18446744073709551616) ∧ -9223372036854775808 ≤ f.add ∧ f.add < 9223372036854775808 := fun f hf => hat f (mem_setF.1 (hS ▸ hf))
  have hSl : S.length ≤ 100000 := by have := setF_len l; rw [← hS] at this; omega
  have HSE := Lib.hid (fun w rd => FSet_any l v w rd hl5)
  have HMY := Lib.hid (fun base a cap w rd hb => may_any m K nd hnd ls hls S hSl (fun f hf => (hSat f hf).1) base a cap w rd hb)
  rw [← hS] at HSE ⊢
  unfold BMakeP
  obtain ⟨E, hE⟩ : ∃ E, E = mayBE K nd ls S := ⟨_, rfl⟩
  rw [← hE] at HMY ⊢
  have HRD := Lib.hid rd
  have Hl := Lib.hid hl
  have HLS := Lib.hid hls
  have HS := Lib.hid hS
  have HAT := Lib.hid hSat
  have Hat := Lib.hid hat
  have HE := Lib.hid hE
  clear rd hl hls hS hSat hat hE
  go_enter Tryz.func7, Tryz.ntmps7
  go_wp2_with ((with_reducible refine Lay.bxL (L := imgL) 30 m ?_ ?_); exact rfl; intro W1 bi ebi cbi xbi; replace ebi := Lib.hid ebi; replace cbi := Lib.hid cbi; replace xbi := Lib.hid xbi; refine Hid.out ?_)
  refine Lib.hid ?_
  go_wp2_with fail
  refine (HSE.out _ (Hl.out.frame cbi.out)).mono ?_
  rintro e W2 ⟨v2, rfl, hb, hc⟩
  have FB2 := Lib.hid (fb_of hb)
  obtain ⟨A, C, rfl, hAC, _⟩ := FB2.out.rd.shape
  have C2 : Hid (Chg [] w W2) := Lib.hid (cbi.out.then hc)
  have BI2 := Lib.hid (xbi.out.frame hc)
  clear hb hc
  go_wp2_with ((with_reducible refine Lay.ldL Tryz.tImg m (BI2.out.in) ?_ ?_); exact rfl; refine Hid.out ?_)
  refine Lib.hid ?_
  go_wp2_with fail
  refine (HMY.out _ _ _ W2 (HRD.out.frame C2.out) FB2.out).mono ?_
  rintro e W3 ⟨rfl, h3⟩
  have C3 : Hid (Chg [] W2 W3) := Lib.hid (h3)
  clear h3
  by_cases hE0 : E = 0
  case neg =>
    have e0 : (E == 0) = false := by rw [beq_eq_false_iff_ne]; exact hE0
    go_wp2
    go_ret2
    exact ⟨⟨none, 0, 0⟩, rfl, C2.out.then C3.out, fun h => absurd h hE0, fun _ => rfl⟩
  case pos =>
    subst hE0
    have HM := Lib.hid (mayBE_zero HE.out.symm)
    go_wp2_with ((with_reducible refine Lay.alL Tryz.tFx ?_); intro W4 bn ebn cbn xbn; replace ebn := Lib.hid ebn; replace cbn := Lib.hid cbn; replace xbn := Lib.hid xbn; refine Hid.out ?_)
    refine Lib.hid ?_
    go_wp2_with ((with_reducible refine Lay.stL Tryz.tFx (⟨0, 2, 0, 0, ⟨#[]⟩, 0, false⟩ : Fx) (xbn.out) ?_ ?_ ?_); exact rfl; exact rfl; intro W5 cW5 xW5; replace cW5 := Lib.hid cW5; replace xW5 := Lib.hid xW5; refine Hid.out ?_)
    refine Lib.hid ?_
    have C5 : Hid (Chg [] W3 W5) := Lib.hid (cbn.out.new cW5.out (by rw [ebn.out]; exact Nat.le_refl _))
    have X5 := Lib.hid (xW5.out)
    have hbn3 : W3.heap.size ≤ bn := by rw [ebn.out]; exact Nat.le_refl _
    clear ebn cbn xbn cW5 xW5
    go_upto_if 29 with fail
    go_cut [] (fun wx => fxl.Box wx bn (now0 K) ∧ Chg [] W3 wx)
    case first =>
      by_cases hk2 : K = 2
      · have e2 : (K == 2) = true := by rw [hk2]; rfl
        have z5 := X5.out.frozen 3
        have y3 : W5.cell? ⟨bn, 3, none⟩ = some (.int .i64 0) := by
          have := X5.out.in 3 (by decide)
          rw [Nat.zero_add] at this
          exact this
        go_wp2_with fail
        go_meet
        refine ⟨?_, C5.out.setCell _ _ (.inr hbn3)⟩
        have := Lay.Box.set X5.out 3 (.int .i64 (-3)) (now0 K) (by unfold now0; rw [if_pos hk2]; rfl)
        exact this
      · have e2 : (K == 2) = false := by rw [beq_eq_false_iff_ne]; exact hk2
        go_wp2_with fail
        go_meet
        refine ⟨?_, C5.out⟩
        have : now0 K = ⟨0, 2, 0, 0, ⟨#[]⟩, 0, false⟩ := by unfold now0; rw [if_neg hk2]
        rw [this]
        exact X5.out
    case rest =>
      obtain ⟨x6, c6⟩ := hcut
      obtain ⟨W6, rfl⟩ : ∃ W6, W6 = wc := ⟨_, rfl⟩
      have X6 := Lib.hid (x6)
      have C6 := Lib.hid (c6)
      obtain ⟨B0, hB0⟩ : ∃ B, B = W6.heap.size := ⟨_, rfl⟩
      have hbn0 : bn < B0 := by rw [hB0]; exact x6.lt
      have hB06 : B0 ≤ W6.heap.size := by omega
      have hB2 : W2.heap.size ≤ B0 := by rw [hB0]; exact (C3.out.then c6).size
      have hB3 : W3.heap.size ≤ B0 := by rw [hB0]; exact c6.size
      clear x6 c6 C5 X5
      have HB0 := Lib.hid hB0
      clear hB0
      go_wp2_with fail
      go_loopw [11, 12, 33] (fun s11 s12 s33 wr => ∃ (k : Nat) (so : SlV) (out : List UInt8), BkI ls K S k out ∧ s11 = so.v ∧ s12 = .bool (!decide (k = 0)) ∧ s33 = .int .i64 (k : Int) ∧ BB wr B0 so.v out ∧ B0 ≤ wr.heap.size ∧ fxl.Box wr bn (nowN K S k) ∧ Chg [] W3 wr) (fun _ _ s33 _ => S.length - (intOf s33).toNat)
      case atStart => exact ⟨0, ⟨none, 0, 0⟩, [], BkI.zero ls K S, rfl, rfl, rfl, Lay.Buf.nil _ _, hB06, X6.out, C6.out⟩
      case round =>
        obtain ⟨k, so, out, hI, rfl, rfl, rfl, h1, h2, h3, h4⟩ := hrel
        have B1 := Lib.hid h1
        have N1 := Lib.hid h3
        have C1 := Lib.hid h4
        have HI := Lib.hid hI
        clear h1 h3 h4 hI
        by_cases hlt : k < S.length
        · have dlt : decide ((k : Int) < (S.length : Int)) = true := decide_eq_true (by omega)
          obtain ⟨x, hx⟩ : ∃ x, x = S.getD k fxl.d := ⟨_, rfl⟩
          have hxS : x ∈ S := by rw [hx]; exact getD_memF hlt
          have Hxb := Lib.hid (HAT.out x hxS)
          obtain ⟨hk2, hmf, hkw⟩ := HM.out.kind x hxS
          obtain ⟨hm1, hm2, hm3, hm4, hm5, hm6⟩ := mayFx_bind hmf hk2
          obtain ⟨g, cap', he0, _, _, _, _, _, _, hIn⟩ := FB2.out.at (by omega)
          cases he0
          have hI2 := (hIn k hlt).frame (C3.out.then C1.out)
          rw [← hx] at hI2
          obtain ⟨y, hy⟩ : ∃ y, y = nowN K S k := ⟨_, rfl⟩
          rw [← hy] at N1
          have HI2 := Lib.hid hI2
          have Hx := Lib.hid hx
          have Hk2 := Lib.hid hk2
          have Hmf := Lib.hid hmf
          have Hkw := Lib.hid hkw
          have Hm1 := Lib.hid hm1
          have Hm4 := Lib.hid hm4
          have Hm6 := Lib.hid hm6
          have HxS := Lib.hid hxS
          have HIn := Lib.hid hIn
          clear hI2 hx hk2 hmf hkw hm1 hm4 hm6 hxS hIn
          go_wp2_with ((with_reducible refine Lay.ldL Tryz.tFx x (HI2.out) ?_ ?_); exact rfl; refine Hid.out ?_)
          refine Lib.hid ?_
          go_wp2_with ((with_reducible refine Lay.alL Tryz.tFx ?_); intro W7a bf ebf cbf xbf; replace ebf := Lib.hid ebf; replace cbf := Lib.hid cbf; replace xbf := Lib.hid xbf; refine Hid.out ?_)
          refine Lib.hid ?_
          go_wp2_with ((with_reducible refine Lay.stL Tryz.tFx x (xbf.out) ?_ ?_ ?_); exact rfl; exact rfl; intro W7 cW7 xW7; replace cW7 := Lib.hid cW7; replace xW7 := Lib.hid xW7; refine Hid.out ?_)
          refine Lib.hid ?_
          have c17 := cbf.out.new cW7.out (by rw [ebf.out]; exact Nat.le_refl _)
          have C7 : Hid (Chg [] W3 W7) := Lib.hid (C1.out.then c17)
          have F7 := Lib.hid (xW7.out)
          have N7 := Lib.hid (N1.out.frame c17)
          have G7 : Hid (Gro W7 B0 so.v so.v out W7) := Lib.hid (Gro.start (B1.out.pure c17) (Nat.le_trans h2 c17.size))
          have hw1 : wrap64 ((k : Int) + 1) = (k : Int) + 1 := by unfold wrap64; omega
          have NM : Hid (∀ b, b < B0 → b ∉ so.v.ownBlock.toList) := by
            refine Lib.hid ?_
            intro b hb
            rcases hob : so.v.ownBlock with _ | b'
            · simp
            · have q3 := (B1.out.lt b' hob).1
              simp
              omega
          have hbfm : bf ∉ so.v.ownBlock.toList := by
            have q2 := ebf.out
            rcases hob : so.v.ownBlock with _ | b'
            · simp
            · have q3 := (B1.out.lt b' hob).2
              simp
              omega
          have hbnm : bn ∉ so.v.ownBlock.toList := NM.out bn hbn0
          have hbim : bi ∉ so.v.ownBlock.toList := NM.out bi (Nat.lt_of_lt_of_le BI2.out.lt hB2)
          clear c17 cbf xbf cW7 xW7 ebf h2 N1 B1 C1
          have KF : Hid (∀ wx, Chg so.v.ownBlock.toList W7 wx → ∀ j, j < 7 → wx.cell? ⟨bf, j, none⟩ = (fxl.f x)[j]?) := by
            refine Lib.hid ?_
            intro wx h j hj
            have := (F7.out.frameS h hbfm).in j hj
            rwa [Nat.zero_add] at this
          have KN : Hid (∀ wx, Chg so.v.ownBlock.toList W7 wx → ∀ j, j < 7 → wx.cell? ⟨bn, j, none⟩ = (fxl.f y)[j]?) := by
            refine Lib.hid ?_
            intro wx h j hj
            have := (N7.out.frameS h hbnm).in j hj
            rwa [Nat.zero_add] at this
          have f0 : W7.cell? ⟨bf, 0, none⟩ = some (.int .u64 x.at_) := KF.out W7 (Chg.refl _ _) 0 (by decide)
          have f3 : W7.cell? ⟨bf, 3, none⟩ = some (.int .i64 x.ord) := KF.out W7 (Chg.refl _ _) 3 (by decide)
          have f4 : W7.cell? ⟨bf, 4, none⟩ = some (.string x.sym) := KF.out W7 (Chg.refl _ _) 4 (by decide)
          have f5 : W7.cell? ⟨bf, 5, none⟩ = some (.int .i64 x.add) := KF.out W7 (Chg.refl _ _) 5 (by decide)
          have f6 : W7.cell? ⟨bf, 6, none⟩ = some (.bool x.weak) := KF.out W7 (Chg.refl _ _) 6 (by decide)
          have n3 : W7.cell? ⟨bn, 3, none⟩ = some (.int .i64 y.ord) := KN.out W7 (Chg.refl _ _) 3 (by decide)
          have hol : out.length ≤ 6000000 := HI.out.len HM.out
          obtain ⟨OA, hOA⟩ : ∃ q, q = out ++ ordN y.ord x.ord := ⟨_, rfl⟩
          have hOAl : OA.length ≤ 6000011 := hOA ▸ len_ord y.ord x.ord hol
          obtain ⟨OB, hOB⟩ : ∃ q, q = OA ++ symN y.sym y.weak x := ⟨_, rfl⟩
          have hOBl : OB.length ≤ 6000300 := hOB ▸ len_sym y.sym y.weak x hm5 hOAl
          obtain ⟨OC, hOC⟩ : ∃ q, q = OB ++ addN y.add x := ⟨_, rfl⟩
          have hOCl : OC.length ≤ 6000400 := hOC ▸ len_add y.add x hOBl
          obtain ⟨OD, hOD⟩ : ∃ q, q = OC ++ plcN ls (decide (k = 0)) y.at_ x := ⟨_, rfl⟩
          have hODl : OD.length ≤ 6000500 := hOD ▸ len_plc ls (decide (k = 0)) y.at_ x hOCl
          have HOA := Lib.hid hOA
          have HOB := Lib.hid hOB
          have HOC := Lib.hid hOC
          have HOD := Lib.hid hOD
          have Hy := Lib.hid hy
          clear hOA hOB hOC hOD hy
          go_upto_block 2 with fail
          go_cut [11] (fun s11 wx => ∃ s1 : SlV, s11 = s1.v ∧ Gro W7 B0 so.v s1.v OA wx)
          case first =>
            by_cases q0 : x.ord = y.ord
            · have e0 : (x.ord == y.ord) = true := by rw [q0]; simp
              have HQ : Hid (OA = out) := Lib.hid (by rw [HOA.out]; unfold ordN; rw [if_pos q0, List.append_nil])
              have Q0 := Lib.hid q0
              clear q0
              go_wp2_with fail
              go_meet
              exact ⟨so, rfl, HQ.out ▸ G7.out⟩
            · have e0 : (x.ord == y.ord) = false := by rw [beq_eq_false_iff_ne]; exact q0
              by_cases q1 : x.ord < 0
              · obtain ⟨q, hq⟩ : ∃ q : Nat, q = (64 + x.ord).toNat := ⟨_, rfl⟩
                have hq2 : q < 256 := by omega
                have ho1 : bits .or .u8 48 (x.ord % 16) = (q : Int) := by rw [orB48m x.ord hm2 q1]; omega
                have Q := Lib.hid (u8_val q hq2)
                have HQ : Hid (OA = out ++ [UInt8.ofNat q]) := Lib.hid (by rw [HOA.out, hq]; unfold ordN; rw [if_neg q0, if_pos q1])
                have Hq := Lib.hid hq
                clear hq
                go_wp2_with (at_builtin; go_must (refine Lay.app (L := byteL) Tryz.infoByte rfl _ _ rfl B0 so.v out rfl (G7.out.bb.pure ((Chg.refl _ _).alloc _)) _ rfl [UInt8.ofNat q] (Lay.Rd.of_heap (heap_alloc_eq _ _) Q.out rfl (show 1 ≤ maxLen by decide)) (len_app hol (one_1000 (UInt8.ofNat q)) (by decide)).1 (len_app hol (one_1000 (UInt8.ofNat q)) (by decide)).2 (Nat.le_trans G7.out.sz (by simp)) ?_); intro v8 W8 hov hgv hlc; refine Hid.out ?_)
                refine Lib.hid ?_
                have G8 := Lib.hid ((G7.out.pure ((Chg.refl _ _).alloc _)).grown hov hgv hlc)
                obtain ⟨s8, rfl⟩ := G8.out.shape
                clear hov hgv hlc Q
                go_wp2_with fail
                go_meet
                exact ⟨s8, rfl, HQ.out ▸ G8.out⟩
              · obtain ⟨n, hn⟩ : ∃ n : Nat, x.ord = (n : Int) := ⟨x.ord.toNat, by omega⟩
                by_cases q2 : n ≤ 15
                · obtain ⟨q, hq⟩ : ∃ q : Nat, q = 16 + n := ⟨_, rfl⟩
                  have hq2 : q < 256 := by omega
                  have ho1 : bits .or .u8 16 x.ord = (q : Int) := by rw [hn, hq]; exact orB16 n (by omega)
                  have hle : x.ord ≤ 15 := by omega
                  have Q := Lib.hid (u8_val q hq2)
                  have HQ : Hid (OA = out ++ [UInt8.ofNat q]) := Lib.hid (by rw [HOA.out, hq]; unfold ordN; rw [if_neg q0, if_neg q1, if_pos (by omega)]; congr 2; congr 1; omega)
                  have Hq := Lib.hid hq
                  have Hn := Lib.hid hn
                  clear hq hn
                  go_wp2_with (at_builtin; go_must (refine Lay.app (L := byteL) Tryz.infoByte rfl _ _ rfl B0 so.v out rfl (G7.out.bb.pure ((Chg.refl _ _).alloc _)) _ rfl [UInt8.ofNat q] (Lay.Rd.of_heap (heap_alloc_eq _ _) Q.out rfl (show 1 ≤ maxLen by decide)) (len_app hol (one_1000 (UInt8.ofNat q)) (by decide)).1 (len_app hol (one_1000 (UInt8.ofNat q)) (by decide)).2 (Nat.le_trans G7.out.sz (by simp)) ?_); intro v8 W8 hov hgv hlc; refine Hid.out ?_)
                  refine Lib.hid ?_
                  have G8 := Lib.hid ((G7.out.pure ((Chg.refl _ _).alloc _)).grown hov hgv hlc)
                  obtain ⟨s8, rfl⟩ := G8.out.shape
                  clear hov hgv hlc Q
                  go_wp2_with fail
                  go_meet
                  exact ⟨s8, rfl, HQ.out ▸ G8.out⟩
                · have hn64 : n ≤ 64 := by omega
                  have hgt : ¬ x.ord ≤ 15 := by omega
                  have hwn : IntKind.u64.wrap x.ord = x.ord := by rw [IntKind.wrap_u64]; omega
                  have Q : Hid ([Value.int .u8 32] = byteL.vals [UInt8.ofNat 32]) := Lib.hid (rfl)
                  have HQ : Hid (OA = out ++ [UInt8.ofNat 32] ++ putU n) := by
                    refine Lib.hid ?_
                    rw [HOA.out]
                    unfold ordN
                    rw [if_neg q0, if_neg q1, if_neg hgt, hn, Int.toNat_natCast, List.append_assoc]
                    rfl
                  have HPU : Hid (∀ w, Calls Tryz.prog 16 #[.int .u64 x.ord] w (PutG w (putU n))) := by
                    refine Lib.hid ?_
                    intro w
                    have := put_g n (by omega) w
                    rwa [← hn] at this
                  have Hn := Lib.hid hn
                  clear hn
                  go_wp2_with (at_builtin; go_must (refine Lay.app (L := byteL) Tryz.infoByte rfl _ _ rfl B0 so.v out rfl (G7.out.bb.pure ((Chg.refl _ _).alloc _)) _ rfl [UInt8.ofNat 32] (Lay.Rd.of_heap (heap_alloc_eq _ _) Q.out rfl (show 1 ≤ maxLen by decide)) (len_app hol (one_1000 (UInt8.ofNat 32)) (by decide)).1 (len_app hol (one_1000 (UInt8.ofNat 32)) (by decide)).2 (Nat.le_trans G7.out.sz (by simp)) ?_); intro v8 W8 hov hgv hlc; refine Hid.out ?_)
                  refine Lib.hid ?_
                  have G8 := Lib.hid ((G7.out.pure ((Chg.refl _ _).alloc _)).grown hov hgv hlc)
                  obtain ⟨s8, rfl⟩ := G8.out.shape
                  clear hov hgv hlc Q
                  go_wp2_with fail
                  refine (HPU.out _).mono ?_
                  unfold PutG
                  rintro e W9 ⟨gp, cp, rfl, hpr, hp1, hp2, hpc⟩
                  have G9 := Lib.hid (G8.out.pure hpc)
                  have P9 := Lib.hid (hpr)
                  have hl9 := len_1 hol (UInt8.ofNat 32)
                  clear hpr hpc hp1 hp2
                  go_wp2_with (at_builtin; go_must (refine Lay.app (L := byteL) Tryz.infoByte rfl _ _ rfl B0 s8.v (out ++ [UInt8.ofNat 32]) rfl G9.out.bb _ rfl (putU n) P9.out (len_app hl9 (putU_1000 n) (by decide)).1 (len_app hl9 (putU_1000 n) (by decide)).2 G9.out.sz ?_); intro v9 W9b hov hgv hlc; refine Hid.out ?_)
                  refine Lib.hid ?_
                  have G10 := Lib.hid (G9.out.grown hov hgv hlc)
                  obtain ⟨s9, rfl⟩ := G10.out.shape
                  clear hov hgv hlc
                  go_wp2_with fail
                  go_meet
                  exact ⟨s9, rfl, by rw [HQ.out]; exact G10.out⟩
          case rest =>
            obtain ⟨s1, rfl, g1⟩ := hcut
            obtain ⟨Wp, rfl⟩ : ∃ W, W = wc := ⟨_, rfl⟩
            have G1 := Lib.hid g1
            clear g1
            have u4 : Wp.cell? ⟨bf, 4, none⟩ = some (.string x.sym) := KF.out Wp G1.out.cg 4 (by decide)
            have u6 : Wp.cell? ⟨bf, 6, none⟩ = some (.bool x.weak) := KF.out Wp G1.out.cg 6 (by decide)
            have v4 : Wp.cell? ⟨bn, 4, none⟩ = some (.string y.sym) := KN.out Wp G1.out.cg 4 (by decide)
            have v6 : Wp.cell? ⟨bn, 6, none⟩ = some (.bool y.weak) := KN.out Wp G1.out.cg 6 (by decide)
            obtain ⟨q, hq⟩ : ∃ q, q = decide (x.sym = y.sym ∧ x.weak = y.weak) := ⟨_, rfl⟩
            have Hq := Lib.hid hq
            clear hq
            clear f3 n3 f6
            go_upto_region 20 with fail
            go_cut [81] (fun s81 wx => s81 = .bool (!q) ∧ wx = Wp)
            case first =>
              by_cases qs : x.sym = y.sym
              · rw [← qs] at v4
                cases hxw : x.weak <;> cases hyw : y.weak
                all_goals
                  have HQ := Lib.hid (show q = decide (x.weak = y.weak) by rw [Hq.out]; simp [qs])
                  rw [hxw] at u6
                  rw [hyw] at v6
                  rw [hxw, hyw] at HQ
                  have Qs := Lib.hid qs
                  have Hxw := Lib.hid hxw
                  have Hyw := Lib.hid hyw
                  clear qs hxw hyw
                  go_wp2_with fail
                  go_meet
                  exact ⟨by rw [HQ.out]; rfl, rfl⟩
              · have es := sym_ne qs
                have HQ : Hid (q = false) := Lib.hid (by rw [Hq.out]; simp [qs])
                have Qs := Lib.hid qs
                clear qs
                go_wp2_with fail
                go_meet
                exact ⟨by rw [HQ.out]; rfl, rfl⟩
            case rest =>
              obtain ⟨rfl, rfl⟩ := hcut
              obtain ⟨Wp, rfl⟩ : ∃ W, W = wc := ⟨_, rfl⟩
              clear v4 v6 u4
              go_upto_if 81 with fail
              go_cut [11] (fun s11 wx => ∃ s2 : SlV, s11 = s2.v ∧ Gro W7 B0 so.v s2.v OB wx)
              case first =>
                cases q
                · obtain ⟨wv, hwv⟩ : ∃ n : Nat, n = if x.weak = true then 65 else 64 := ⟨_, rfl⟩
                  have hwv2 : wv < 256 := by rw [hwv]; split <;> decide
                  have HQ : Hid (OB = OA ++ [UInt8.ofNat wv] ++ x.sym.data.toList ++ [0]) := by
                    refine Lib.hid ?_
                    have h0 := Hq.out
                    rw [HOB.out, hwv]
                    unfold symN
                    rw [if_neg (of_decide_eq_false h0.symm)]
                    cases x.weak <;> simp [List.append_assoc]
                  have u6 : Wp.cell? ⟨bf, 6, none⟩ = some (.bool x.weak) := KF.out Wp G1.out.cg 6 (by decide)
                  go_upto_if 83 with fail
                  go_cut [16] (fun s16 wx => s16 = .int .u8 (wv : Int) ∧ wx = Wp)
                  case first =>
                    cases hxw : x.weak
                    · rw [hxw] at u6 hwv
                      obtain rfl : wv = 64 := hwv
                      have Hxw := Lib.hid hxw
                      clear hxw
                      go_wp2_with fail
                      go_meet
                      exact ⟨rfl, rfl⟩
                    · rw [hxw] at u6 hwv
                      obtain rfl : wv = 65 := hwv
                      have hb1 : bits .or .u8 64 1 = 65 := by decide
                      have Hxw := Lib.hid hxw
                      clear hxw
                      go_wp2_with fail
                      go_meet
                      exact ⟨rfl, rfl⟩
                  case rest =>
                    obtain ⟨rfl, rfl⟩ := hcut
                    obtain ⟨Wp, rfl⟩ : ∃ W, W = wc := ⟨_, rfl⟩
                    have Hwv := Lib.hid hwv
                    clear hwv
                    clear u6
                    go_upto_region 24 with fail
                    have RC : Gro W7 B0 so.v s1.v OA Wp.drew := G1.out.pure ((Chg.refl [] _).drew)
                    refine wp_region_noPanic ?_
                    refine wp_region_held_drew (S := fun w' => Chg so.v.ownBlock.toList W7 w') (by kernel_rfl) RC.cg (fun hHeld => ?_)
                    refine take_read (i := 0) (v := ?_) (by simp only [List.getElem?_toArray, List.getElem?_cons_zero]; rfl) (by kernel_rfl) (by kernel_rfl) (by kernel_rfl) (fun _ _ _ h => h) hHeld ?_ ?_
                    rotate_left
                    · intro w hSw
                      go_simp
                      try with_reducible rfl
                    try simp only [Act.put, List.setIfInBounds_toArray, List.set_cons_zero, List.set_cons_succ]
                    refine take_read (i := 1) (v := ?_) (by simp only [List.getElem?_toArray, List.getElem?_cons_succ, List.getElem?_cons_zero]; rfl) (by kernel_rfl) (by kernel_rfl) (by kernel_rfl) (fun _ _ _ h => h) hHeld ?_ ?_
                    rotate_left
                    · intro w hSw
                      go_simp
                      try with_reducible rfl
                    try simp only [Act.put, List.setIfInBounds_toArray, List.set_cons_zero, List.set_cons_succ]
                    refine take_read (i := 4) (v := ?_) (by simp only [List.getElem?_toArray, List.getElem?_cons_succ, List.getElem?_cons_zero]; rfl) (by kernel_rfl) (by kernel_rfl) (by kernel_rfl) (fun _ _ _ h => h) hHeld ?_ ?_
                    rotate_left
                    · intro w hSw
                      go_simp
                      try with_reducible rfl
                    try simp only [Act.put, List.setIfInBounds_toArray, List.set_cons_zero, List.set_cons_succ]
                    refine take_read (i := 5) (v := ?_) (by simp only [List.getElem?_toArray, List.getElem?_cons_succ, List.getElem?_cons_zero]; rfl) (by kernel_rfl) (by kernel_rfl) (by kernel_rfl) (fun _ _ _ h => h) hHeld ?_ ?_
                    rotate_left
                    · intro w hSw
                      have f4 := hSw.cell f4 hbfm
                      go_simp
                      try with_reducible rfl
                    try simp only [Act.put, List.setIfInBounds_toArray, List.set_cons_zero, List.set_cons_succ]
                    refine wpAnyH_ready (rs := [2, 7]) (by kernel_rfl) (by simp) ?_
                    refine AllReadyH.cons rfl (fun K hK => ?_) (AllReadyH.cons rfl (fun K hK => ?_) AllReadyH.nil)
                    · refine gBit rfl _ rfl (UInt8.ofNat wv) wv (u8_int wv hwv2) rfl RC (fun w2 g2 hr2 hd2 hc2 => ?_)
                      change K (Act.put _ (some 88) _) w2
                      try replace hd7 := hd7.pure hc2
                      clear RC
                      have RC := hr2
                      refine hK.out _ _ hr2.cg (fun hHeld2 => ?_)
                      clear hK hHeld K
                      have hHeld := hHeld2
                      clear hHeld2
                      try (unfold Act.put; simp only [List.setIfInBounds_toArray, List.set_cons_zero, List.set_cons_succ])
                      refine wpAnyH_ready (rs := [3, 7]) (by kernel_rfl) (by simp) ?_
                      refine AllReadyH.cons rfl (fun K hK => ?_) (AllReadyH.cons rfl (fun K hK => ?_) AllReadyH.nil)
                      · refine gApp rfl _ _ rfl rfl RC hd2 rfl (Nat.le_trans hOAl (by decide)) (one_1000 _) (fun v3 w3 hr3 hg3 hl3 => ?_)
                        change K (Act.put _ (some 89) v3) w3
                        try replace hd7 := hd7.grown hg3 hl3
                        clear RC hd2
                        have RC := hr3
                        refine hK.out _ _ hr3.cg (fun hHeld2 => ?_)
                        clear hK hHeld K
                        have hHeld := hHeld2
                        clear hHeld2
                        try (unfold Act.put; simp only [List.setIfInBounds_toArray, List.set_cons_zero, List.set_cons_succ])
                        refine wpAnyH_ready (rs := [6, 7]) (by kernel_rfl) (by simp) ?_
                        refine AllReadyH.cons rfl (fun K hK => ?_) (AllReadyH.cons rfl (fun K hK => ?_) AllReadyH.nil)
                        · refine gStr rfl _ _ rfl rfl RC x.sym rfl (len_100 hOAl (one_1000 _) (by decide)) (Nat.le_trans hm5 (by decide)) (fun v6 w6 hr6 hg6 hl6 => ?_)
                          change K (Act.put _ (some 92) v6) w6
                          try replace hd7 := hd7.grown hg6 hl6
                          clear RC
                          have RC := hr6
                          refine hK.out _ _ hr6.cg (fun hHeld2 => ?_)
                          clear hK hHeld K
                          have hHeld := hHeld2
                          clear hHeld2
                          try (unfold Act.put; simp only [List.setIfInBounds_toArray, List.set_cons_zero, List.set_cons_succ])
                          refine wpAnyH_ready (rs := [7]) (by kernel_rfl) (by simp) ?_
                          refine AllReadyH.cons (by simp only [List.getElem?_toArray, List.getElem?_cons_succ, List.getElem?_cons_zero]; rfl) (fun K hK => ?_) AllReadyH.nil
                          refine gBit rfl _ rfl 0 0 rfl rfl RC (fun w7 g7 hr7 hd7 hc7 => ?_)
                          change K (Act.put _ (some 93) _) w7
                          try replace hd2 := hd2.pure hc7
                          clear RC
                          have RC := hr7
                          refine hK.out _ _ hr7.cg (fun hHeld2 => ?_)
                          clear hK hHeld K
                          have hHeld := hHeld2
                          clear hHeld2
                          try (unfold Act.put; simp only [List.setIfInBounds_toArray, List.set_cons_zero, List.set_cons_succ])
                          refine wpAnyH_ready (rs := [8]) (by kernel_rfl) (by simp) ?_
                          refine AllReadyH.cons (by simp only [List.getElem?_toArray, List.getElem?_cons_succ, List.getElem?_cons_zero]; rfl) (fun K hK => ?_) AllReadyH.nil
                          refine gApp rfl _ _ rfl rfl RC hd7 rfl (len_100 (len_1 hOAl _) (sym_len hm5) (by decide)) (one_1000 _) (fun v8 w8 hr8 _ _ => ?_)
                          change K (Act.put _ (some 94) v8) w8
                          obtain ⟨s9, rfl⟩ := hr8.shape
                          refine hK.out _ _ hr8.cg (fun hHeld2 => ?_)
                          clear hK hHeld K
                          have hHeld := hHeld2
                          clear hHeld2
                          try (unfold Act.put; simp only [List.setIfInBounds_toArray, List.set_cons_zero, List.set_cons_succ])
                          refine take_read (i := 9) (v := ?_) (by simp only [List.getElem?_toArray, List.getElem?_cons_succ, List.getElem?_cons_zero]; rfl) (by kernel_rfl) (by kernel_rfl) (by kernel_rfl) (fun _ _ _ h => h) hHeld ?_ ?_
                          rotate_left
                          · intro w hSw
                            go_simp
                            try with_reducible rfl
                          try simp only [Act.put, List.setIfInBounds_toArray, List.set_cons_zero, List.set_cons_succ]
                          refine wpAnyH_done (by kernel_rfl) ?_ _
                          refine NoPanic.normal ?_
                          go_wp2_with fail
                          go_meet
                          exact ⟨s9, rfl, by rw [HQ.out]; exact hr8⟩
                        · refine gBit rfl _ rfl 0 0 rfl rfl RC (fun w7 g7 hr7 hd7 hc7 => ?_)
                          change K (Act.put _ (some 93) _) w7
                          try replace hd2 := hd2.pure hc7
                          clear RC
                          have RC := hr7
                          refine hK.out _ _ hr7.cg (fun hHeld2 => ?_)
                          clear hK hHeld K
                          have hHeld := hHeld2
                          clear hHeld2
                          try (unfold Act.put; simp only [List.setIfInBounds_toArray, List.set_cons_zero, List.set_cons_succ])
                          refine wpAnyH_ready (rs := [6]) (by kernel_rfl) (by simp) ?_
                          refine AllReadyH.cons (by simp only [List.getElem?_toArray, List.getElem?_cons_succ, List.getElem?_cons_zero]; rfl) (fun K hK => ?_) AllReadyH.nil
                          refine gStr rfl _ _ rfl rfl RC x.sym rfl (len_100 hOAl (one_1000 _) (by decide)) (Nat.le_trans hm5 (by decide)) (fun v6 w6 hr6 hg6 hl6 => ?_)
                          change K (Act.put _ (some 92) v6) w6
                          try replace hd7 := hd7.grown hg6 hl6
                          clear RC
                          have RC := hr6
                          refine hK.out _ _ hr6.cg (fun hHeld2 => ?_)
                          clear hK hHeld K
                          have hHeld := hHeld2
                          clear hHeld2
                          try (unfold Act.put; simp only [List.setIfInBounds_toArray, List.set_cons_zero, List.set_cons_succ])
                          refine wpAnyH_ready (rs := [8]) (by kernel_rfl) (by simp) ?_
                          refine AllReadyH.cons (by simp only [List.getElem?_toArray, List.getElem?_cons_succ, List.getElem?_cons_zero]; rfl) (fun K hK => ?_) AllReadyH.nil
                          refine gApp rfl _ _ rfl rfl RC hd7 rfl (len_100 (len_1 hOAl _) (sym_len hm5) (by decide)) (one_1000 _) (fun v8 w8 hr8 _ _ => ?_)
                          change K (Act.put _ (some 94) v8) w8
                          obtain ⟨s9, rfl⟩ := hr8.shape
                          refine hK.out _ _ hr8.cg (fun hHeld2 => ?_)
                          clear hK hHeld K
                          have hHeld := hHeld2
                          clear hHeld2
                          try (unfold Act.put; simp only [List.setIfInBounds_toArray, List.set_cons_zero, List.set_cons_succ])
                          refine take_read (i := 9) (v := ?_) (by simp only [List.getElem?_toArray, List.getElem?_cons_succ, List.getElem?_cons_zero]; rfl) (by kernel_rfl) (by kernel_rfl) (by kernel_rfl) (fun _ _ _ h => h) hHeld ?_ ?_
                          rotate_left
                          · intro w hSw
                            go_simp
                            try with_reducible rfl
                          try simp only [Act.put, List.setIfInBounds_toArray, List.set_cons_zero, List.set_cons_succ]
                          refine wpAnyH_done (by kernel_rfl) ?_ _
                          refine NoPanic.normal ?_
                          go_wp2_with fail
                          go_meet
                          exact ⟨s9, rfl, by rw [HQ.out]; exact hr8⟩
                      · refine gBit rfl _ rfl 0 0 rfl rfl RC (fun w7 g7 hr7 hd7 hc7 => ?_)
                        change K (Act.put _ (some 93) _) w7
                        try replace hd2 := hd2.pure hc7
                        clear RC
                        have RC := hr7
                        refine hK.out _ _ hr7.cg (fun hHeld2 => ?_)
                        clear hK hHeld K
                        have hHeld := hHeld2
                        clear hHeld2
                        try (unfold Act.put; simp only [List.setIfInBounds_toArray, List.set_cons_zero, List.set_cons_succ])
                        refine wpAnyH_ready (rs := [3]) (by kernel_rfl) (by simp) ?_
                        refine AllReadyH.cons (by simp only [List.getElem?_toArray, List.getElem?_cons_succ, List.getElem?_cons_zero]; rfl) (fun K hK => ?_) AllReadyH.nil
                        refine gApp rfl _ _ rfl rfl RC hd2 rfl (Nat.le_trans hOAl (by decide)) (one_1000 _) (fun v3 w3 hr3 hg3 hl3 => ?_)
                        change K (Act.put _ (some 89) v3) w3
                        try replace hd7 := hd7.grown hg3 hl3
                        clear RC hd2
                        have RC := hr3
                        refine hK.out _ _ hr3.cg (fun hHeld2 => ?_)
                        clear hK hHeld K
                        have hHeld := hHeld2
                        clear hHeld2
                        try (unfold Act.put; simp only [List.setIfInBounds_toArray, List.set_cons_zero, List.set_cons_succ])
                        refine wpAnyH_ready (rs := [6]) (by kernel_rfl) (by simp) ?_
                        refine AllReadyH.cons (by simp only [List.getElem?_toArray, List.getElem?_cons_succ, List.getElem?_cons_zero]; rfl) (fun K hK => ?_) AllReadyH.nil
                        refine gStr rfl _ _ rfl rfl RC x.sym rfl (len_100 hOAl (one_1000 _) (by decide)) (Nat.le_trans hm5 (by decide)) (fun v6 w6 hr6 hg6 hl6 => ?_)
                        change K (Act.put _ (some 92) v6) w6
                        try replace hd7 := hd7.grown hg6 hl6
                        clear RC
                        have RC := hr6
                        refine hK.out _ _ hr6.cg (fun hHeld2 => ?_)
                        clear hK hHeld K
                        have hHeld := hHeld2
                        clear hHeld2
                        try (unfold Act.put; simp only [List.setIfInBounds_toArray, List.set_cons_zero, List.set_cons_succ])
                        refine wpAnyH_ready (rs := [8]) (by kernel_rfl) (by simp) ?_
                        refine AllReadyH.cons (by simp only [List.getElem?_toArray, List.getElem?_cons_succ, List.getElem?_cons_zero]; rfl) (fun K hK => ?_) AllReadyH.nil
                        refine gApp rfl _ _ rfl rfl RC hd7 rfl (len_100 (len_1 hOAl _) (sym_len hm5) (by decide)) (one_1000 _) (fun v8 w8 hr8 _ _ => ?_)
                        change K (Act.put _ (some 94) v8) w8
                        obtain ⟨s9, rfl⟩ := hr8.shape
                        refine hK.out _ _ hr8.cg (fun hHeld2 => ?_)
                        clear hK hHeld K
                        have hHeld := hHeld2
                        clear hHeld2
                        try (unfold Act.put; simp only [List.setIfInBounds_toArray, List.set_cons_zero, List.set_cons_succ])
                        refine take_read (i := 9) (v := ?_) (by simp only [List.getElem?_toArray, List.getElem?_cons_succ, List.getElem?_cons_zero]; rfl) (by kernel_rfl) (by kernel_rfl) (by kernel_rfl) (fun _ _ _ h => h) hHeld ?_ ?_
                        rotate_left
                        · intro w hSw
                          go_simp
                          try with_reducible rfl
                        try simp only [Act.put, List.setIfInBounds_toArray, List.set_cons_zero, List.set_cons_succ]
                        refine wpAnyH_done (by kernel_rfl) ?_ _
                        refine NoPanic.normal ?_
                        go_wp2_with fail
                        go_meet
                        exact ⟨s9, rfl, by rw [HQ.out]; exact hr8⟩
                    · refine gBit rfl _ rfl 0 0 rfl rfl RC (fun w7 g7 hr7 hd7 hc7 => ?_)
                      change K (Act.put _ (some 93) _) w7
                      try replace hd2 := hd2.pure hc7
                      clear RC
                      have RC := hr7
                      refine hK.out _ _ hr7.cg (fun hHeld2 => ?_)
                      clear hK hHeld K
                      have hHeld := hHeld2
                      clear hHeld2
                      try (unfold Act.put; simp only [List.setIfInBounds_toArray, List.set_cons_zero, List.set_cons_succ])
                      refine wpAnyH_ready (rs := [2]) (by kernel_rfl) (by simp) ?_
                      refine AllReadyH.cons (by simp only [List.getElem?_toArray, List.getElem?_cons_succ, List.getElem?_cons_zero]; rfl) (fun K hK => ?_) AllReadyH.nil
                      refine gBit rfl _ rfl (UInt8.ofNat wv) wv (u8_int wv hwv2) rfl RC (fun w2 g2 hr2 hd2 hc2 => ?_)
                      change K (Act.put _ (some 88) _) w2
                      try replace hd7 := hd7.pure hc2
                      clear RC
                      have RC := hr2
                      refine hK.out _ _ hr2.cg (fun hHeld2 => ?_)
                      clear hK hHeld K
                      have hHeld := hHeld2
                      clear hHeld2
                      try (unfold Act.put; simp only [List.setIfInBounds_toArray, List.set_cons_zero, List.set_cons_succ])
                      refine wpAnyH_ready (rs := [3]) (by kernel_rfl) (by simp) ?_
                      refine AllReadyH.cons (by simp only [List.getElem?_toArray, List.getElem?_cons_succ, List.getElem?_cons_zero]; rfl) (fun K hK => ?_) AllReadyH.nil
                      refine gApp rfl _ _ rfl rfl RC hd2 rfl (Nat.le_trans hOAl (by decide)) (one_1000 _) (fun v3 w3 hr3 hg3 hl3 => ?_)
                      change K (Act.put _ (some 89) v3) w3
                      try replace hd7 := hd7.grown hg3 hl3
                      clear RC hd2
                      have RC := hr3
                      refine hK.out _ _ hr3.cg (fun hHeld2 => ?_)
                      clear hK hHeld K
                      have hHeld := hHeld2
                      clear hHeld2
                      try (unfold Act.put; simp only [List.setIfInBounds_toArray, List.set_cons_zero, List.set_cons_succ])
                      refine wpAnyH_ready (rs := [6]) (by kernel_rfl) (by simp) ?_
                      refine AllReadyH.cons (by simp only [List.getElem?_toArray, List.getElem?_cons_succ, List.getElem?_cons_zero]; rfl) (fun K hK => ?_) AllReadyH.nil
                      refine gStr rfl _ _ rfl rfl RC x.sym rfl (len_100 hOAl (one_1000 _) (by decide)) (Nat.le_trans hm5 (by decide)) (fun v6 w6 hr6 hg6 hl6 => ?_)
                      change K (Act.put _ (some 92) v6) w6
                      try replace hd7 := hd7.grown hg6 hl6
                      clear RC
                      have RC := hr6
                      refine hK.out _ _ hr6.cg (fun hHeld2 => ?_)
                      clear hK hHeld K
                      have hHeld := hHeld2
                      clear hHeld2
                      try (unfold Act.put; simp only [List.setIfInBounds_toArray, List.set_cons_zero, List.set_cons_succ])
                      refine wpAnyH_ready (rs := [8]) (by kernel_rfl) (by simp) ?_
                      refine AllReadyH.cons (by simp only [List.getElem?_toArray, List.getElem?_cons_succ, List.getElem?_cons_zero]; rfl) (fun K hK => ?_) AllReadyH.nil
                      refine gApp rfl _ _ rfl rfl RC hd7 rfl (len_100 (len_1 hOAl _) (sym_len hm5) (by decide)) (one_1000 _) (fun v8 w8 hr8 _ _ => ?_)
                      change K (Act.put _ (some 94) v8) w8
                      obtain ⟨s9, rfl⟩ := hr8.shape
                      refine hK.out _ _ hr8.cg (fun hHeld2 => ?_)
                      clear hK hHeld K
                      have hHeld := hHeld2
                      clear hHeld2
                      try (unfold Act.put; simp only [List.setIfInBounds_toArray, List.set_cons_zero, List.set_cons_succ])
                      refine take_read (i := 9) (v := ?_) (by simp only [List.getElem?_toArray, List.getElem?_cons_succ, List.getElem?_cons_zero]; rfl) (by kernel_rfl) (by kernel_rfl) (by kernel_rfl) (fun _ _ _ h => h) hHeld ?_ ?_
                      rotate_left
                      · intro w hSw
                        go_simp
                        try with_reducible rfl
                      try simp only [Act.put, List.setIfInBounds_toArray, List.set_cons_zero, List.set_cons_succ]
                      refine wpAnyH_done (by kernel_rfl) ?_ _
                      refine NoPanic.normal ?_
                      go_wp2_with fail
                      go_meet
                      exact ⟨s9, rfl, by rw [HQ.out]; exact hr8⟩
                · have HQ : Hid (OB = OA) := by
                    refine Lib.hid ?_
                    have h0 := Hq.out
                    rw [HOB.out]
                    unfold symN
                    rw [if_pos (of_decide_eq_true h0.symm), List.append_nil]
                  go_wp2_with fail
                  go_meet
                  exact ⟨s1, rfl, by rw [HQ.out]; exact G1.out⟩
              case rest =>
                obtain ⟨s2, rfl, g2⟩ := hcut
                obtain ⟨Wp, rfl⟩ : ∃ W, W = wc := ⟨_, rfl⟩
                have G2 := Lib.hid g2
                clear g2
                clear G1
                have u5 : Wp.cell? ⟨bf, 5, none⟩ = some (.int .i64 x.add) := KF.out Wp G2.out.cg 5 (by decide)
                have v5 : Wp.cell? ⟨bn, 5, none⟩ = some (.int .i64 y.add) := KN.out Wp G2.out.cg 5 (by decide)
                go_upto_if 99 with fail
                go_cut [11] (fun s11 wx => ∃ s3 : SlV, s11 = s3.v ∧ Gro W7 B0 so.v s3.v OC wx)
                case first =>
                  by_cases qa : x.add = y.add
                  · have ea : (x.add == y.add) = true := by rw [qa]; simp
                    have HQ : Hid (OC = OB) := Lib.hid (by rw [HOC.out]; unfold addN; rw [if_pos qa, List.append_nil])
                    have Qa := Lib.hid qa
                    clear qa
                    go_wp2_with fail
                    go_meet
                    exact ⟨s2, rfl, by rw [HQ.out]; exact G2.out⟩
                  · have ea : (x.add == y.add) = false := by rw [beq_eq_false_iff_ne]; exact qa
                    have HQ : Hid (OC = OB ++ [UInt8.ofNat 96] ++ putS x.add) := Lib.hid (by rw [HOC.out]; unfold addN; rw [if_neg qa, List.append_assoc]; rfl)
                    have HPS := Lib.hid (fun w => puts_g x.add Hxb.out.2 w)
                    have Qa := Lib.hid qa
                    clear qa
                    go_upto_region 26 with fail
                    have RC : Gro W7 B0 so.v s2.v OB Wp.drew := G2.out.pure ((Chg.refl [] _).drew)
                    refine wp_region_noPanic ?_
                    refine wp_region_held_drew (S := fun w' => Chg so.v.ownBlock.toList W7 w') (by kernel_rfl) RC.cg (fun hHeld => ?_)
                    refine take_read (i := 0) (v := ?_) (by simp only [List.getElem?_toArray, List.getElem?_cons_zero]; rfl) (by kernel_rfl) (by kernel_rfl) (by kernel_rfl) (fun _ _ _ h => h) hHeld ?_ ?_
                    rotate_left
                    · intro w hSw
                      go_simp
                      try with_reducible rfl
                    try simp only [Act.put, List.setIfInBounds_toArray, List.set_cons_zero, List.set_cons_succ]
                    refine take_read (i := 3) (v := ?_) (by simp only [List.getElem?_toArray, List.getElem?_cons_succ, List.getElem?_cons_zero]; rfl) (by kernel_rfl) (by kernel_rfl) (by kernel_rfl) (fun _ _ _ h => h) hHeld ?_ ?_
                    rotate_left
                    · intro w hSw
                      go_simp
                      try with_reducible rfl
                    try simp only [Act.put, List.setIfInBounds_toArray, List.set_cons_zero, List.set_cons_succ]
                    refine take_read (i := 4) (v := ?_) (by simp only [List.getElem?_toArray, List.getElem?_cons_succ, List.getElem?_cons_zero]; rfl) (by kernel_rfl) (by kernel_rfl) (by kernel_rfl) (fun _ _ _ h => h) hHeld ?_ ?_
                    rotate_left
                    · intro w hSw
                      have f5 := hSw.cell f5 hbfm
                      go_simp
                      try with_reducible rfl
                    try simp only [Act.put, List.setIfInBounds_toArray, List.set_cons_zero, List.set_cons_succ]
                    refine wpAnyH_ready (rs := [1]) (by kernel_rfl) (by simp) ?_
                    refine AllReadyH.cons (by simp only [List.getElem?_toArray, List.getElem?_cons_succ, List.getElem?_cons_zero]; rfl) (fun K hK => ?_) AllReadyH.nil
                    refine gBit rfl _ rfl (UInt8.ofNat 96) 96 rfl rfl RC (fun w2 g2 hr2 hd2 hc2 => ?_)
                    change K (Act.put _ (some 101) _) w2
                    clear RC
                    have RC := hr2
                    refine hK.out _ _ hr2.cg (fun hHeld2 => ?_)
                    clear hK hHeld K
                    have hHeld := hHeld2
                    clear hHeld2
                    try (unfold Act.put; simp only [List.setIfInBounds_toArray, List.set_cons_zero, List.set_cons_succ])
                    refine wpAnyH_ready (rs := [2]) (by kernel_rfl) (by simp) ?_
                    refine AllReadyH.cons (by simp only [List.getElem?_toArray, List.getElem?_cons_succ, List.getElem?_cons_zero]; rfl) (fun K hK => ?_) AllReadyH.nil
                    refine gApp rfl _ _ rfl rfl RC hd2 rfl (Nat.le_trans hOBl (by decide)) (one_1000 _) (fun v3 w3 hr3 hg3 hl3 => ?_)
                    change K (Act.put _ (some 102) v3) w3
                    clear RC hd2
                    have RC := hr3
                    refine hK.out _ _ hr3.cg (fun hHeld2 => ?_)
                    clear hK hHeld K
                    have hHeld := hHeld2
                    clear hHeld2
                    try (unfold Act.put; simp only [List.setIfInBounds_toArray, List.set_cons_zero, List.set_cons_succ])
                    refine wpAnyH_ready (rs := [5]) (by kernel_rfl) (by simp) ?_
                    refine AllReadyH.cons rfl (fun K hK => ?_) AllReadyH.nil
                    go_simp
                    refine (HPS.out _).mono ?_
                    unfold PutG
                    rintro e w7 ⟨gp, cp, rfl, hpr, hp1, hp2, hpc⟩
                    have hdp : Byr gp (putS x.add).length cp (putS x.add) v3 w7 := ⟨hpr, hp2, RC.new hp1⟩
                    replace RC := RC.pure hpc
                    clear hpr hp1 hp2 hpc
                    refine hK.out _ _ RC.cg (fun hHeld2 => ?_)
                    clear hK hHeld K
                    have hHeld := hHeld2
                    clear hHeld2
                    try (unfold Act.put; simp only [List.setIfInBounds_toArray, List.set_cons_zero, List.set_cons_succ])
                    refine wpAnyH_ready (rs := [6]) (by kernel_rfl) (by simp) ?_
                    refine AllReadyH.cons (by simp only [List.getElem?_toArray, List.getElem?_cons_succ, List.getElem?_cons_zero]; rfl) (fun K hK => ?_) AllReadyH.nil
                    refine gApp rfl _ _ rfl rfl RC hdp rfl (len_100 hOBl (one_1000 _) (by decide)) (putS_1000 _) (fun v8 w8 hr8 _ _ => ?_)
                    change K (Act.put _ (some 106) v8) w8
                    obtain ⟨s9, rfl⟩ := hr8.shape
                    refine hK.out _ _ hr8.cg (fun hHeld2 => ?_)
                    clear hK hHeld K
                    have hHeld := hHeld2
                    clear hHeld2
                    try (unfold Act.put; simp only [List.setIfInBounds_toArray, List.set_cons_zero, List.set_cons_succ])
                    refine take_read (i := 7) (v := ?_) (by simp only [List.getElem?_toArray, List.getElem?_cons_succ, List.getElem?_cons_zero]; rfl) (by kernel_rfl) (by kernel_rfl) (by kernel_rfl) (fun _ _ _ h => h) hHeld ?_ ?_
                    rotate_left
                    · intro w hSw
                      go_simp
                      try with_reducible rfl
                    try simp only [Act.put, List.setIfInBounds_toArray, List.set_cons_zero, List.set_cons_succ]
                    refine wpAnyH_done (by kernel_rfl) ?_ _
                    refine NoPanic.normal ?_
                    go_wp2_with fail
                    go_meet
                    exact ⟨s9, rfl, by rw [HQ.out]; exact hr8⟩
                case rest =>
                  obtain ⟨s3, rfl, g3⟩ := hcut
                  obtain ⟨Wp, rfl⟩ : ∃ W, W = wc := ⟨_, rfl⟩
                  have G3 := Lib.hid g3
                  clear g3
                  clear G2 u5 v5 f4 f5
                  have u0 : Wp.cell? ⟨bf, 0, none⟩ = some (.int .u64 x.at_) := KF.out Wp G3.out.cg 0 (by decide)
                  have v0 : Wp.cell? ⟨bn, 0, none⟩ = some (.int .u64 y.at_) := KN.out Wp G3.out.cg 0 (by decide)
                  obtain ⟨p, hp⟩ : ∃ p, p = decide (¬ k = 0 ∧ x.at_ = y.at_) := ⟨_, rfl⟩
                  have Hp := Lib.hid hp
                  clear hp
                  go_upto_region 27 with fail
                  go_cut [115] (fun s115 wx => s115 = .bool (!p) ∧ wx = Wp)
                  case first =>
                    by_cases hk0 : k = 0
                    · have ek : decide (k = 0) = true := decide_eq_true hk0
                      have HQ : Hid (p = false) := Lib.hid (by rw [Hp.out]; simp [hk0])
                      have Hk0 := Lib.hid hk0
                      clear hk0
                      go_wp2_with fail
                      go_meet
                      exact ⟨by rw [HQ.out]; rfl, rfl⟩
                    · have ek : decide (k = 0) = false := decide_eq_false hk0
                      by_cases qa : x.at_ = y.at_
                      · have ea : (x.at_ == y.at_) = true := by rw [qa]; simp
                        have HQ : Hid (p = true) := Lib.hid (by rw [Hp.out]; simp [hk0, qa])
                        have Qa := Lib.hid qa
                        clear qa
                        go_wp2_with fail
                        go_meet
                        exact ⟨by rw [HQ.out, bne, ea], rfl⟩
                      · have ea : (x.at_ == y.at_) = false := by rw [beq_eq_false_iff_ne]; exact qa
                        have HQ : Hid (p = false) := Lib.hid (by rw [Hp.out]; simp [qa])
                        have Qa := Lib.hid qa
                        clear qa
                        go_wp2_with fail
                        go_meet
                        exact ⟨by rw [HQ.out, bne, ea], rfl⟩
                  case rest =>
                    obtain ⟨rfl, rfl⟩ := hcut
                    obtain ⟨Wp, rfl⟩ : ∃ W, W = wc := ⟨_, rfl⟩
                    clear v0 u0
                    go_upto_if 115 with fail
                    go_cut [11] (fun s11 wx => ∃ s4 : SlV, s11 = s4.v ∧ Gro W7 B0 so.v s4.v OD wx)
                    case first =>
                      cases p
                      · obtain ⟨j, hj1, hj, hj2, hj3⟩ := wr_factsB (HM.out.wr x HxS.out)
                        have hjx : idxI (atS ls x.at_) = (j : Int) := by rw [hj1]; rfl
                        have HA0 := Lib.hid (fun w rd => At_img m ls HLS.out x.at_ Hxb.out.1.2 w rd)
                        rw [hjx] at HA0
                        obtain ⟨sa, scap, hsv, hs1, hs2⟩ := HRD.out.shape
                        have rd2 := HRD.out
                        rw [hsv] at rd2
                        obtain ⟨sb, soff, rfl, hsb0, hscell⟩ := rd2.at (by omega)
                        have hsb := hscell j hj
                        obtain ⟨sA, hsA⟩ : ∃ q, q = (ls.getD j .zero).addr := ⟨_, rfl⟩
                        have s8w : w.cell? ⟨sb, soff + j * 7 + 1, none⟩ = some (.int .u64 sA) := by
                          have := hsb 1 (by decide)
                          rw [hsA]
                          exact this
                        have CW7 : Hid (Chg [] w W7) := Lib.hid (C2.out.then (C3.out.then C7.out))
                        have hsl : sb < B0 := Nat.lt_of_lt_of_le (World.block_lt_of_cell? _ _ s8w) (Nat.le_trans C2.out.size hB2)
                        have hsm := NM.out sb hsl
                        have s8 := CW7.out.cell s8w (by simp)
                        have x4 := Img.c_segs (BI2.out.frame (C3.out.then C7.out))
                        unfold SlV.v at hsv
                        rw [hsv] at x4
                        have HRS : Hid (∀ wx, Chg so.v.ownBlock.toList W7 wx → segL.Rd wx m.segs.v ls) := by
                          refine Lib.hid ?_
                          intro wx h
                          refine (HRD.out.frame CW7.out).frameS h (fun b hb hm => ?_)
                          have hb' : (Value.slice m.segs.a m.segs.n m.segs.cap).ownBlock = some b := hb
                          rw [hsv] at hb'
                          cases hb'
                          exact hsm hm
                        have hj0 : (j : Int) < (ls.length : Int) := by omega
                        rw [← hsA] at hj2 hj3
                        have hjn : j < 16 := by omega
                        have hsA0 : 0 ≤ sA := by rw [hsA]; exact (HLS.out j hj).1.1
                        have hxb := Hxb.out.1
                        obtain ⟨op, hop⟩ : ∃ q : Nat, q = 112 + j := ⟨_, rfl⟩
                        obtain ⟨dd, hdd⟩ : ∃ q : Nat, q = (x.at_ - sA).toNat := ⟨_, rfl⟩
                        have hor : bits .or .u8 112 (IntKind.u8.wrap (j : Int)) = (op : Int) := by rw [hop]; exact orB112 j hjn
                        have hwd : IntKind.u64.wrap (x.at_ - sA) = (dd : Int) := by rw [IntKind.wrap_u64]; omega
                        have hop2 : op < 256 := by omega
                        have hdd2 : dd < 18446744073709551616 := by omega
                        have HPU := Lib.hid (fun w => put_g dd hdd2 w)
                        have HQ : Hid (OD = OC ++ [UInt8.ofNat op] ++ putU dd) := by
                          refine Lib.hid ?_
                          have h0 := of_decide_eq_false Hp.out.symm
                          rw [HOD.out, hdd, hop, hsA]
                          unfold plcN
                          rw [if_neg (fun h => h0 ⟨of_decide_eq_false h.1, h.2⟩), hjx, Int.toNat_natCast, List.append_assoc]
                          rfl
                        have Hsb := Lib.hid hsb
                        have Hscell := Lib.hid hscell
                        have Rd2 := Lib.hid rd2
                        have HsA := Lib.hid hsA
                        have Hs2 := Lib.hid hs2
                        have Hj1 := Lib.hid hj1
                        have Hj2 := Lib.hid hj2
                        have Hj3 := Lib.hid hj3
                        have HsA0 := Lib.hid hsA0
                        have Hxb := Lib.hid hxb
                        have Hop := Lib.hid hop
                        have Hdd := Lib.hid hdd
                        have Hjx := Lib.hid hjx
                        have Hdd2 := Lib.hid hdd2
                        have Hj := Lib.hid hj
                        have Hsv := Lib.hid hsv
                        clear hsb hscell rd2 hsA hs2 hj1 hj2 hj3 hsA0 hxb hop hdd hjx hdd2 hj hsv
                        clear hs1 hsb0 s8w
                        have u0 : Wp.cell? ⟨bf, 0, none⟩ = some (.int .u64 x.at_) := KF.out Wp G3.out.cg 0 (by decide)
                        go_wp2_with ((with_reducible refine Lay.ldL Tryz.tImg m ((((BI2.out.frame (C3.out.then C7.out)).frameS G3.out.cg hbim).in)) ?_ ?_); exact rfl; refine Hid.out ?_)
                        refine Lib.hid ?_
                        go_wp2_with fail
                        refine (HA0.out _ (HRS.out _ G3.out.cg)).mono ?_
                        rintro e WA ⟨rfl, hcA⟩
                        have GA := Lib.hid (G3.out.pure hcA)
                        clear hcA u0
                        go_upto_region 29 with fail
                        have RC : Gro W7 B0 so.v s3.v OC WA.drew := GA.out.pure ((Chg.refl [] _).drew)
                        refine wp_region_noPanic ?_
                        refine wp_region_held_drew (S := fun w' => Chg so.v.ownBlock.toList W7 w') (by kernel_rfl) RC.cg (fun hHeld => ?_)
                        refine take_read (i := 0) (v := ?_) (by simp only [List.getElem?_toArray, List.getElem?_cons_zero]; rfl) (by kernel_rfl) (by kernel_rfl) (by kernel_rfl) (fun _ _ _ h => h) hHeld ?_ ?_
                        rotate_left
                        · intro w hSw
                          go_simp
                          try with_reducible rfl
                        try simp only [Act.put, List.setIfInBounds_toArray, List.set_cons_zero, List.set_cons_succ]
                        refine take_read (i := 1) (v := ?_) (by simp only [List.getElem?_toArray, List.getElem?_cons_succ, List.getElem?_cons_zero]; rfl) (by kernel_rfl) (by kernel_rfl) (by kernel_rfl) (fun _ _ _ h => h) hHeld ?_ ?_
                        rotate_left
                        · intro w hSw
                          go_simp
                          try with_reducible rfl
                        try simp only [Act.put, List.setIfInBounds_toArray, List.set_cons_zero, List.set_cons_succ]
                        refine take_read (i := 2) (v := ?_) (by simp only [List.getElem?_toArray, List.getElem?_cons_succ, List.getElem?_cons_zero]; rfl) (by kernel_rfl) (by kernel_rfl) (by kernel_rfl) (fun _ _ _ h => h) hHeld ?_ ?_
                        rotate_left
                        · intro w hSw
                          go_simp
                          try with_reducible rfl
                        try simp only [Act.put, List.setIfInBounds_toArray, List.set_cons_zero, List.set_cons_succ]
                        refine take_read (i := 3) (v := ?_) (by simp only [List.getElem?_toArray, List.getElem?_cons_succ, List.getElem?_cons_zero]; rfl) (by kernel_rfl) (by kernel_rfl) (by kernel_rfl) (fun _ _ _ h => h) hHeld ?_ ?_
                        rotate_left
                        · intro w hSw
                          go_simp
                          try with_reducible rfl
                        try simp only [Act.put, List.setIfInBounds_toArray, List.set_cons_zero, List.set_cons_succ]
                        refine take_read (i := 6) (v := ?_) (by simp only [List.getElem?_toArray, List.getElem?_cons_succ, List.getElem?_cons_zero]; rfl) (by kernel_rfl) (by kernel_rfl) (by kernel_rfl) (fun _ _ _ h => h) hHeld ?_ ?_
                        rotate_left
                        · intro w hSw
                          go_simp
                          try with_reducible rfl
                        try simp only [Act.put, List.setIfInBounds_toArray, List.set_cons_zero, List.set_cons_succ]
                        refine take_read (i := 7) (v := ?_) (by simp only [List.getElem?_toArray, List.getElem?_cons_succ, List.getElem?_cons_zero]; rfl) (by kernel_rfl) (by kernel_rfl) (by kernel_rfl) (fun _ _ _ h => h) hHeld ?_ ?_
                        rotate_left
                        · intro w hSw
                          have f0 := hSw.cell f0 hbfm
                          go_simp
                          try with_reducible rfl
                        try simp only [Act.put, List.setIfInBounds_toArray, List.set_cons_zero, List.set_cons_succ]
                        refine take_read (i := 8) (v := ?_) (by simp only [List.getElem?_toArray, List.getElem?_cons_succ, List.getElem?_cons_zero]; rfl) (by kernel_rfl) (by kernel_rfl) (by kernel_rfl) (fun _ _ _ h => h) hHeld ?_ ?_
                        rotate_left
                        · intro w hSw
                          go_simp
                          try with_reducible rfl
                        try simp only [Act.put, List.setIfInBounds_toArray, List.set_cons_zero, List.set_cons_succ]
                        refine take_read (i := 9) (v := ?_) (by simp only [List.getElem?_toArray, List.getElem?_cons_succ, List.getElem?_cons_zero]; rfl) (by kernel_rfl) (by kernel_rfl) (by kernel_rfl) (fun _ _ _ h => h) hHeld ?_ ?_
                        rotate_left
                        · intro w hSw
                          have x4 := hSw.cell x4 hbim
                          go_simp
                          try with_reducible rfl
                        try simp only [Act.put, List.setIfInBounds_toArray, List.set_cons_zero, List.set_cons_succ]
                        refine take_read (i := 10) (v := ?_) (by simp only [List.getElem?_toArray, List.getElem?_cons_succ, List.getElem?_cons_zero]; rfl) (by kernel_rfl) (by kernel_rfl) (by kernel_rfl) (fun _ _ _ h => h) hHeld ?_ ?_
                        rotate_left
                        · intro w hSw
                          go_simp
                          try with_reducible rfl
                        try simp only [Act.put, List.setIfInBounds_toArray, List.set_cons_zero, List.set_cons_succ]
                        refine take_read (i := 11) (v := ?_) (by simp only [List.getElem?_toArray, List.getElem?_cons_succ, List.getElem?_cons_zero]; rfl) (by kernel_rfl) (by kernel_rfl) (by kernel_rfl) (fun _ _ _ h => h) hHeld ?_ ?_
                        rotate_left
                        · intro w hSw
                          go_simp
                          try with_reducible rfl
                        try simp only [Act.put, List.setIfInBounds_toArray, List.set_cons_zero, List.set_cons_succ]
                        refine take_read (i := 12) (v := ?_) (by simp only [List.getElem?_toArray, List.getElem?_cons_succ, List.getElem?_cons_zero]; rfl) (by kernel_rfl) (by kernel_rfl) (by kernel_rfl) (fun _ _ _ h => h) hHeld ?_ ?_
                        rotate_left
                        · intro w hSw
                          go_simp
                          try with_reducible rfl
                        try simp only [Act.put, List.setIfInBounds_toArray, List.set_cons_zero, List.set_cons_succ]
                        refine take_read (i := 13) (v := ?_) (by simp only [List.getElem?_toArray, List.getElem?_cons_succ, List.getElem?_cons_zero]; rfl) (by kernel_rfl) (by kernel_rfl) (by kernel_rfl) (fun _ _ _ h => h) hHeld ?_ ?_
                        rotate_left
                        · intro w hSw
                          have s8 := hSw.cell s8 hsm
                          go_simp
                          try with_reducible rfl
                        try simp only [Act.put, List.setIfInBounds_toArray, List.set_cons_zero, List.set_cons_succ]
                        refine take_read (i := 14) (v := ?_) (by simp only [List.getElem?_toArray, List.getElem?_cons_succ, List.getElem?_cons_zero]; rfl) (by kernel_rfl) (by kernel_rfl) (by kernel_rfl) (fun _ _ _ h => h) hHeld ?_ ?_
                        rotate_left
                        · intro w hSw
                          go_simp
                          try with_reducible rfl
                        try simp only [Act.put, List.setIfInBounds_toArray, List.set_cons_zero, List.set_cons_succ]
                        refine wpAnyH_ready (rs := [4]) (by kernel_rfl) (by simp) ?_
                        refine AllReadyH.cons (by simp only [List.getElem?_toArray, List.getElem?_cons_succ, List.getElem?_cons_zero]; rfl) (fun K hK => ?_) AllReadyH.nil
                        refine gBit rfl _ rfl (UInt8.ofNat op) op (u8_int op hop2) rfl RC (fun w2 g2 hr2 hd2 hc2 => ?_)
                        change K (Act.put _ (some 124) _) w2
                        clear RC
                        have RC := hr2
                        refine hK.out _ _ hr2.cg (fun hHeld2 => ?_)
                        clear hK hHeld K
                        have hHeld := hHeld2
                        clear hHeld2
                        try (unfold Act.put; simp only [List.setIfInBounds_toArray, List.set_cons_zero, List.set_cons_succ])
                        refine wpAnyH_ready (rs := [5]) (by kernel_rfl) (by simp) ?_
                        refine AllReadyH.cons (by simp only [List.getElem?_toArray, List.getElem?_cons_succ, List.getElem?_cons_zero]; rfl) (fun K hK => ?_) AllReadyH.nil
                        refine gApp rfl _ _ rfl rfl RC hd2 rfl (Nat.le_trans hOCl (by decide)) (one_1000 _) (fun v3 w3 hr3 hg3 hl3 => ?_)
                        change K (Act.put _ (some 125) v3) w3
                        clear RC hd2
                        have RC := hr3
                        refine hK.out _ _ hr3.cg (fun hHeld2 => ?_)
                        clear hK hHeld K
                        have hHeld := hHeld2
                        clear hHeld2
                        try (unfold Act.put; simp only [List.setIfInBounds_toArray, List.set_cons_zero, List.set_cons_succ])
                        refine wpAnyH_ready (rs := [15]) (by kernel_rfl) (by simp) ?_
                        refine AllReadyH.cons rfl (fun K hK => ?_) AllReadyH.nil
                        go_simp
                        refine (HPU.out _).mono ?_
                        unfold PutG
                        rintro e w7 ⟨gp, cp, rfl, hpr, hp1, hp2, hpc⟩
                        have hdp : Byr gp (putU dd).length cp (putU dd) v3 w7 := ⟨hpr, hp2, RC.new hp1⟩
                        replace RC := RC.pure hpc
                        clear hpr hp1 hp2 hpc
                        refine hK.out _ _ RC.cg (fun hHeld2 => ?_)
                        clear hK hHeld K
                        have hHeld := hHeld2
                        clear hHeld2
                        try (unfold Act.put; simp only [List.setIfInBounds_toArray, List.set_cons_zero, List.set_cons_succ])
                        refine wpAnyH_ready (rs := [16]) (by kernel_rfl) (by simp) ?_
                        refine AllReadyH.cons (by simp only [List.getElem?_toArray, List.getElem?_cons_succ, List.getElem?_cons_zero]; rfl) (fun K hK => ?_) AllReadyH.nil
                        refine gApp rfl _ _ rfl rfl RC hdp rfl (len_100 hOCl (one_1000 _) (by decide)) (putU_1000 _) (fun v8 w8 hr8 _ _ => ?_)
                        change K (Act.put _ (some 136) v8) w8
                        obtain ⟨s9, rfl⟩ := hr8.shape
                        refine hK.out _ _ hr8.cg (fun hHeld2 => ?_)
                        clear hK hHeld K
                        have hHeld := hHeld2
                        clear hHeld2
                        try (unfold Act.put; simp only [List.setIfInBounds_toArray, List.set_cons_zero, List.set_cons_succ])
                        refine take_read (i := 17) (v := ?_) (by simp only [List.getElem?_toArray, List.getElem?_cons_succ, List.getElem?_cons_zero]; rfl) (by kernel_rfl) (by kernel_rfl) (by kernel_rfl) (fun _ _ _ h => h) hHeld ?_ ?_
                        rotate_left
                        · intro w hSw
                          go_simp
                          try with_reducible rfl
                        try simp only [Act.put, List.setIfInBounds_toArray, List.set_cons_zero, List.set_cons_succ]
                        refine wpAnyH_done (by kernel_rfl) ?_ _
                        refine NoPanic.normal ?_
                        go_wp2_with fail
                        go_meet
                        exact ⟨s9, rfl, by rw [HQ.out]; exact hr8⟩
                      · have HQ : Hid (OD = OC) := by
                          refine Lib.hid ?_
                          have h0 := of_decide_eq_true Hp.out.symm
                          rw [HOD.out]
                          unfold plcN
                          rw [if_pos ⟨decide_eq_false h0.1, h0.2⟩, List.append_nil]
                        go_wp2_with fail
                        go_meet
                        exact ⟨s3, rfl, by rw [HQ.out]; exact G3.out⟩
                    case rest =>
                      obtain ⟨s4, rfl, g4⟩ := hcut
                      obtain ⟨Wp, rfl⟩ : ∃ W, W = wc := ⟨_, rfl⟩
                      have G4 := Lib.hid g4
                      clear g4
                      clear G3
                      have Q : Hid ([Value.int .u8 144] = byteL.vals [UInt8.ofNat 144]) := Lib.hid (rfl)
                      go_wp2_with (at_builtin; go_must (refine Lay.app (L := byteL) Tryz.infoByte rfl _ _ rfl B0 s4.v OD rfl (G4.out.bb.pure ((Chg.refl _ _).alloc _)) _ rfl [UInt8.ofNat 144] (Lay.Rd.of_heap (heap_alloc_eq _ _) Q.out rfl (show 1 ≤ maxLen by decide)) (len_app hODl (one_1000 (UInt8.ofNat 144)) (by decide)).1 (len_app hODl (one_1000 (UInt8.ofNat 144)) (by decide)).2 (Nat.le_trans G4.out.sz (by simp)) ?_); intro v8 W8 hov hgv hlc; refine Hid.out ?_)
                      refine Lib.hid ?_
                      have G5 := Lib.hid ((G4.out.pure ((Chg.refl _ _).alloc _)).grown hov hgv hlc)
                      obtain ⟨s8, rfl⟩ := G5.out.shape
                      clear hov hgv hlc Q
                      go_wp2_with ((with_reducible refine Lay.ldL Tryz.tFx x ((F7.out.frameS G5.out.cg hbfm).in) ?_ ?_); exact rfl; refine Hid.out ?_)
                      refine Lib.hid ?_
                      go_wp2_with ((with_reducible refine Lay.stL Tryz.tFx x ((N7.out.frameS G5.out.cg hbnm)) ?_ ?_ ?_); exact rfl; exact rfl; intro W9 cW9 xW9; replace cW9 := Lib.hid cW9; replace xW9 := Lib.hid xW9; refine Hid.out ?_)
                      refine Lib.hid ?_
                      have n0 : W9.cell? ⟨bn, 0, none⟩ = some (.int .u64 x.at_) := by
                        have := xW9.out.in 0 (by decide)
                        rw [Nat.zero_add] at this
                        exact this
                      have z0 := xW9.out.frozen 0
                      obtain ⟨a8, ha8⟩ : ∃ z, z = IntKind.u64.wrap (x.at_ + 8) := ⟨_, rfl⟩
                      have ha8' := ha8.symm
                      have X9 := Lib.hid (Lay.Box.set xW9.out 0 (.int .u64 a8) (nxtN x) (by rw [ha8]; rfl))
                      have K9 : Hid (Chg [bn] W8 (W9.setCell ⟨bn, 0, none⟩ (.int .u64 a8))) := Lib.hid (cW9.out.trans ((Chg.refl _ _).setCell _ _ (.inl (by simp))) (fun i hi _ => hi))
                      have hn8 : bn ∉ s8.v.ownBlock.toList := by
                        intro hm
                        have := (G5.out.bb.lt bn (by simpa using hm)).1
                        omega
                      have HST : Hid (BkI ls K S (k + 1) (OD ++ [UInt8.ofNat 144])) := by
                        refine Lib.hid ?_
                        have := HI.out.step hlt Hx.out hm5
                        rw [HOD.out, HOC.out, HOB.out, HOA.out, Hy.out]
                        exact this
                      have HNX : Hid (nowN K S (k + 1) = nxtN x) := Lib.hid (by rw [nowN_get, ← Hx.out])
                      clear ha8 G4
                      have Hn8 := Lib.hid hn8
                      clear hn8
                      go_wp2
                      go_roundw
                      case rel =>
                        refine ⟨k + 1, s8, _, HST.out, rfl, by simp, by first | rfl | exact congrArg (Value.int .i64) hw1 | go_num, G5.out.bb.frame K9.out (fun b hb hm => by simp at hm; exact Hn8.out (by rw [← hm, hb]; simp)), Nat.le_trans G5.out.sz K9.out.size, ?_, ?_⟩
                        · rw [HNX.out]; exact X9.out
                        · exact (C7.out.trans (G5.out.cg) (fun i hi hw => absurd hi (NM.out i (Nat.lt_of_lt_of_le hw hB3)))).trans K9.out (fun i hi hw => by simp at hi; omega)
                      case measure => first | exact meas_v hlt | exact meas_w hw1 hlt
        · obtain rfl : k = S.length := by have := HI.out.le; omega
          have dlt : decide ((S.length : Int) < (S.length : Int)) = false := decide_eq_false (by omega)
          have Q : Hid ([Value.int .u8 0] = byteL.vals [UInt8.ofNat 0]) := Lib.hid (rfl)
          have GZ : Hid (Gro wr B0 so.v so.v out wr) := Lib.hid (Gro.start B1.out h2)
          have hol : out.length ≤ 6000000 := HI.out.len HM.out
          go_wp2_with (at_builtin; go_must (refine Lay.app (L := byteL) Tryz.infoByte rfl _ _ rfl B0 so.v out rfl (GZ.out.bb.pure ((Chg.refl _ _).alloc _)) _ rfl [UInt8.ofNat 0] (Lay.Rd.of_heap (heap_alloc_eq _ _) Q.out rfl (show 1 ≤ maxLen by decide)) (len_app hol (one_1000 (UInt8.ofNat 0)) (by decide)).1 (len_app hol (one_1000 (UInt8.ofNat 0)) (by decide)).2 (Nat.le_trans GZ.out.sz (by simp)) ?_); intro v8 W8 hov hgv hlc; refine Hid.out ?_)
          refine Lib.hid ?_
          have G9 := Lib.hid ((GZ.out.pure ((Chg.refl _ _).alloc _)).grown hov hgv hlc)
          obtain ⟨s8, rfl⟩ := G9.out.shape
          clear hov hgv hlc Q
          have CF : Hid (Chg [] W3 W8) := by
            refine Lib.hid ?_
            refine C1.out.trans G9.out.cg (fun i hi hw => ?_)
            have := (B1.out.lt i (by simpa using hi)).1
            omega
          have BF : Hid (BB W8 w.heap.size s8.v (allN ls K S)) := by
            refine Lib.hid ?_
            rw [← HI.out.all]
            exact Lay.Buf.mono G9.out.bb (Nat.le_trans C2.out.size hB2)
          unfold SlV.v
          go_wp2
          go_ret2
          refine ⟨s8, rfl, (C2.out.then C3.out).then CF.out, ?_⟩
          first
          | exact BF.out
          | exact ⟨BF.out, fun h => absurd (by first | rfl | trivial) h⟩
          | exact ⟨fun _ => BF.out, fun h => absurd (by first | rfl | trivial) h⟩
end Go.Proofs.YtkomocgodljecaaGreatDoor
