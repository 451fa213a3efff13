/- LebPads, walked. -/
import Derived.Test.YtpodphfdoonidaaDoorPads
import Derived.Test.YtpodphfdoonidaaDoorApp
namespace Go.Proofs.YtpodphfdoonidaaDoor
open Go.RowKit
set_option maxRecDepth 100000

theorem putU_shape (n : Nat) (hn : n < 18446744073709551616) : ∃ r b, putU n = r ++ [b] ∧ b.toNat < 128 ∧ (∀ x ∈ r, 128 ≤ x.toNat) ∧ r.length < 10 ∧ uval (gsOf (r ++ [b])) = n := by
  obtain ⟨r, b, e, hb, hr⟩ := putUf_shape 9 n (lt_pow10 n hn)
  have e' : putU n = r ++ [b] := e
  have hl := (putUf_length 9 n).1
  have hv : uval (gsOf (putU n)) = n := uval_putUf 9 n (lt_pow10 n hn)
  rw [e'] at hv
  rw [show putUf 9 n = putU n from rfl, e'] at hl
  simp at hl
  exact ⟨r, b, e', hb, hr, by omega, hv⟩
theorem putS_shape (n : Int) (hn : -9223372036854775808 ≤ n ∧ n < 9223372036854775808) : ∃ r b, putS n = r ++ [b] ∧ b.toNat < 128 ∧ (∀ x ∈ r, 128 ≤ x.toNat) ∧ r.length < 10 ∧ sval (gsOf (r ++ [b])) = n := by
  obtain ⟨r, b, e, hb, hr, hv⟩ := putSf_shape 9 n (by omega)
  have e' : putS n = r ++ [b] := e
  have hl := (putSf_length 9 n).1
  rw [show putSf 9 n = putS n from rfl, e'] at hl hv
  simp at hl
  exact ⟨r, b, e', hb, hr, by omega, hv⟩
/-- The last byte of a buffer: where it lies. -/
theorem Buf.last {w : World} {base : Nat} {v : Value} {r : List UInt8} {b : UInt8} (h : Buf w base v (r ++ [b])) :
    ∃ g cap, v = .slice (some ⟨g, 0, none⟩) (r.length + 1) cap ∧ g < w.heap.size ∧ base ≤ g ∧ w.cell? ⟨g, r.length, none⟩ = some (.int .u8 b.toNat) ∧ w.frozen? ⟨g, r.length, none⟩ = false ∧
      (∀ c : UInt8, Buf (w.setCell ⟨g, r.length, none⟩ (.int .u8 c.toNat)) base v (r ++ [c])) := by
  obtain ⟨g, cap, rfl, hnc, hcm, hb, hgl, hc⟩ := owned_at h (by simp)
  refine ⟨g, cap, by simp, hgl, hb, ?_, World.ownsRow.frozenAt h _, fun c => ?_⟩
  · have := hc r.length (.int .u8 b.toNat) (by simp [bytesV, byteV])
    rw [Addr_add, Nat.zero_add] at this
    exact this
  · have := (World.ownsRow.stored h r.length (.int .u8 c.toNat)).1
    unfold Buf
    have e : (bytesV (r ++ [b])).set r.length (.int .u8 c.toNat) = bytesV (r ++ [c]) := by simp [bytesV, byteV]
    rw [e] at this
    simpa using this
theorem Two.set {w : World} {base : Nat} {v1 v2 : Value} {r l2 : List UInt8} {b : UInt8} {g n cap : Nat} (h : Two w base v1 (r ++ [b]) v2 l2) (hv : v1 = .slice (some ⟨g, 0, none⟩) n cap) (c : UInt8) :
    Two (w.setCell ⟨g, r.length, none⟩ (.int .u8 c.toNat)) base v1 (r ++ [c]) v2 l2 := by
  obtain ⟨g', cap', e, hgl, hb, h1, h2, h3⟩ := h.one.last
  have : g' = g := by rw [hv] at e; cases e; rfl
  subst this
  refine ⟨h3 c, h.two.frame ((Chg.refl [g'] w).setCell _ _ (.inl (by simp))) (fun k hk hm => ?_), h.ne⟩
  rw [List.mem_singleton] at hm
  subst hm
  exact h.ne k (by rw [e]; rfl) hk
set_option maxHeartbeats 1000000 in
theorem LebPads_in (n : Nat) (hn : n < 18446744073709551616) (m : Int) (hm : -9223372036854775808 ≤ m ∧ m < 9223372036854775808) (more : Nat) (h1 : 1 ≤ more) (h12 : more ≤ 12) (w : World) (hg : Env w) (neg : Bool) (hneg : decide (m < 0) = neg) :
    Calls Tryd.prog 7 #[.int .u64 n, .int .i64 m, .int .i64 more] w fun e w' => e = .returned (.bool true) ∧ Chg [] w w' := by
  obtain ⟨r, b, hA, hb, hr, hrl, hU⟩ := putU_shape n hn
  obtain ⟨q, c, hB, hc, hq, hql, hS⟩ := putS_shape m hm
  have HG := Lib.hid hg
  have HA := Lib.hid hA
  have HB := Lib.hid hB
  have HN := Lib.hid hn
  have HM := Lib.hid hm
  have HR := Lib.hid hr
  have HQ := Lib.hid hq
  have HU := Lib.hid hU
  have HS := Lib.hid hS
  have HMD := Lib.hid hneg
  clear hg hA hB hn hm hr hq hU hS
  have hz1 : decide ((more : Int) < 1) = false := by simp; omega
  have hz2 : decide ((12 : Int) < (more : Int)) = false := by simp; omega
  go_enter Tryd.func7, Tryd.ntmps7
  go_wp2_with fail
  refine (Put_any n w HN.out).mono ?_
  rintro e w1 ⟨v1, rfl, ho1, hc1⟩
  rw [HA.out] at ho1
  have HO1 : Hid (Buf w1 w.heap.size v1 (r ++ [b])) := Lib.hid ho1
  have HC1 := Lib.hid hc1
  clear ho1 hc1
  go_wp2_with fail
  refine (PutSigned_any m w1 HM.out).mono ?_
  rintro e w2 ⟨v2, rfl, ho2, hc2⟩
  rw [HB.out] at ho2
  have HT : Hid (Two w2 w.heap.size v1 (r ++ [b]) v2 (q ++ [c])) := Lib.hid ⟨HO1.out.pure hc2, owned_base ho2 HC1.out.size, fun k h1 h2 => by
    have a1 := (World.ownsRow.lt HO1.out k h1).2
    have a2 := (World.ownsRow.lt ho2 k h2).1
    omega⟩
  have HC2 := Lib.hid (HC1.out.then hc2)
  clear ho2 hc2 HO1 HC1
  obtain ⟨b2, hb2⟩ : ∃ x, x = b + 128 := ⟨_, rfl⟩
  obtain ⟨c2, hc2⟩ : ∃ x, x = c + 128 := ⟨_, rfl⟩
  obtain ⟨g1, cap1, rfl, _, _, hcl1, hfz1, _⟩ := HT.out.one.last
  have HT1 := Lib.hid (HT.out.set rfl b2)
  obtain ⟨g2, cap2, rfl, _, _, hcl2, hfz2, _⟩ := HT1.out.two.last
  have HT2 := Lib.hid (HT1.out.swap.set rfl c2).swap
  have hb1 : (b2.toNat : Int) = (b.toNat : Int) + 128 := by
    rw [hb2, toNat_add128 b hb]; omega
  have hc1 : (c2.toNat : Int) = (c.toNat : Int) + 128 := by
    rw [hc2, toNat_add128 c hc]; omega
  have HC3 := Lib.hid ((HC2.out.setCell ⟨g1, r.length, none⟩ (.int .u8 b2.toNat) (.inr (World.ownsRow.lt HT.out.one g1 rfl).1)).setCell ⟨g2, q.length, none⟩ (.int .u8 c2.toNat) (.inr (World.ownsRow.lt HT.out.two g2 rfl).1))
  have HB2 := Lib.hid hb2
  have HC2' := Lib.hid hc2
  have hz3 : ((r.length : Int) + 1 == 0) = false := by simp; omega
  have hz4 : ((q.length : Int) + 1 == 0) = false := by simp; omega
  rw [hb1] at hcl2 hfz2 HT2 HC3
  rw [hc1] at HT2 HC3
  clear HT HT1 hb2 hc2 HC2 hb1 hc1
  cases neg
  · go_wp2_with fail
    generalize (w2.setCell ⟨g1, r.length, none⟩ (.int .u8 ((b.toNat : Int) + 128))).setCell ⟨g2, q.length, none⟩ (.int .u8 ((c.toNat : Int) + 128)) = w3 at *
    clear hcl1 hfz1 hcl2 hfz2
    go_loopw [7, 8, 10] (fun s7 s8 s10 wr => ∃ k : Nat, k + 1 ≤ more ∧ s10 = .int .i64 ((k : Int) + 1) ∧ Two wr w.heap.size s7 (r ++ [b2] ++ List.replicate k 128) s8 (q ++ [c2] ++ List.replicate k 128) ∧ Chg [] w wr) (fun _ _ s10 _ => more - (intOf s10).toNat)
    case atStart => exact ⟨0, h1, rfl, by simpa using HT2.out, HC3.out⟩
    case round =>
      obtain ⟨k, hk, rfl, htw, hch⟩ := hrel
      have HT := Lib.hid htw
      have HC := Lib.hid hch
      clear htw hch
      by_cases hlt : k + 1 < more
      · go_wp2_with (at_builtin; refine app_bytes_at rfl _ _ rfl w.heap.size _ _ _ rfl (HT.out.pure ((Chg.refl [] _).alloc _)).one _ rfl [128] (Rd_one _ _ _) (by simp only [List.length_append, List.length_replicate, List.length_cons, List.length_nil]; omega) (HC.out.alloc _).size ?_; intro va wva hoa hga haa; refine Hid.out ?_)
        refine Lib.hid ?_
        have HTa := Lib.hid ((HT.out.pure ((Chg.refl [] _).alloc _)).app hoa hga haa).swap
        have HCa := Lib.hid ((HC.out.alloc _).grown hga (fun k hk => .inr (World.ownsRow.lt HT.out.one k hk).1))
        clear hoa hga haa
        go_wp2_with (at_builtin; refine app_bytes_at rfl _ _ rfl w.heap.size _ _ _ rfl (HTa.out.pure ((Chg.refl [] _).alloc _)).one _ rfl [128] (Rd_one _ _ _) (by simp only [List.length_append, List.length_replicate, List.length_cons, List.length_nil]; omega) (HCa.out.alloc _).size ?_; intro vb wvb hoa hga haa; refine Hid.out ?_)
        refine Lib.hid ?_
        have HTb := Lib.hid ((HTa.out.pure ((Chg.refl [] _).alloc _)).app hoa hga haa).swap
        have HCb := Lib.hid ((HCa.out.alloc _).grown hga (fun k hk => .inr (World.ownsRow.lt HTa.out.one k hk).1))
        clear hoa hga haa
        go_wp2
        go_roundw
        case rel => exact ⟨k + 1, by omega, by go_num, by have := HTb.out; simpa [List.replicate_succ'] using this, HCb.out⟩
        case measure => simp [intOf]; omega
      · obtain rfl : more = k + 1 := by omega
        go_wp2_with (at_builtin; refine app_bytes_at rfl _ _ rfl w.heap.size _ _ _ rfl (HT.out.pure ((Chg.refl [] _).alloc _)).one _ rfl [0] (Rd_one _ _ _) (by simp only [List.length_append, List.length_replicate, List.length_cons, List.length_nil]; omega) (HC.out.alloc _).size ?_; intro va wva hoa hga haa; refine Hid.out ?_)
        refine Lib.hid ?_
        have HTa := Lib.hid ((HT.out.pure ((Chg.refl [] _).alloc _)).app hoa hga haa).swap
        have HCa := Lib.hid ((HC.out.alloc _).grown hga (fun k hk => .inr (World.ownsRow.lt HT.out.one k hk).1))
        clear hoa hga haa
        go_wp2_with (at_builtin; refine app_bytes_at rfl _ _ rfl w.heap.size _ _ _ rfl (HTa.out.pure ((Chg.refl [] _).alloc _)).one _ rfl [0] (Rd_one _ _ _) (by simp only [List.length_append, List.length_replicate, List.length_cons, List.length_nil]; omega) (HCa.out.alloc _).size ?_; intro vb wvb hoa hga haa; refine Hid.out ?_)
        refine Lib.hid ?_
        have HTb := Lib.hid ((HTa.out.pure ((Chg.refl [] _).alloc _)).app hoa hga haa).swap
        have HCb := Lib.hid ((HCa.out.alloc _).grown hga (fun k hk => .inr (World.ownsRow.lt HTa.out.one k hk).1))
        clear hoa hga haa
        obtain ⟨U, hU⟩ : ∃ U, U = padL r b 0 k := ⟨_, rfl⟩
        obtain ⟨S, hS⟩ : ∃ S, S = padL q c 0 k := ⟨_, rfl⟩
        rw [HB2.out, HC2'.out, show r ++ [b + 128] ++ List.replicate k 128 ++ [0] = U from hU.symm, show q ++ [c + 128] ++ List.replicate k 128 ++ [0] = S from hS.symm] at HTb
        obtain ⟨x, sx, hx, hsx, hcx⟩ := padU_cases n r b k HR.out hb HU.out U hU
        obtain ⟨y, sy, hy, hsy, hcy⟩ := padS_cases m q c 0 k HQ.out hc HS.out (by rw [if_neg (by have := HMD.out; simpa using this)]; rfl) S hS
        have hUl : 0 < U.length ∧ U.length < 100 := by rw [hU, pad_length]; omega
        have hSl : 0 < S.length ∧ S.length < 100 := by rw [hS, pad_length]; omega
        have HX := Lib.hid hx
        have HSX := Lib.hid hsx
        have HCX := Lib.hid hcx
        have HY := Lib.hid hy
        have HSY := Lib.hid hsy
        have HCY := Lib.hid hcy
        clear hU hS hx hsx hcx hy hsy hcy HT HC HTa HCa HT2 HC3
        obtain ⟨ga, ca, rfl, _, _, _, _, _⟩ := owned_at HTb.out.one hUl.1
        obtain ⟨gb, cb, rfl, _, _, _, _, _⟩ := owned_at HTb.out.two hSl.1
        have HRU := Lib.hid HTb.out.one.rd
        have HRS := Lib.hid HTb.out.two.rd
        clear HTb
        go_wp2_with fail
        refine (New_cur _ U false _ HRU.out (by omega)).mono ?_
        rintro e w5 ⟨p, rfl, hp, hcp, hch⟩
        have H5 := Lib.hid (((Curs.start HG.out).pure HCb.out).new hch hcp hp)
        have HRS5 := Lib.hid (HRS.out.frame hch (fun _ _ hm => by cases hm))
        clear hcp hch hp
        go_wp2_with fail
        refine (New_cur _ S false _ HRS5.out (by omega)).mono ?_
        rintro e w6 ⟨d, rfl, hp, hcp, hch⟩
        have H6 := Lib.hid (H5.out.new hch hcp hp).swap
        clear hcp hch hp
        go_wp2_with fail
        refine (Uleb_cur p _ w6 H6.out.env H6.out.cur).mono ?_
        rintro e w7 ⟨rfl, hcp, hch⟩
        have H7 := Lib.hid (H6.out.call hcp hch).swap
        rw [HSX.out] at H7
        rw [HX.out]
        clear hcp hch
        go_wp2_with fail
        refine (Sleb_cur d _ w7 H7.out.env H7.out.cur).mono ?_
        rintro e w8 ⟨rfl, hcp, hch⟩
        have H8 := Lib.hid (H7.out.call hcp hch).swap
        rw [HSY.out] at H8
        rw [HY.out]
        clear hcp hch
        rcases HCX.out with ⟨g1, rfl, rfl⟩ | ⟨g1, rfl, rfl⟩
        · have t1 : decide ((U.length : Int) ≤ 10) = true := by simp; omega
          have t2 : decide ((10 : Int) < (U.length : Int)) = false := by simp; omega
          go_wp2_with fail
          refine (Left_cur p _ _ H8.out.cur).mono ?_
          rintro e wl ⟨rfl, hdr⟩
          have H8l := Lib.hid (H8.out.dr hdr)
          clear hdr
          simp only [Int.sub_self]
          go_wp2_with fail
          refine (Err_cur p _ _ H8l.out.env H8l.out.cur).mono ?_
          rintro e we ⟨rfl, hch⟩
          have H8le := Lib.hid (H8l.out.pure hch)
          clear hch
          simp only []
          rcases HCY.out with ⟨g1, rfl, rfl⟩ | ⟨g1, rfl, rfl⟩
          · have t1 : decide ((S.length : Int) ≤ 10) = true := by simp; omega
            have t2 : decide ((10 : Int) < (S.length : Int)) = false := by simp; omega
            have H8les := Lib.hid H8le.out.swap
            go_wp2_with fail
            refine (Left_cur d _ _ H8les.out.cur).mono ?_
            rintro e wl ⟨rfl, hdr⟩
            have H8lesl := Lib.hid (H8les.out.dr hdr)
            clear hdr
            simp only [Int.sub_self]
            go_wp2_with fail
            refine (Err_cur d _ _ H8lesl.out.env H8lesl.out.cur).mono ?_
            rintro e we ⟨rfl, hch⟩
            have H8lesle := Lib.hid (H8lesl.out.pure hch)
            clear hch
            simp only []
            go_wp2_with fail
            refine (known_ok _ H8lesle.out.env).mono ?_
            rintro e wk ⟨rfl, hc⟩
            have HZ := Lib.hid (H8lesle.out.chg.then hc)
            clear hc
            go_wp2
            go_ret
            exact ⟨rfl, HZ.out⟩
          · have t1 : decide ((S.length : Int) ≤ 10) = false := by simp; omega
            have t2 : decide ((10 : Int) < (S.length : Int)) = true := by simp; omega
            have H8les := Lib.hid H8le.out.swap
            go_wp2_with fail
            refine (Err_cur d _ _ H8les.out.env H8les.out.cur).mono ?_
            rintro e we ⟨rfl, hch⟩
            have H8lese := Lib.hid (H8les.out.pure hch)
            clear hch
            first | simp only [if_true] | simp only [if_false, Bool.false_eq_true]
            go_wp2_with fail
            refine (At_cur d _ _ H8lese.out.cur).mono ?_
            rintro e wa ⟨rfl, rfl⟩
            go_wp2_with fail
            refine (known_ok _ H8lese.out.env).mono ?_
            rintro e wk ⟨rfl, hc⟩
            have HZ := Lib.hid (H8lese.out.chg.then hc)
            clear hc
            go_wp2
            go_ret
            exact ⟨rfl, HZ.out⟩
        · have t1 : decide ((U.length : Int) ≤ 10) = false := by simp; omega
          have t2 : decide ((10 : Int) < (U.length : Int)) = true := by simp; omega
          go_wp2_with fail
          refine (Err_cur p _ _ H8.out.env H8.out.cur).mono ?_
          rintro e we ⟨rfl, hch⟩
          have H8e := Lib.hid (H8.out.pure hch)
          clear hch
          first | simp only [if_true] | simp only [if_false, Bool.false_eq_true]
          go_wp2_with fail
          refine (At_cur p _ _ H8e.out.cur).mono ?_
          rintro e wa ⟨rfl, rfl⟩
          rcases HCY.out with ⟨g1, rfl, rfl⟩ | ⟨g1, rfl, rfl⟩
          · have t1 : decide ((S.length : Int) ≤ 10) = true := by simp; omega
            have t2 : decide ((10 : Int) < (S.length : Int)) = false := by simp; omega
            have H8es := Lib.hid H8e.out.swap
            go_wp2_with fail
            refine (Left_cur d _ _ H8es.out.cur).mono ?_
            rintro e wl ⟨rfl, hdr⟩
            have H8esl := Lib.hid (H8es.out.dr hdr)
            clear hdr
            simp only [Int.sub_self]
            go_wp2_with fail
            refine (Err_cur d _ _ H8esl.out.env H8esl.out.cur).mono ?_
            rintro e we ⟨rfl, hch⟩
            have H8esle := Lib.hid (H8esl.out.pure hch)
            clear hch
            simp only []
            go_wp2_with fail
            refine (known_ok _ H8esle.out.env).mono ?_
            rintro e wk ⟨rfl, hc⟩
            have HZ := Lib.hid (H8esle.out.chg.then hc)
            clear hc
            go_wp2
            go_ret
            exact ⟨rfl, HZ.out⟩
          · have t1 : decide ((S.length : Int) ≤ 10) = false := by simp; omega
            have t2 : decide ((10 : Int) < (S.length : Int)) = true := by simp; omega
            have H8es := Lib.hid H8e.out.swap
            go_wp2_with fail
            refine (Err_cur d _ _ H8es.out.env H8es.out.cur).mono ?_
            rintro e we ⟨rfl, hch⟩
            have H8ese := Lib.hid (H8es.out.pure hch)
            clear hch
            first | simp only [if_true] | simp only [if_false, Bool.false_eq_true]
            go_wp2_with fail
            refine (At_cur d _ _ H8ese.out.cur).mono ?_
            rintro e wa ⟨rfl, rfl⟩
            go_wp2_with fail
            refine (known_ok _ H8ese.out.env).mono ?_
            rintro e wk ⟨rfl, hc⟩
            have HZ := Lib.hid (H8ese.out.chg.then hc)
            clear hc
            go_wp2
            go_ret
            exact ⟨rfl, HZ.out⟩
  · go_wp2_with fail
    generalize (w2.setCell ⟨g1, r.length, none⟩ (.int .u8 ((b.toNat : Int) + 128))).setCell ⟨g2, q.length, none⟩ (.int .u8 ((c.toNat : Int) + 128)) = w3 at *
    clear hcl1 hfz1 hcl2 hfz2
    go_loopw [7, 8, 10] (fun s7 s8 s10 wr => ∃ k : Nat, k + 1 ≤ more ∧ s10 = .int .i64 ((k : Int) + 1) ∧ Two wr w.heap.size s7 (r ++ [b2] ++ List.replicate k 128) s8 (q ++ [c2] ++ List.replicate k 255) ∧ Chg [] w wr) (fun _ _ s10 _ => more - (intOf s10).toNat)
    case atStart => exact ⟨0, h1, rfl, by simpa using HT2.out, HC3.out⟩
    case round =>
      obtain ⟨k, hk, rfl, htw, hch⟩ := hrel
      have HT := Lib.hid htw
      have HC := Lib.hid hch
      clear htw hch
      by_cases hlt : k + 1 < more
      · go_wp2_with (at_builtin; refine app_bytes_at rfl _ _ rfl w.heap.size _ _ _ rfl (HT.out.pure ((Chg.refl [] _).alloc _)).one _ rfl [128] (Rd_one _ _ _) (by simp only [List.length_append, List.length_replicate, List.length_cons, List.length_nil]; omega) (HC.out.alloc _).size ?_; intro va wva hoa hga haa; refine Hid.out ?_)
        refine Lib.hid ?_
        have HTa := Lib.hid ((HT.out.pure ((Chg.refl [] _).alloc _)).app hoa hga haa).swap
        have HCa := Lib.hid ((HC.out.alloc _).grown hga (fun k hk => .inr (World.ownsRow.lt HT.out.one k hk).1))
        clear hoa hga haa
        go_wp2_with (at_builtin; refine app_bytes_at rfl _ _ rfl w.heap.size _ _ _ rfl (HTa.out.pure ((Chg.refl [] _).alloc _)).one _ rfl [255] (Rd_one _ _ _) (by simp only [List.length_append, List.length_replicate, List.length_cons, List.length_nil]; omega) (HCa.out.alloc _).size ?_; intro vb wvb hoa hga haa; refine Hid.out ?_)
        refine Lib.hid ?_
        have HTb := Lib.hid ((HTa.out.pure ((Chg.refl [] _).alloc _)).app hoa hga haa).swap
        have HCb := Lib.hid ((HCa.out.alloc _).grown hga (fun k hk => .inr (World.ownsRow.lt HTa.out.one k hk).1))
        clear hoa hga haa
        go_wp2
        go_roundw
        case rel => exact ⟨k + 1, by omega, by go_num, by have := HTb.out; simpa [List.replicate_succ'] using this, HCb.out⟩
        case measure => simp [intOf]; omega
      · obtain rfl : more = k + 1 := by omega
        go_wp2_with (at_builtin; refine app_bytes_at rfl _ _ rfl w.heap.size _ _ _ rfl (HT.out.pure ((Chg.refl [] _).alloc _)).one _ rfl [0] (Rd_one _ _ _) (by simp only [List.length_append, List.length_replicate, List.length_cons, List.length_nil]; omega) (HC.out.alloc _).size ?_; intro va wva hoa hga haa; refine Hid.out ?_)
        refine Lib.hid ?_
        have HTa := Lib.hid ((HT.out.pure ((Chg.refl [] _).alloc _)).app hoa hga haa).swap
        have HCa := Lib.hid ((HC.out.alloc _).grown hga (fun k hk => .inr (World.ownsRow.lt HT.out.one k hk).1))
        clear hoa hga haa
        go_wp2_with (at_builtin; refine app_bytes_at rfl _ _ rfl w.heap.size _ _ _ rfl (HTa.out.pure ((Chg.refl [] _).alloc _)).one _ rfl [127] (Rd_one _ _ _) (by simp only [List.length_append, List.length_replicate, List.length_cons, List.length_nil]; omega) (HCa.out.alloc _).size ?_; intro vb wvb hoa hga haa; refine Hid.out ?_)
        refine Lib.hid ?_
        have HTb := Lib.hid ((HTa.out.pure ((Chg.refl [] _).alloc _)).app hoa hga haa).swap
        have HCb := Lib.hid ((HCa.out.alloc _).grown hga (fun k hk => .inr (World.ownsRow.lt HTa.out.one k hk).1))
        clear hoa hga haa
        obtain ⟨U, hU⟩ : ∃ U, U = padL r b 0 k := ⟨_, rfl⟩
        obtain ⟨S, hS⟩ : ∃ S, S = padL q c 127 k := ⟨_, rfl⟩
        rw [HB2.out, HC2'.out, show r ++ [b + 128] ++ List.replicate k 128 ++ [0] = U from hU.symm, show q ++ [c + 128] ++ List.replicate k 255 ++ [127] = S from hS.symm] at HTb
        obtain ⟨x, sx, hx, hsx, hcx⟩ := padU_cases n r b k HR.out hb HU.out U hU
        obtain ⟨y, sy, hy, hsy, hcy⟩ := padS_cases m q c 127 k HQ.out hc HS.out (by rw [if_pos (by have := HMD.out; simpa using this)]; rfl) S hS
        have hUl : 0 < U.length ∧ U.length < 100 := by rw [hU, pad_length]; omega
        have hSl : 0 < S.length ∧ S.length < 100 := by rw [hS, pad_length]; omega
        have HX := Lib.hid hx
        have HSX := Lib.hid hsx
        have HCX := Lib.hid hcx
        have HY := Lib.hid hy
        have HSY := Lib.hid hsy
        have HCY := Lib.hid hcy
        clear hU hS hx hsx hcx hy hsy hcy HT HC HTa HCa HT2 HC3
        obtain ⟨ga, ca, rfl, _, _, _, _, _⟩ := owned_at HTb.out.one hUl.1
        obtain ⟨gb, cb, rfl, _, _, _, _, _⟩ := owned_at HTb.out.two hSl.1
        have HRU := Lib.hid HTb.out.one.rd
        have HRS := Lib.hid HTb.out.two.rd
        clear HTb
        go_wp2_with fail
        refine (New_cur _ U false _ HRU.out (by omega)).mono ?_
        rintro e w5 ⟨p, rfl, hp, hcp, hch⟩
        have H5 := Lib.hid (((Curs.start HG.out).pure HCb.out).new hch hcp hp)
        have HRS5 := Lib.hid (HRS.out.frame hch (fun _ _ hm => by cases hm))
        clear hcp hch hp
        go_wp2_with fail
        refine (New_cur _ S false _ HRS5.out (by omega)).mono ?_
        rintro e w6 ⟨d, rfl, hp, hcp, hch⟩
        have H6 := Lib.hid (H5.out.new hch hcp hp).swap
        clear hcp hch hp
        go_wp2_with fail
        refine (Uleb_cur p _ w6 H6.out.env H6.out.cur).mono ?_
        rintro e w7 ⟨rfl, hcp, hch⟩
        have H7 := Lib.hid (H6.out.call hcp hch).swap
        rw [HSX.out] at H7
        rw [HX.out]
        clear hcp hch
        go_wp2_with fail
        refine (Sleb_cur d _ w7 H7.out.env H7.out.cur).mono ?_
        rintro e w8 ⟨rfl, hcp, hch⟩
        have H8 := Lib.hid (H7.out.call hcp hch).swap
        rw [HSY.out] at H8
        rw [HY.out]
        clear hcp hch
        rcases HCX.out with ⟨g1, rfl, rfl⟩ | ⟨g1, rfl, rfl⟩
        · have t1 : decide ((U.length : Int) ≤ 10) = true := by simp; omega
          have t2 : decide ((10 : Int) < (U.length : Int)) = false := by simp; omega
          go_wp2_with fail
          refine (Left_cur p _ _ H8.out.cur).mono ?_
          rintro e wl ⟨rfl, hdr⟩
          have H8l := Lib.hid (H8.out.dr hdr)
          clear hdr
          simp only [Int.sub_self]
          go_wp2_with fail
          refine (Err_cur p _ _ H8l.out.env H8l.out.cur).mono ?_
          rintro e we ⟨rfl, hch⟩
          have H8le := Lib.hid (H8l.out.pure hch)
          clear hch
          simp only []
          rcases HCY.out with ⟨g1, rfl, rfl⟩ | ⟨g1, rfl, rfl⟩
          · have t1 : decide ((S.length : Int) ≤ 10) = true := by simp; omega
            have t2 : decide ((10 : Int) < (S.length : Int)) = false := by simp; omega
            have H8les := Lib.hid H8le.out.swap
            go_wp2_with fail
            refine (Left_cur d _ _ H8les.out.cur).mono ?_
            rintro e wl ⟨rfl, hdr⟩
            have H8lesl := Lib.hid (H8les.out.dr hdr)
            clear hdr
            simp only [Int.sub_self]
            go_wp2_with fail
            refine (Err_cur d _ _ H8lesl.out.env H8lesl.out.cur).mono ?_
            rintro e we ⟨rfl, hch⟩
            have H8lesle := Lib.hid (H8lesl.out.pure hch)
            clear hch
            simp only []
            go_wp2_with fail
            refine (known_ok _ H8lesle.out.env).mono ?_
            rintro e wk ⟨rfl, hc⟩
            have HZ := Lib.hid (H8lesle.out.chg.then hc)
            clear hc
            go_wp2
            go_ret
            exact ⟨rfl, HZ.out⟩
          · have t1 : decide ((S.length : Int) ≤ 10) = false := by simp; omega
            have t2 : decide ((10 : Int) < (S.length : Int)) = true := by simp; omega
            have H8les := Lib.hid H8le.out.swap
            go_wp2_with fail
            refine (Err_cur d _ _ H8les.out.env H8les.out.cur).mono ?_
            rintro e we ⟨rfl, hch⟩
            have H8lese := Lib.hid (H8les.out.pure hch)
            clear hch
            first | simp only [if_true] | simp only [if_false, Bool.false_eq_true]
            go_wp2_with fail
            refine (At_cur d _ _ H8lese.out.cur).mono ?_
            rintro e wa ⟨rfl, rfl⟩
            go_wp2_with fail
            refine (known_ok _ H8lese.out.env).mono ?_
            rintro e wk ⟨rfl, hc⟩
            have HZ := Lib.hid (H8lese.out.chg.then hc)
            clear hc
            go_wp2
            go_ret
            exact ⟨rfl, HZ.out⟩
        · have t1 : decide ((U.length : Int) ≤ 10) = false := by simp; omega
          have t2 : decide ((10 : Int) < (U.length : Int)) = true := by simp; omega
          go_wp2_with fail
          refine (Err_cur p _ _ H8.out.env H8.out.cur).mono ?_
          rintro e we ⟨rfl, hch⟩
          have H8e := Lib.hid (H8.out.pure hch)
          clear hch
          first | simp only [if_true] | simp only [if_false, Bool.false_eq_true]
          go_wp2_with fail
          refine (At_cur p _ _ H8e.out.cur).mono ?_
          rintro e wa ⟨rfl, rfl⟩
          rcases HCY.out with ⟨g1, rfl, rfl⟩ | ⟨g1, rfl, rfl⟩
          · have t1 : decide ((S.length : Int) ≤ 10) = true := by simp; omega
            have t2 : decide ((10 : Int) < (S.length : Int)) = false := by simp; omega
            have H8es := Lib.hid H8e.out.swap
            go_wp2_with fail
            refine (Left_cur d _ _ H8es.out.cur).mono ?_
            rintro e wl ⟨rfl, hdr⟩
            have H8esl := Lib.hid (H8es.out.dr hdr)
            clear hdr
            simp only [Int.sub_self]
            go_wp2_with fail
            refine (Err_cur d _ _ H8esl.out.env H8esl.out.cur).mono ?_
            rintro e we ⟨rfl, hch⟩
            have H8esle := Lib.hid (H8esl.out.pure hch)
            clear hch
            simp only []
            go_wp2_with fail
            refine (known_ok _ H8esle.out.env).mono ?_
            rintro e wk ⟨rfl, hc⟩
            have HZ := Lib.hid (H8esle.out.chg.then hc)
            clear hc
            go_wp2
            go_ret
            exact ⟨rfl, HZ.out⟩
          · have t1 : decide ((S.length : Int) ≤ 10) = false := by simp; omega
            have t2 : decide ((10 : Int) < (S.length : Int)) = true := by simp; omega
            have H8es := Lib.hid H8e.out.swap
            go_wp2_with fail
            refine (Err_cur d _ _ H8es.out.env H8es.out.cur).mono ?_
            rintro e we ⟨rfl, hch⟩
            have H8ese := Lib.hid (H8es.out.pure hch)
            clear hch
            first | simp only [if_true] | simp only [if_false, Bool.false_eq_true]
            go_wp2_with fail
            refine (At_cur d _ _ H8ese.out.cur).mono ?_
            rintro e wa ⟨rfl, rfl⟩
            go_wp2_with fail
            refine (known_ok _ H8ese.out.env).mono ?_
            rintro e wk ⟨rfl, hc⟩
            have HZ := Lib.hid (H8ese.out.chg.then hc)
            clear hc
            go_wp2
            go_ret
            exact ⟨rfl, HZ.out⟩
theorem LebPads_out (n : Int) (m : Int) (more : Int) (w : World) (hg : Env w) (h : more < 1 ∨ 12 < more) :
    Calls Tryd.prog 7 #[.int .u64 n, .int .i64 m, .int .i64 more] w fun e w' => e = .returned (.bool true) ∧ Chg [] w w' := by
  have HG := Lib.hid hg
  clear hg
  rcases (show more < 1 ∨ (1 ≤ more ∧ 12 < more) by omega) with h | ⟨h, h2⟩
  all_goals

    go_enter Tryd.func7, Tryd.ntmps7
    go_wp2_with fail
    refine (known_ok w HG.out).mono ?_
    rintro e w1 ⟨rfl, hc⟩
    have HC := Lib.hid hc
    clear hc
    go_wp2
    go_ret
    exact ⟨rfl, HC.out⟩
theorem LebPads_walk (w : World) (hg : Env w) (n : Int) (hn : (Lit.int .u64 n).wf = true) (m : Int) (hm : (Lit.int .i64 m).wf = true) (more : Int) (_ : (Lit.int .i64 more).wf = true) :
    Calls Tryd.prog 7 #[.int .u64 n, .int .i64 m, .int .i64 more] w fun e w' => e = .returned (.bool true) ∧ Chg [] w w' := by
  by_cases h : more < 1 ∨ 12 < more
  · exact LebPads_out n m more w hg h
  · obtain ⟨k, rfl⟩ : ∃ k : Nat, more = k := ⟨more.toNat, by omega⟩
    obtain ⟨n, rfl, h1⟩ := u64_nat n hn
    exact LebPads_in n h1 m (i64_bd m hm) k (by omega) (by omega) w hg _ rfl
end Go.Proofs.YtpodphfdoonidaaDoor
