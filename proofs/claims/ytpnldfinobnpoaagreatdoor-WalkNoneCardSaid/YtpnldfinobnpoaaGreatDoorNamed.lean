/- chain.named. -/
import Derived.Test.YtpnldfinobnpoaaGreatDoorNmP
namespace Go.Proofs.YtpnldfinobnpoaaGreatDoor
open Go.RowKit
set_option maxRecDepth 100000

/-- What chain.named answers. -/
def NmPost (ok : Bool) (base : Nat) (S : Nm) (e : Ending) (w : World) : Prop := match ok with
  | true => ∃ v1 v2, e = .returned (.tuple #[v1, v2, .bool true]) ∧ BB w base v1 S.out ∧ BB w base v2 S.ns
  | false => e = .returned (.tuple #[.slice none 0 0, .slice none 0 0, .bool false])
theorem NmPost.bad {ok : Bool} (h : ok = false) {base : Nat} {S : Nm} {w : World} : NmPost ok base S (.returned (.tuple #[.slice none 0 0, .slice none 0 0, .bool false])) w := by subst h; rfl
set_option maxHeartbeats 1000000 in
theorem named_any (l : List Imp) (hl : l.length ≤ 4096) (hs : ∀ x ∈ l, x.sym.size ≤ 300) (v : Value) (m : Img) (f : Int) (w : World) (rd : impL.Rd w v l) :
    Calls Tryz.prog 62 #[v, imgL.val m, .int .i64 f] w fun e w' => NmPost (l.all (okI m.deps.n f)) w.heap.size (nmAll f l) e w' ∧ Chg [] w w' := by
  obtain ⟨a, cap, rfl, hc1, hc2⟩ := rd.shape
  have Rd := Lib.hid rd
  clear rd
  have HFIT := Lib.hid (nmAll_fit f l hs)
  have HSZ : Hid (∀ k, k < l.length → (l.getD k .zero).sym.size ≤ 300) := by
    refine Lib.hid ?_
    intro k hk
    refine hs _ ?_
    rw [List.getD_eq_getElem?_getD, List.getElem?_eq_getElem hk]
    exact List.getElem_mem hk
  clear hs
  have HBAD : Hid (∀ k, k < l.length → okI m.deps.n f (l.getD k .zero) = false → l.all (okI m.deps.n f) = false) := by
    refine Lib.hid ?_
    intro k hk h
    cases e : l.all (okI m.deps.n f) with
    | false => rfl
    | true =>
    have := all_get.1 e k hk
    rw [h] at this
    cases this
  go_enter Tryz.func62, Tryz.ntmps62
  go_wp2_with ((with_reducible refine Lay.bxL (L := imgL) 30 m ?_ ?_); exact rfl; intro W1 bm ebm cbm xbm; replace ebm := Lib.hid ebm; replace cbm := Lib.hid cbm; replace xbm := Lib.hid xbm; refine Hid.out ?_)
  refine Lib.hid ?_
  go_upto_region 2 with fail
  refine Lay.with_world (fun W => BB W W1.heap.size (.slice (some ⟨W1.heap.size, 0, none⟩) 1 1) [0] ∧ Chg [] W1 W) ⟨Lay.Buf.of_heap (heap_alloc_eq _ _) rfl rfl (by decide) (Nat.le_refl _), (Chg.refl _ _).alloc _⟩ (fun W2 hW => ?_)
  obtain ⟨n2, c2⟩ := hW
  have N2 := Lib.hid n2
  have C2 := Lib.hid c2
  clear n2 c2
  go_wp2_with ((with_reducible refine Map.mkL Map.strK 158 ?_); intro W3 bq ebq cbq mbq; replace ebq := Lib.hid ebq; replace cbq := Lib.hid cbq; replace mbq := Lib.hid mbq; refine Hid.out ?_)
  refine Lib.hid ?_
  have B3 : Hid (BB W3 W1.heap.size (.slice (some ⟨W1.heap.size, 0, none⟩) 1 1) [0]) := Lib.hid (N2.out.pure cbq.out)
  have C3 : Hid (Chg [] W1 W3) := Lib.hid (C2.out.then cbq.out)
  have hbq : W1.heap.size ≤ bq := by rw [ebq.out]; exact C2.out.size
  have M3 : Hid (Map.Is Map.strK W3 bq (plF Nm.zero.pl)) := Lib.hid (mbq.out)
  clear ebq cbq mbq N2 C2
  go_wp2_with fail
  go_loopw [6, 7, 19] (fun s6 s7 s19 wr => ∃ k : Nat, k ≤ l.length ∧ s19 = .int .i64 (k : Int) ∧ BB wr W1.heap.size s6 (nmAll f (l.take k)).out ∧ BB wr W1.heap.size s7 (nmAll f (l.take k)).ns ∧ (∀ b, s6.ownBlock = some b → s7.ownBlock ≠ some b) ∧ Map.Is Map.strK wr bq (plF (nmAll f (l.take k)).pl) ∧ (∀ j, j < k → okI m.deps.n f (l.getD j .zero) = true) ∧ Chg [] W1 wr) (fun _ _ s19 _ => l.length - (intOf s19).toNat)
  case atStart => exact ⟨0, Nat.zero_le _, rfl, Lay.Buf.nil _ _, B3.out, fun b hb => (by cases hb), M3.out, fun _ h => absurd h (Nat.not_lt_zero _), C3.out⟩
  case round =>
    obtain ⟨k, hk, rfl, h6, h7, hne, hm, hok, hch⟩ := hrel
    by_cases hlt : k < l.length
    · obtain ⟨b, off, rfl, hb, hcell⟩ := Rd.out.at (by omega)
      have hI : impL.In w b (off + k * 4) (l.getD k .zero) := hcell k hlt
      have hx3 := HSZ.out k hlt
      have e1 := nmAll_snoc f (l.take k) (l.getD k .zero)
      rw [← take_snoc hlt] at e1
      have hft := HFIT.out k hk
      have BAD := Lib.hid (HBAD.out k hlt)
      obtain ⟨x, hx⟩ : ∃ x, x = l.getD k .zero := ⟨_, rfl⟩
      rw [← hx] at hI e1 BAD hx3
      generalize nmAll f (l.take k) = S at *
      have hI2 := (hI.frame cbm.out).frame hch
      clear hI hcell
      have hf1 := hft.ns
      have hf2 := hft.out
      have hf3 := hft.at_le x
      obtain ⟨a7, c7, rfl, hl7, hm7⟩ := h7.rd.shape
      have H6 := Lib.hid h6
      have H7 := Lib.hid h7
      have Hne := Lib.hid hne
      have Hm := Lib.hid hm
      have Hok := Lib.hid hok
      have Hch := Lib.hid hch
      have Hx := Lib.hid hx
      have E1 := Lib.hid e1
      have Hft := Lib.hid hft
      have HI2 := Lib.hid hI2
      clear h6 h7 hne hm hok hch hx e1 hft hI2
      go_wp2_with ((with_reducible refine Lay.ldL Tryz.tImp x (HI2.out) ?_ ?_); exact rfl; refine Hid.out ?_)
      refine Lib.hid ?_
      go_wp2_with ((with_reducible refine Lay.alL Tryz.tImp ?_); intro W4 bx ebx cbx xbx; replace ebx := Lib.hid ebx; replace cbx := Lib.hid cbx; replace xbx := Lib.hid xbx; refine Hid.out ?_)
      refine Lib.hid ?_
      go_wp2_with ((with_reducible refine Lay.stL Tryz.tImp x (xbx.out) ?_ ?_ ?_); exact rfl; exact rfl; intro W5 cW5 xW5; replace cW5 := Lib.hid cW5; replace xW5 := Lib.hid xW5; refine Hid.out ?_)
      refine Lib.hid ?_
      have D5 : Hid (Chg [] wr W5) := Lib.hid (cbx.out.new cW5.out (by rw [ebx.out]; exact Nat.le_refl _))
      have C5 : Hid (Chg [] W1 W5) := Lib.hid (Hch.out.then D5.out)
      have DU0 : Hid (Duo wr W1.heap.size u6 S.out (.slice a7 S.ns.length c7) S.ns) := Lib.hid (⟨H6.out, H7.out, Hne.out⟩)
      have DU := Lib.hid (DU0.out.pure D5.out)
      have M5 := Lib.hid (Hm.out.frame D5.out)
      have X5 := Lib.hid (xW5.out)
      have BX : Hid (bq < bx ∧ ∀ b, (Value.slice a7 S.ns.length c7).ownBlock = some b → b < bx) := by
        refine Lib.hid ?_
        rw [ebx.out]
        exact ⟨Hm.out.lt, fun b hb => (H7.out.lt b hb).2⟩
      clear H6 H7 Hne DU0 Hm cbx ebx xbx cW5 xW5 HI2
      have y2 := Imp.c_sym X5.out
      cases hp : S.pl x.sym with
      | some p =>
        have hat : S.at x = p := by unfold Nm.at; rw [hp]; rfl
        have HBY : Hid (∀ W, Calls Tryz.prog 93 #[impL.val x, .int .i64 (p : Int), .int .i64 f] W fun e w' => ∃ v, e = .returned v ∧ BB w' W.heap.size v (impBB x (S.at x) f) ∧ Chg [] W w') := Lib.hid (fun W => by rw [hat]; exact bytes_any x p (by omega) f W)
        go_wp2_with ((with_reducible refine get2S Tryz.tPl M5.out x.sym (.int .i64 p) (plF_some hp) ?_ ?_ ?_); exact rfl; exact rfl; refine Hid.out ?_)
        refine Lib.hid ?_
        have HS2 : Hid (S.step f x = ⟨S.out ++ impBB x (S.at x) f, S.ns, S.pl⟩) := Lib.hid (by unfold Nm.step; rw [if_neg (by rw [hp]; simp), if_neg (by rw [hp]; simp)])
        have Hp := Lib.hid hp
        have Hat := Lib.hid hat
        clear hp hat
        go_upto_region 11 with fail
        have y0 := Imp.c_ord X5.out
        have HLB : Hid ((S.out.length + (impBB x (S.at x) f).length) ≤ 140737488355328 ∧ True) := Lib.hid (⟨by have := impBB_len x (S.at x) f; omega, trivial⟩)
        by_cases z1 : x.sym.size = 0
        · have d1 : x.sym.toList = [] := by rw [Lib.toList_data]; exact List.eq_nil_of_length_eq_zero (by rw [str_len]; exact z1)
          have HB : Hid (okI m.deps.n f x = false) := Lib.hid (by simp [okI, txtB, z1])
          clear z1
          go_wp2
          go_ret3
          exact ⟨NmPost.bad (BAD.out HB.out), (cbm.out.then C5.out).then (Chg.refl _ _)⟩
        have d1 : ¬ x.sym.toList = [] := by
          intro e
          rw [Lib.toList_data] at e
          have := str_len x.sym
          rw [e] at this
          exact z1 this.symm
        have d1e : x.sym.toList.isEmpty = false := by cases e : x.sym.toList with | nil => exact absurd e d1 | cons a b => rfl
        by_cases z2 : x.sym.size ≤ 255
        case neg =>
          have d2 : decide ((x.sym.size : Int) ≤ 255) = false := by simp; omega
          have HB : Hid (okI m.deps.n f x = false) := Lib.hid (by simp [okI, txtB, z2])
          clear z1 z2
          go_wp2
          go_ret3
          exact ⟨NmPost.bad (BAD.out HB.out), (cbm.out.then C5.out).then (Chg.refl _ _)⟩
        have d2 : decide ((x.sym.size : Int) ≤ 255) = true := by simp; omega
        cases hcb : decide (0 ≤ Lib.indexByte x.sym.data.toList 0) with
        | true =>
          have HB : Hid (okI m.deps.n f x = false) := Lib.hid (by simp only [okI, txtB, hcb]; simp)
          have HCON : Hid (∀ W, Calls Tryz.prog 84 #[.string x.sym, .string ⟨#[0]⟩] W fun e w' => e = .returned (.bool true) ∧ w' = W) := Lib.hid (fun W => by have := Tryz.strings_Contains_one x.sym 0 W; rw [hcb] at this; exact this)
          have Z1 := Lib.hid z1
          have Z2 := Lib.hid z2
          have Hcb := Lib.hid hcb
          clear z1 z2 hcb
          go_wp2_with fail
          refine (HCON.out _).mono ?_
          rintro e WC ⟨rfl, rfl⟩
          go_wp2
          go_ret3
          exact ⟨NmPost.bad (BAD.out HB.out), (cbm.out.then C5.out).then (Chg.refl _ _)⟩
        | false =>
        have HCON : Hid (∀ W, Calls Tryz.prog 84 #[.string x.sym, .string ⟨#[0]⟩] W fun e w' => e = .returned (.bool false) ∧ w' = W) := Lib.hid (fun W => by have := Tryz.strings_Contains_one x.sym 0 W; rw [hcb] at this; exact this)
        have htx : txtB x.sym = true := by simp only [txtB, hcb]; simp [z1, z2]
        have Z1 := Lib.hid z1
        have Z2 := Lib.hid z2
        have Hcb := Lib.hid hcb
        clear z1 z2 hcb
        have XM5 := Lib.hid ((xbm.out.frame C5.out))
        cases hor : ordB x.ord m.deps.n with
        | false =>
          have HB : Hid (okI m.deps.n f x = false) := Lib.hid (by simp [okI, hor])
          have HOR : Hid (∀ W, Calls Tryz.prog 31 #[.int .i64 x.ord, imgL.val m] W fun e w' => e = .returned (.bool false) ∧ Chg [] W w') := Lib.hid (fun W => by have := ordinal_any x.ord m W; rw [hor] at this; exact this)
          have Htx := Lib.hid htx
          have Hor := Lib.hid hor
          clear htx hor
          go_wp2_with fail
          refine (HCON.out _).mono ?_
          rintro e WC ⟨rfl, rfl⟩
          go_wp2_with ((with_reducible refine ldG Tryz.tImg m (XM5.out.in) ?_ ?_ ?_); exact rfl; exact rfl; refine Hid.out ?_)
          refine Lib.hid ?_
          go_wp2_with fail
          refine (HOR.out _).mono ?_
          rintro e W7 ⟨rfl, hc7⟩
          have C7 := Lib.hid (hc7)
          clear hc7
          go_wp2
          go_ret3
          exact ⟨NmPost.bad (BAD.out HB.out), (cbm.out.then C5.out).then C7.out⟩
        | true =>
        have HOR : Hid (∀ W, Calls Tryz.prog 31 #[.int .i64 x.ord, imgL.val m] W fun e w' => e = .returned (.bool true) ∧ Chg [] W w') := Lib.hid (fun W => by have := ordinal_any x.ord m W; rw [hor] at this; exact this)
        go_wp2_with fail
        refine (HCON.out _).mono ?_
        rintro e WC ⟨rfl, rfl⟩
        go_wp2_with ((with_reducible refine ldG Tryz.tImg m (XM5.out.in) ?_ ?_ ?_); exact rfl; exact rfl; refine Hid.out ?_)
        refine Lib.hid ?_
        go_wp2_with fail
        refine (HOR.out _).mono ?_
        rintro e W7 ⟨rfl, hc7⟩
        have C7 := Lib.hid (hc7)
        clear hc7
        have X7 := Lib.hid (X5.out.frame C7.out)
        go_wp2_with ((with_reducible refine ldG Tryz.tImp x (X7.out.in) ?_ ?_ ?_); exact rfl; exact rfl; refine Hid.out ?_)
        refine Lib.hid ?_
        obtain ⟨F, hF⟩ : ∃ F, F = fmtN [x] := ⟨_, rfl⟩
        have HFM : Hid (∀ (v : Value) (W : World), impL.Rd W v [x] → Calls Tryz.prog 92 #[v] W fun e w' => e = .returned (.int .i64 F) ∧ Chg [] W w') := Lib.hid (fun v W r => by have := format_any [x] v W r; rw [← hF] at this; exact this)
        by_cases hfm : F ≤ f
        case neg =>
          have HB : Hid (okI m.deps.n f x = false) := Lib.hid (by simp only [okI]; rw [← hF]; simp [hfm])
          have dF : decide (f < F) = true := by simpa using hfm
          have HF := Lib.hid hF
          have Hfm := Lib.hid hfm
          have Htx := Lib.hid htx
          have Hor := Lib.hid hor
          clear hF hfm htx hor
          go_wp2_with ((with_reducible refine bs1 (x) (imp_built x) ?_ ?_ ?_); exact rfl; exact rfl; intro WV vv cvv rvv; replace cvv := Lib.hid cvv; replace rvv := Lib.hid rvv; refine Hid.out ?_)
          refine Lib.hid ?_
          go_wp2_with fail
          refine (HFM.out _ _ rvv.out).mono ?_
          rintro e W8 ⟨rfl, hc8⟩
          have C8 := Lib.hid ((C7.out.then cvv.out).then hc8)
          clear hc8
          go_wp2
          go_ret3
          exact ⟨NmPost.bad (BAD.out HB.out), (cbm.out.then C5.out).then C8.out⟩
        have dF : decide (f < F) = false := by simpa using hfm
        have HOK : Hid (okI m.deps.n f x = true) := Lib.hid (by simp only [okI]; rw [← hF, htx, hor]; simpa using hfm)
        have HF := Lib.hid hF
        have Hfm := Lib.hid hfm
        have Htx := Lib.hid htx
        have Hor := Lib.hid hor
        clear hF hfm htx hor
        go_wp2_with ((with_reducible refine bs1 (x) (imp_built x) ?_ ?_ ?_); exact rfl; exact rfl; intro WV vv cvv rvv; replace cvv := Lib.hid cvv; replace rvv := Lib.hid rvv; refine Hid.out ?_)
        refine Lib.hid ?_
        go_wp2_with fail
        refine (HFM.out _ _ rvv.out).mono ?_
        rintro e W8 ⟨rfl, hc8⟩
        have C8 := Lib.hid ((C7.out.then cvv.out).then hc8)
        have X8 := Lib.hid ((X7.out.frame cvv.out).frame hc8)
        clear hc8 X7 X5 HFM HOR HCON
        go_wp2_with ((with_reducible refine Lay.ldL Tryz.tImp x (X8.out.in) ?_ ?_); exact rfl; refine Hid.out ?_)
        refine Lib.hid ?_
        go_wp2_with fail
        refine (HBY.out _).mono ?_
        rintro e W9 ⟨v9, rfl, hb9, hc9⟩
        have B9 := Lib.hid (hb9)
        have C9 := Lib.hid (C8.out.then hc9)
        clear hb9 hc9
        have D9 := Lib.hid ((DU.out.pure C9.out).swap)
        have M9 := Lib.hid (M5.out.frame C9.out)
        have C10 := Lib.hid (C5.out.then C9.out)
        go_wp2_with (at_builtin; refine Lay.app (L := byteL) Tryz.infoByte rfl _ _ rfl W1.heap.size u6 S.out rfl D9.out.two _ rfl (impBB x (S.at x) f) B9.out.rd (by have := HLB.out.1; omega) (by have := HLB.out.1; omega) C10.out.size ?_; intro v' wb hov hgv hlc; refine Hid.out ?_)
        refine Lib.hid ?_
        have D10 := Lib.hid ((D9.out.grow hov hgv hlc).swap)
        have M10 := Lib.hid (D9.out.is M9.out hgv)
        have C11 := Lib.hid (D9.out.chg hgv rfl C10.out)
        clear hov hgv hlc D9 M9 C10 C9 B9 C8 DU M5 C5
        go_wp2
        go_roundw
        case rel =>
          refine ⟨k + 1, hlt, by go_num, ?_, ?_, ?_, ?_, fun j hj => ?_, C11.out⟩
          · rw [E1.out]; exact D10.out.one
          · rw [E1.out, HS2.out]; exact D10.out.two
          · exact D10.out.ne
          · rw [E1.out, HS2.out]; exact M10.out
          · by_cases e : j = k
            · subst e; rw [← Hx.out]; exact HOK.out
            · exact Hok.out j (by omega)
        case measure => simp [intOf]; omega
      | none =>
        have hat : S.at x = S.ns.length := by unfold Nm.at; rw [hp]; rfl
        have HBY : Hid (∀ W, Calls Tryz.prog 93 #[impL.val x, .int .i64 (S.ns.length : Int), .int .i64 f] W fun e w' => ∃ v, e = .returned v ∧ BB w' W.heap.size v (impBB x (S.at x) f) ∧ Chg [] W w') := Lib.hid (fun W => by rw [hat]; exact bytes_any x _ (by omega) f W)
        go_wp2_with ((with_reducible refine get2N Tryz.tPl M5.out x.sym (plF_none hp) ?_ ?_ ?_); exact rfl; exact rfl; refine Hid.out ?_)
        refine Lib.hid ?_
        have HS2 : Hid (S.step f x = ⟨S.out ++ impBB x (S.at x) f, S.ns ++ (x.sym.data.toList ++ [0]), fun q => if q = x.sym then some S.ns.length else S.pl q⟩) := Lib.hid (by unfold Nm.step; rw [if_pos hp, if_pos hp])
        have Hp := Lib.hid hp
        have Hat := Lib.hid hat
        clear hp hat
        go_wp2_with ((with_reducible refine Map.setL Tryz.tPl (M5.out) x.sym (.int .i64 S.ns.length) ?_ ?_ ?_ ?_); exact rfl; exact rfl; exact rfl; intro W6 cW6 mW6; replace cW6 := Lib.hid cW6; replace mW6 := Lib.hid mW6; refine Hid.out ?_)
        refine Lib.hid ?_
        have D6 := Lib.hid (DU.out.map M5.out cW6.out)
        have C6 := Lib.hid (C5.out.new cW6.out hbq)
        have X6 := Lib.hid (X5.out.frameS cW6.out (by intro hh; have := BX.out.1; simp at hh; omega))
        have M6 : Hid (Map.Is Map.strK W6 bq (plF fun q => if q = x.sym then some S.ns.length else S.pl q)) := Lib.hid (by rw [← plF_put]; exact mW6.out)
        clear DU M5 C5 X5 cW6 mW6 y2
        have y2 := Imp.c_sym X6.out
        go_wp2_with (at_builtin; refine app_str rfl _ _ rfl W1.heap.size (.slice a7 S.ns.length c7) S.ns rfl D6.out.two x.sym rfl (by omega) C6.out.size ?_; intro va wa hov hgv hlc; refine Hid.out ?_)
        refine Lib.hid ?_
        have D7 := Lib.hid (D6.out.grow hov hgv hlc)
        have M7 := Lib.hid (D6.out.is M6.out hgv)
        have C7 := Lib.hid (D6.out.chg hgv rfl C6.out)
        have X7 := Lib.hid (X6.out.frameS (Lay.chg_grown hgv) (fun hm => by have := BX.out.2 bx (by simpa using hm); omega))
        have BV : Hid (∀ b, va.ownBlock = some b → b ≠ bx) := by
          refine Lib.hid ?_
          intro b hb e
          subst e
          rcases hlc with e | e
          · have := BX.out.2 b (e.symm.trans hb); omega
          · rw [e] at hb; cases hb; have := X6.out.lt; omega
        clear hov hgv hlc D6 M6 C6 X6
        go_wp2_with (at_builtin; refine Lay.app (L := byteL) Tryz.infoByte rfl _ _ rfl W1.heap.size va (S.ns ++ x.sym.data.toList) rfl (D7.out.two.pure ((Chg.refl _ _).alloc _)) _ rfl [0] (Lay.Rd.of_heap (heap_alloc_eq _ _) rfl rfl (show 1 ≤ maxLen by decide)) (by rw [List.length_append, str_len]; simp; omega) (by rw [List.length_append, str_len]; simp; omega) (Nat.le_trans C7.out.size (by simp)) ?_; intro vb wb hov hgv hlc; refine Hid.out ?_)
        refine Lib.hid ?_
        have DU1 := Lib.hid ((D7.out.pure ((Chg.refl _ _).alloc (.cells #[.int .u8 0] 5))))
        have DU := Lib.hid (DU1.out.grow hov hgv hlc)
        have M5 := Lib.hid (DU1.out.is (M7.out.frame ((Chg.refl _ _).alloc (.cells #[.int .u8 0] 5))) hgv)
        have C5 := Lib.hid (DU1.out.chg hgv rfl (C7.out.alloc _))
        have X5 := Lib.hid ((X7.out.alloc (.cells #[.int .u8 0] 5)).frameS (Lay.chg_grown hgv) (fun hm => BV.out bx (by simpa using hm) rfl))
        clear hov hgv hlc DU1 D7 M7 C7 X7 y2
        rw [List.append_assoc] at DU
        have y2 := Imp.c_sym X5.out
        go_upto_region 11 with fail
        have y0 := Imp.c_ord X5.out
        have HLB : Hid ((S.out.length + (impBB x (S.at x) f).length) ≤ 140737488355328 ∧ True) := Lib.hid (⟨by have := impBB_len x (S.at x) f; omega, trivial⟩)
        by_cases z1 : x.sym.size = 0
        · have d1 : x.sym.toList = [] := by rw [Lib.toList_data]; exact List.eq_nil_of_length_eq_zero (by rw [str_len]; exact z1)
          have HB : Hid (okI m.deps.n f x = false) := Lib.hid (by simp [okI, txtB, z1])
          clear z1
          go_wp2
          go_ret3
          exact ⟨NmPost.bad (BAD.out HB.out), (cbm.out.then C5.out).then (Chg.refl _ _)⟩
        have d1 : ¬ x.sym.toList = [] := by
          intro e
          rw [Lib.toList_data] at e
          have := str_len x.sym
          rw [e] at this
          exact z1 this.symm
        have d1e : x.sym.toList.isEmpty = false := by cases e : x.sym.toList with | nil => exact absurd e d1 | cons a b => rfl
        by_cases z2 : x.sym.size ≤ 255
        case neg =>
          have d2 : decide ((x.sym.size : Int) ≤ 255) = false := by simp; omega
          have HB : Hid (okI m.deps.n f x = false) := Lib.hid (by simp [okI, txtB, z2])
          clear z1 z2
          go_wp2
          go_ret3
          exact ⟨NmPost.bad (BAD.out HB.out), (cbm.out.then C5.out).then (Chg.refl _ _)⟩
        have d2 : decide ((x.sym.size : Int) ≤ 255) = true := by simp; omega
        cases hcb : decide (0 ≤ Lib.indexByte x.sym.data.toList 0) with
        | true =>
          have HB : Hid (okI m.deps.n f x = false) := Lib.hid (by simp only [okI, txtB, hcb]; simp)
          have HCON : Hid (∀ W, Calls Tryz.prog 84 #[.string x.sym, .string ⟨#[0]⟩] W fun e w' => e = .returned (.bool true) ∧ w' = W) := Lib.hid (fun W => by have := Tryz.strings_Contains_one x.sym 0 W; rw [hcb] at this; exact this)
          have Z1 := Lib.hid z1
          have Z2 := Lib.hid z2
          have Hcb := Lib.hid hcb
          clear z1 z2 hcb
          go_wp2_with fail
          refine (HCON.out _).mono ?_
          rintro e WC ⟨rfl, rfl⟩
          go_wp2
          go_ret3
          exact ⟨NmPost.bad (BAD.out HB.out), (cbm.out.then C5.out).then (Chg.refl _ _)⟩
        | false =>
        have HCON : Hid (∀ W, Calls Tryz.prog 84 #[.string x.sym, .string ⟨#[0]⟩] W fun e w' => e = .returned (.bool false) ∧ w' = W) := Lib.hid (fun W => by have := Tryz.strings_Contains_one x.sym 0 W; rw [hcb] at this; exact this)
        have htx : txtB x.sym = true := by simp only [txtB, hcb]; simp [z1, z2]
        have Z1 := Lib.hid z1
        have Z2 := Lib.hid z2
        have Hcb := Lib.hid hcb
        clear z1 z2 hcb
        have XM5 := Lib.hid ((xbm.out.frame C5.out))
        cases hor : ordB x.ord m.deps.n with
        | false =>
          have HB : Hid (okI m.deps.n f x = false) := Lib.hid (by simp [okI, hor])
          have HOR : Hid (∀ W, Calls Tryz.prog 31 #[.int .i64 x.ord, imgL.val m] W fun e w' => e = .returned (.bool false) ∧ Chg [] W w') := Lib.hid (fun W => by have := ordinal_any x.ord m W; rw [hor] at this; exact this)
          have Htx := Lib.hid htx
          have Hor := Lib.hid hor
          clear htx hor
          go_wp2_with fail
          refine (HCON.out _).mono ?_
          rintro e WC ⟨rfl, rfl⟩
          go_wp2_with ((with_reducible refine ldG Tryz.tImg m (XM5.out.in) ?_ ?_ ?_); exact rfl; exact rfl; refine Hid.out ?_)
          refine Lib.hid ?_
          go_wp2_with fail
          refine (HOR.out _).mono ?_
          rintro e W7 ⟨rfl, hc7⟩
          have C7 := Lib.hid (hc7)
          clear hc7
          go_wp2
          go_ret3
          exact ⟨NmPost.bad (BAD.out HB.out), (cbm.out.then C5.out).then C7.out⟩
        | true =>
        have HOR : Hid (∀ W, Calls Tryz.prog 31 #[.int .i64 x.ord, imgL.val m] W fun e w' => e = .returned (.bool true) ∧ Chg [] W w') := Lib.hid (fun W => by have := ordinal_any x.ord m W; rw [hor] at this; exact this)
        go_wp2_with fail
        refine (HCON.out _).mono ?_
        rintro e WC ⟨rfl, rfl⟩
        go_wp2_with ((with_reducible refine ldG Tryz.tImg m (XM5.out.in) ?_ ?_ ?_); exact rfl; exact rfl; refine Hid.out ?_)
        refine Lib.hid ?_
        go_wp2_with fail
        refine (HOR.out _).mono ?_
        rintro e W7 ⟨rfl, hc7⟩
        have C7 := Lib.hid (hc7)
        clear hc7
        have X7 := Lib.hid (X5.out.frame C7.out)
        go_wp2_with ((with_reducible refine ldG Tryz.tImp x (X7.out.in) ?_ ?_ ?_); exact rfl; exact rfl; refine Hid.out ?_)
        refine Lib.hid ?_
        obtain ⟨F, hF⟩ : ∃ F, F = fmtN [x] := ⟨_, rfl⟩
        have HFM : Hid (∀ (v : Value) (W : World), impL.Rd W v [x] → Calls Tryz.prog 92 #[v] W fun e w' => e = .returned (.int .i64 F) ∧ Chg [] W w') := Lib.hid (fun v W r => by have := format_any [x] v W r; rw [← hF] at this; exact this)
        by_cases hfm : F ≤ f
        case neg =>
          have HB : Hid (okI m.deps.n f x = false) := Lib.hid (by simp only [okI]; rw [← hF]; simp [hfm])
          have dF : decide (f < F) = true := by simpa using hfm
          have HF := Lib.hid hF
          have Hfm := Lib.hid hfm
          have Htx := Lib.hid htx
          have Hor := Lib.hid hor
          clear hF hfm htx hor
          go_wp2_with ((with_reducible refine bs1 (x) (imp_built x) ?_ ?_ ?_); exact rfl; exact rfl; intro WV vv cvv rvv; replace cvv := Lib.hid cvv; replace rvv := Lib.hid rvv; refine Hid.out ?_)
          refine Lib.hid ?_
          go_wp2_with fail
          refine (HFM.out _ _ rvv.out).mono ?_
          rintro e W8 ⟨rfl, hc8⟩
          have C8 := Lib.hid ((C7.out.then cvv.out).then hc8)
          clear hc8
          go_wp2
          go_ret3
          exact ⟨NmPost.bad (BAD.out HB.out), (cbm.out.then C5.out).then C8.out⟩
        have dF : decide (f < F) = false := by simpa using hfm
        have HOK : Hid (okI m.deps.n f x = true) := Lib.hid (by simp only [okI]; rw [← hF, htx, hor]; simpa using hfm)
        have HF := Lib.hid hF
        have Hfm := Lib.hid hfm
        have Htx := Lib.hid htx
        have Hor := Lib.hid hor
        clear hF hfm htx hor
        go_wp2_with ((with_reducible refine bs1 (x) (imp_built x) ?_ ?_ ?_); exact rfl; exact rfl; intro WV vv cvv rvv; replace cvv := Lib.hid cvv; replace rvv := Lib.hid rvv; refine Hid.out ?_)
        refine Lib.hid ?_
        go_wp2_with fail
        refine (HFM.out _ _ rvv.out).mono ?_
        rintro e W8 ⟨rfl, hc8⟩
        have C8 := Lib.hid ((C7.out.then cvv.out).then hc8)
        have X8 := Lib.hid ((X7.out.frame cvv.out).frame hc8)
        clear hc8 X7 X5 HFM HOR HCON
        go_wp2_with ((with_reducible refine Lay.ldL Tryz.tImp x (X8.out.in) ?_ ?_); exact rfl; refine Hid.out ?_)
        refine Lib.hid ?_
        go_wp2_with fail
        refine (HBY.out _).mono ?_
        rintro e W9 ⟨v9, rfl, hb9, hc9⟩
        have B9 := Lib.hid (hb9)
        have C9 := Lib.hid (C8.out.then hc9)
        clear hb9 hc9
        have D9 := Lib.hid ((DU.out.pure C9.out).swap)
        have M9 := Lib.hid (M5.out.frame C9.out)
        have C10 := Lib.hid (C5.out.then C9.out)
        go_wp2_with (at_builtin; refine Lay.app (L := byteL) Tryz.infoByte rfl _ _ rfl W1.heap.size u6 S.out rfl D9.out.two _ rfl (impBB x (S.at x) f) B9.out.rd (by have := HLB.out.1; omega) (by have := HLB.out.1; omega) C10.out.size ?_; intro v' wb hov hgv hlc; refine Hid.out ?_)
        refine Lib.hid ?_
        have D10 := Lib.hid ((D9.out.grow hov hgv hlc).swap)
        have M10 := Lib.hid (D9.out.is M9.out hgv)
        have C11 := Lib.hid (D9.out.chg hgv rfl C10.out)
        clear hov hgv hlc D9 M9 C10 C9 B9 C8 DU M5 C5
        go_wp2
        go_roundw
        case rel =>
          refine ⟨k + 1, hlt, by go_num, ?_, ?_, ?_, ?_, fun j hj => ?_, C11.out⟩
          · rw [E1.out]; exact D10.out.one
          · rw [E1.out, HS2.out]; exact D10.out.two
          · exact D10.out.ne
          · rw [E1.out, HS2.out]; exact M10.out
          · by_cases e : j = k
            · subst e; rw [← Hx.out]; exact HOK.out
            · exact Hok.out j (by omega)
        case measure => simp [intOf]; omega
    · obtain rfl : k = l.length := by omega
      rw [List.take_length] at h6 h7
      have hall := all_get.2 hok
      have H6 := Lib.hid h6
      have H7 := Lib.hid h7
      have Hne := Lib.hid hne
      have Hm := Lib.hid hm
      have Hok := Lib.hid hok
      have Hch := Lib.hid hch
      clear h6 h7 hne hm hok hch
      go_wp2
      go_ret3
      rw [hall]
      exact ⟨⟨_, _, rfl, H6.out.mono cbm.out.size, H7.out.mono cbm.out.size⟩, cbm.out.then Hch.out⟩
end Go.Proofs.YtpnldfinobnpoaaGreatDoor
