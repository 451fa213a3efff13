/- Lemmas, laid together: part 32 of 41. Conditions: none but each lemma's own. -/
import Derived.Test.YtkomocgodljecaaGreatDoorK31
import Derived.Test.YtkomocgodljecaaGreatDoorK15
import Derived.Test.YtkomocgodljecaaGreatDoorK7
import Derived.Test.YtkomocgodljecaaGreatDoorK20
/- bind.may, of any fixups. -/
namespace Go.Proofs.YtkomocgodljecaaGreatDoor
open Go.RowKit
set_option maxRecDepth 100000

theorem getD_mem {s : List Fx} {k : Nat} (h : k < s.length) : s.getD k fxl.d ∈ s := by
  rw [List.getD_eq_getElem?_getD, List.getElem?_eq_getElem h]
  exact List.getElem_mem h
theorem take_snocF {s : List Fx} {k : Nat} (h : k < s.length) : s.take (k + 1) = s.take k ++ [s.getD k fxl.d] := by
  rw [List.getD_eq_getElem?_getD, List.getElem?_eq_getElem h]
  exact List.take_succ_eq_append_getElem h
def badB (K : Int) (f : Fx) : Bool := decide (f.kind ≠ 2) || (!mayFx f || (decide (K = 2) && decide (f.ord ≠ -3)))
/-- Why binds may not be made. -/
def mayBE (K : Int) (nd : Nat) (segs : List Seg) (s : List Fx) : Int :=
  if K < 1 ∨ 3 < K ∨ meetF s = true then 2
  else if s.any (badB K) then 2
  else if s.any (fun f => decide ((nd : Int) < f.ord)) then 22
  else if 20000 < s.length then 11
  else if s.any (fun f => !writS segs f.at_ 8) then 19
  else 0
set_option maxHeartbeats 8000000 in
theorem may_any (m : Img) (K : Int) (nd : Nat) (hnd : m.deps.n = nd) (segs : List Seg) (hls : SegsB segs) (s : List Fx) (hs : s.length ≤ 100000) (hr : ∀ f ∈ s, 0 ≤ f.at_ ∧ f.at_ < 18446744073709551616) (base : Nat) (a : Option Addr) (cap : Nat) (w : World) (rd : segL.Rd w m.segs.v segs) (hb : FB w base (.slice a s.length cap) s) :
    Calls Tryz.prog 15 #[imgL.val m, .int .i64 K, .slice a s.length cap] w fun e w' => e = .returned (.int .i64 (mayBE K nd segs s)) ∧ Chg [] w w' := by
  have HME := Lib.hid (fun w rd => FMeet_any s (.slice a s.length cap) w rd hs hr)
  have HWR := Lib.hid (fun (A : Int) h w rd => Writable_any m segs hls A 8 h w rd)
  by_cases q1 : K < 1
  · rw [show mayBE K nd segs s = 2 by unfold mayBE; rw [if_pos (.inl q1)]]
    have k1 : decide (K < 1) = true := by simpa using q1
    have HRD := Lib.hid rd
    have HFB := Lib.hid hb
    clear rd hb
    go_enter Tryz.func15, Tryz.ntmps15
    go_wp2_with ((with_reducible refine Lay.bxL (L := imgL) 30 m ?_ ?_); exact rfl; intro W1 bi ebi cbi xbi; replace ebi := Lib.hid ebi; replace cbi := Lib.hid cbi; replace xbi := Lib.hid xbi; refine Hid.out ?_)
    refine Lib.hid ?_
    go_wp2
    go_ret
    exact ⟨rfl, cbi.out⟩
  have k1 : decide (K < 1) = false := by simpa using q1
  by_cases q2 : 3 < K
  · rw [show mayBE K nd segs s = 2 by unfold mayBE; rw [if_pos (.inr (.inl q2))]]
    have k2 : decide (3 < K) = true := by simpa using q2
    have HRD := Lib.hid rd
    have HFB := Lib.hid hb
    clear rd hb
    go_enter Tryz.func15, Tryz.ntmps15
    go_wp2_with ((with_reducible refine Lay.bxL (L := imgL) 30 m ?_ ?_); exact rfl; intro W1 bi ebi cbi xbi; replace ebi := Lib.hid ebi; replace cbi := Lib.hid cbi; replace xbi := Lib.hid xbi; refine Hid.out ?_)
    refine Lib.hid ?_
    go_wp2
    go_ret
    exact ⟨rfl, cbi.out⟩
  have k2 : decide (3 < K) = false := by simpa using q2
  cases q3 : meetF s with
  | true =>
    rw [show mayBE K nd segs s = 2 by unfold mayBE; rw [if_pos (.inr (.inr q3))]]
    rw [q3] at HME
    have HRD := Lib.hid rd
    have HFB := Lib.hid hb
    clear rd hb
    go_enter Tryz.func15, Tryz.ntmps15
    go_wp2_with ((with_reducible refine Lay.bxL (L := imgL) 30 m ?_ ?_); exact rfl; intro W1 bi ebi cbi xbi; replace ebi := Lib.hid ebi; replace cbi := Lib.hid cbi; replace xbi := Lib.hid xbi; refine Hid.out ?_)
    refine Lib.hid ?_
    go_wp2_with fail
    refine (HME.out _ (fx_ofL (HFB.out.rd.frame cbi.out))).mono ?_
    rintro e W2 ⟨rfl, h2⟩
    have H2 := Lib.hid h2
    clear h2
    go_wp2
    go_ret
    exact ⟨rfl, cbi.out.then H2.out⟩
  | false =>
    rw [q3] at HME
    have hm0 : mayBE K nd segs s = if s.any (badB K) then 2 else if s.any (fun f => decide ((nd : Int) < f.ord)) then 22 else if 20000 < s.length then 11 else if s.any (fun f => !writS segs f.at_ 8) then 19 else 0 := by
      unfold mayBE
      rw [if_neg (by rw [q3]; simp; omega)]
    rw [hm0]
    have HMA := Lib.hid (May_any)
    have HRD := Lib.hid rd
    have HFB := Lib.hid hb
    have Hm0 := Lib.hid hm0
    clear rd hb hm0
    obtain ⟨E, hE⟩ : ∃ E, E = (if s.any (badB K) then 2 else if s.any (fun f => decide ((nd : Int) < f.ord)) then 22 else if 20000 < s.length then 11 else if s.any (fun f => !writS segs f.at_ 8) then 19 else 0 : Int) := ⟨_, rfl⟩
    rw [← hE]
    have HE := Lib.hid hE
    clear hE
    go_enter Tryz.func15, Tryz.ntmps15
    go_wp2_with ((with_reducible refine Lay.bxL (L := imgL) 30 m ?_ ?_); exact rfl; intro W1 bi ebi cbi xbi; replace ebi := Lib.hid ebi; replace cbi := Lib.hid cbi; replace xbi := Lib.hid xbi; refine Hid.out ?_)
    refine Lib.hid ?_
    go_wp2_with fail
    refine (HME.out _ (fx_ofL (HFB.out.rd.frame cbi.out))).mono ?_
    rintro e W2 ⟨rfl, h2⟩
    have C2 : Hid (Chg [] W1 W2) := Lib.hid (h2)
    clear h2
    go_wp2_with fail
    go_loopw [25] (fun s25 wr => ∃ k : Nat, k ≤ s.length ∧ s25 = .int .i64 (k : Int) ∧ (s.take k).any (badB K) = false ∧ Chg [] W1 wr) (fun s25 _ => s.length - (intOf s25).toNat)
    case atStart => exact ⟨0, Nat.zero_le _, rfl, rfl, C2.out⟩
    case round =>
      obtain ⟨k, hk, rfl, hbad, hc⟩ := hrel
      have CW := Lib.hid hc
      have Hbad := Lib.hid hbad
      clear hc hbad
      by_cases hlt : k < s.length
      · obtain ⟨g, cap', he0, _, _, _, _, _, _, hIn⟩ := HFB.out.at (by omega)
        cases he0
        obtain ⟨x, hx⟩ : ∃ x, x = s.getD k fxl.d := ⟨_, rfl⟩
        have hI := ((hIn k hlt).frame cbi.out).frame CW.out
        have hxs : x ∈ s := by rw [hx]; exact getD_mem hlt
        have htk : s.take (k + 1) = s.take k ++ [x] := by rw [hx]; exact take_snocF hlt
        rw [← hx] at hI
        have HI := Lib.hid hI
        have Hx := Lib.hid hx
        have HIN := Lib.hid hIn
        clear hI hx hIn
        go_wp2_with ((with_reducible refine Lay.ldL Tryz.tFx x (HI.out) ?_ ?_); exact rfl; refine Hid.out ?_)
        refine Lib.hid ?_
        go_wp2_with ((with_reducible refine Lay.alL Tryz.tFx ?_); intro W3 bx ebx cbx xbx; replace ebx := Lib.hid ebx; replace cbx := Lib.hid cbx; replace xbx := Lib.hid xbx; refine Hid.out ?_)
        refine Lib.hid ?_
        go_wp2_with ((with_reducible refine Lay.stL Tryz.tFx x (xbx.out) ?_ ?_ ?_); exact rfl; exact rfl; intro W4 cW4 xW4; replace cW4 := Lib.hid cW4; replace xW4 := Lib.hid xW4; refine Hid.out ?_)
        refine Lib.hid ?_
        have C4 : Hid (Chg [] W1 W4) := Lib.hid (CW.out.then (cbx.out.new cW4.out (by rw [ebx.out]; exact Nat.le_refl _)))
        have f1 : W4.cell? ⟨bx, 1, none⟩ = some (.int .i64 x.kind) := by
          have := xW4.out.in 1 (by decide)
          rw [Nat.zero_add] at this
          exact this
        have f3 : W4.cell? ⟨bx, 3, none⟩ = some (.int .i64 x.ord) := by
          have := xW4.out.in 3 (by decide)
          rw [Nat.zero_add] at this
          exact this
        by_cases c1 : x.kind = 2
        · rw [c1] at f1
          have hma := May_any x W4
          cases c2 : mayFx x with
          | false =>
            rw [c2] at hma
            have hEr : E = 2 := by
              rw [HE.out, if_pos]
              rw [List.any_eq_true]
              exact ⟨x, hxs, by unfold badB; rw [c2]; simp⟩
            have Hma := Lib.hid hma
            clear hma
            go_wp2_with ((with_reducible refine Lay.ldG2 Tryz.tFx x (xW4.out.in) ?_ ?_ ?_); exact rfl; exact rfl; refine Hid.out ?_)
            refine Lib.hid ?_
            go_wp2_with fail
            refine (Hma.out).mono ?_
            rintro e W5 ⟨rfl, h5⟩
            have C5 := Lib.hid (C4.out.then h5)
            clear h5
            go_wp2
            go_ret
            exact ⟨by rw [hEr]; rfl, cbi.out.then C5.out⟩
          | true =>
            rw [c2] at hma
            have Hma := Lib.hid hma
            clear hma
            by_cases c3 : K = 2
            · have e3 : (K == 2) = true := by simpa using c3
              by_cases c4 : x.ord = -3
              · have e4 : (x.ord == -3) = true := by simpa using c4
                have hbx : badB K x = false := by unfold badB; rw [c2, c1, c4]; simp
                have C3K := Lib.hid c3
                have C4K := Lib.hid c4
                clear c3 c4
                go_wp2_with ((with_reducible refine Lay.ldG2 Tryz.tFx x (xW4.out.in) ?_ ?_ ?_); exact rfl; exact rfl; refine Hid.out ?_)
                refine Lib.hid ?_
                go_wp2_with fail
                refine (Hma.out).mono ?_
                rintro e W5 ⟨rfl, h5⟩
                have C5 := Lib.hid (C4.out.then h5)
                replace f3 := h5.cell f3 (by simp)
                clear h5
                have hnx : (s.take (k + 1)).any (badB K) = false := by
                  have h0 := Hbad.out
                  rw [htk, List.any_append, h0, Bool.false_or]
                  show ((badB K) x || false) = false
                  exact Bool.or_eq_false_iff.2 ⟨hbx, rfl⟩
                have Hnx := Lib.hid hnx
                have Hbx := Lib.hid hbx
                have Htk := Lib.hid htk
                clear hnx hbx htk
                go_wp2
                go_roundw
                case rel => exact ⟨k + 1, hlt, by go_num, Hnx.out, C5.out⟩
                case measure => simp [intOf]; omega
              · have e4 : (x.ord == -3) = false := by simpa using c4
                have hEr : E = 2 := by
                  rw [HE.out, if_pos]
                  rw [List.any_eq_true]
                  exact ⟨x, hxs, by unfold badB; rw [decide_eq_true c3, decide_eq_true c4]; simp⟩
                have C3K := Lib.hid c3
                have C4K := Lib.hid c4
                clear c3 c4
                go_wp2_with ((with_reducible refine Lay.ldG2 Tryz.tFx x (xW4.out.in) ?_ ?_ ?_); exact rfl; exact rfl; refine Hid.out ?_)
                refine Lib.hid ?_
                go_wp2_with fail
                refine (Hma.out).mono ?_
                rintro e W5 ⟨rfl, h5⟩
                have C5 := Lib.hid (C4.out.then h5)
                replace f3 := h5.cell f3 (by simp)
                clear h5
                go_wp2
                go_ret
                exact ⟨by rw [hEr]; rfl, cbi.out.then C5.out⟩
            · have e3 : (K == 2) = false := by simpa using c3
              have hbx : badB K x = false := by unfold badB; rw [c2, c1, decide_eq_false c3]; simp
              have C3K := Lib.hid c3
              clear c3
              go_wp2_with ((with_reducible refine Lay.ldG2 Tryz.tFx x (xW4.out.in) ?_ ?_ ?_); exact rfl; exact rfl; refine Hid.out ?_)
              refine Lib.hid ?_
              go_wp2_with fail
              refine (Hma.out).mono ?_
              rintro e W5 ⟨rfl, h5⟩
              have C5 := Lib.hid (C4.out.then h5)
              replace f3 := h5.cell f3 (by simp)
              clear h5
              have hnx : (s.take (k + 1)).any (badB K) = false := by
                have h0 := Hbad.out
                rw [htk, List.any_append, h0, Bool.false_or]
                show ((badB K) x || false) = false
                exact Bool.or_eq_false_iff.2 ⟨hbx, rfl⟩
              have Hnx := Lib.hid hnx
              have Hbx := Lib.hid hbx
              have Htk := Lib.hid htk
              clear hnx hbx htk
              go_wp2
              go_roundw
              case rel => exact ⟨k + 1, hlt, by go_num, Hnx.out, C5.out⟩
              case measure => simp [intOf]; omega
        · have d1 : (x.kind == 2) = false := by simpa using c1
          have hEr : E = 2 := by
            rw [HE.out, if_pos]
            rw [List.any_eq_true]
            exact ⟨x, hxs, by unfold badB; rw [decide_eq_true c1, Bool.true_or]⟩
          go_wp2
          go_ret
          exact ⟨by rw [hEr]; rfl, cbi.out.then C4.out⟩
      · obtain rfl : k = s.length := by omega
        have hb1 := Hbad.out
        rw [List.take_length] at hb1
        have hE2 := HE.out
        rw [if_neg (by rw [hb1]; decide)] at hE2
        clear HE Hbad
        have HE := Lib.hid hE2
        have Hb1 := Lib.hid hb1
        clear hE2 hb1
        go_wp2_with fail
        go_loopw [49] (fun s49 wr => ∃ k : Nat, k ≤ s.length ∧ s49 = .int .i64 (k : Int) ∧ (s.take k).any (fun f => decide ((nd : Int) < f.ord)) = false ∧ Chg [] W1 wr) (fun s49 _ => s.length - (intOf s49).toNat)
        case atStart => exact ⟨0, Nat.zero_le _, rfl, rfl, CW.out⟩
        case round =>
          clear hlt hk CW
          obtain ⟨k, hk, rfl, hbad, hc⟩ := hrel
          have CW := Lib.hid hc
          have Hbad := Lib.hid hbad
          clear hc hbad
          by_cases hlt : k < s.length
          · obtain ⟨g, cap', he0, _, _, _, _, _, _, hIn⟩ := HFB.out.at (by omega)
            cases he0
            obtain ⟨x, hx⟩ : ∃ x, x = s.getD k fxl.d := ⟨_, rfl⟩
            have hI := ((hIn k hlt).frame cbi.out).frame CW.out
            have hxs : x ∈ s := by rw [hx]; exact getD_mem hlt
            have htk : s.take (k + 1) = s.take k ++ [x] := by rw [hx]; exact take_snocF hlt
            rw [← hx] at hI
            have HI := Lib.hid hI
            have Hx := Lib.hid hx
            have HIN := Lib.hid hIn
            clear hI hx hIn
            go_wp2_with ((with_reducible refine Lay.ldL Tryz.tFx x (HI.out) ?_ ?_); exact rfl; refine Hid.out ?_)
            refine Lib.hid ?_
            go_wp2_with ((with_reducible refine Lay.alL Tryz.tFx ?_); intro W3 bx ebx cbx xbx; replace ebx := Lib.hid ebx; replace cbx := Lib.hid cbx; replace xbx := Lib.hid xbx; refine Hid.out ?_)
            refine Lib.hid ?_
            go_wp2_with ((with_reducible refine Lay.stL Tryz.tFx x (xbx.out) ?_ ?_ ?_); exact rfl; exact rfl; intro W4 cW4 xW4; replace cW4 := Lib.hid cW4; replace xW4 := Lib.hid xW4; refine Hid.out ?_)
            refine Lib.hid ?_
            have C4 : Hid (Chg [] W1 W4) := Lib.hid (CW.out.then (cbx.out.new cW4.out (by rw [ebx.out]; exact Nat.le_refl _)))
            have f3 : W4.cell? ⟨bx, 3, none⟩ = some (.int .i64 x.ord) := by
              have := xW4.out.in 3 (by decide)
              rw [Nat.zero_add] at this
              exact this
            have x5 := Img.c_deps (xbi.out.frame C4.out)
            rw [hnd] at x5
            cases c1 : decide ((nd : Int) < x.ord) with
            | true =>
              have hEr : E = 22 := by
                rw [HE.out, if_pos]
                rw [List.any_eq_true]
                exact ⟨x, hxs, c1⟩
              go_wp2
              go_ret
              exact ⟨by rw [hEr]; rfl, cbi.out.then C4.out⟩
            | false =>
              have hbx : (fun f : Fx => decide ((nd : Int) < f.ord)) x = false := c1
              have C5 := Lib.hid (C4.out)
              have hnx : (s.take (k + 1)).any (fun f : Fx => decide ((nd : Int) < f.ord)) = false := by
                have h0 := Hbad.out
                rw [htk, List.any_append, h0, Bool.false_or]
                show ((fun f : Fx => decide ((nd : Int) < f.ord)) x || false) = false
                exact Bool.or_eq_false_iff.2 ⟨hbx, rfl⟩
              have Hnx := Lib.hid hnx
              have Hbx := Lib.hid hbx
              have Htk := Lib.hid htk
              clear hnx hbx htk
              go_wp2
              go_roundw
              case rel => exact ⟨k + 1, hlt, by go_num, Hnx.out, C5.out⟩
              case measure => simp [intOf]; omega
          · obtain rfl : k = s.length := by omega
            have hb2 := Hbad.out
            rw [List.take_length] at hb2
            have hE3 := HE.out
            rw [if_neg (by rw [hb2]; decide)] at hE3
            clear HE Hbad
            have HE := Lib.hid hE3
            have Hb2 := Lib.hid hb2
            clear hE3 hb2
            by_cases c0 : 20000 < s.length
            · have d0 : decide (20000 < s.length) = true := by simpa using c0
              have d0' : decide ((20000 : Int) < (s.length : Int)) = true := by simp; omega
              have hEr : E = 11 := by rw [HE.out, if_pos c0]
              go_wp2
              go_ret
              exact ⟨by rw [hEr]; rfl, cbi.out.then CW.out⟩
            · have d0 : decide (20000 < s.length) = false := by simpa using c0
              have d0' : decide ((20000 : Int) < (s.length : Int)) = false := by simp; omega
              have hE4 := HE.out
              rw [if_neg c0] at hE4
              clear HE
              have HE := Lib.hid hE4
              clear hE4
              go_wp2_with fail
              go_loopw [65] (fun s65 wr => ∃ k : Nat, k ≤ s.length ∧ s65 = .int .i64 (k : Int) ∧ (s.take k).any (fun f => !writS segs f.at_ 8) = false ∧ Chg [] W1 wr) (fun s65 _ => s.length - (intOf s65).toNat)
              case atStart => exact ⟨0, Nat.zero_le _, rfl, rfl, CW.out⟩
              case round =>
                clear hlt hk CW
                obtain ⟨k, hk, rfl, hbad, hc⟩ := hrel
                have CW := Lib.hid hc
                have Hbad := Lib.hid hbad
                clear hc hbad
                by_cases hlt : k < s.length
                · obtain ⟨g, cap', he0, _, _, _, _, _, _, hIn⟩ := HFB.out.at (by omega)
                  cases he0
                  obtain ⟨x, hx⟩ : ∃ x, x = s.getD k fxl.d := ⟨_, rfl⟩
                  have hI := ((hIn k hlt).frame cbi.out).frame CW.out
                  have hxs : x ∈ s := by rw [hx]; exact getD_mem hlt
                  have htk : s.take (k + 1) = s.take k ++ [x] := by rw [hx]; exact take_snocF hlt
                  rw [← hx] at hI
                  have HI := Lib.hid hI
                  have Hx := Lib.hid hx
                  have HIN := Lib.hid hIn
                  clear hI hx hIn
                  go_wp2_with ((with_reducible refine Lay.ldL Tryz.tFx x (HI.out) ?_ ?_); exact rfl; refine Hid.out ?_)
                  refine Lib.hid ?_
                  go_wp2_with ((with_reducible refine Lay.alL Tryz.tFx ?_); intro W3 bx ebx cbx xbx; replace ebx := Lib.hid ebx; replace cbx := Lib.hid cbx; replace xbx := Lib.hid xbx; refine Hid.out ?_)
                  refine Lib.hid ?_
                  go_wp2_with ((with_reducible refine Lay.stL Tryz.tFx x (xbx.out) ?_ ?_ ?_); exact rfl; exact rfl; intro W4 cW4 xW4; replace cW4 := Lib.hid cW4; replace xW4 := Lib.hid xW4; refine Hid.out ?_)
                  refine Lib.hid ?_
                  have C4 : Hid (Chg [] W1 W4) := Lib.hid (CW.out.then (cbx.out.new cW4.out (by rw [ebx.out]; exact Nat.le_refl _)))
                  have f0 : W4.cell? ⟨bx, 0, none⟩ = some (.int .u64 x.at_) := by
                    have := xW4.out.in 0 (by decide)
                    rw [Nat.zero_add] at this
                    exact this
                  have hwr := HWR.out x.at_ (hr x hxs).2 W4 (HRD.out.frame (cbi.out.then C4.out))
                  cases c1 : writS segs x.at_ 8 with
                  | false =>
                    rw [c1] at hwr
                    have hEr : E = 19 := by
                      rw [HE.out, if_pos]
                      rw [List.any_eq_true]
                      exact ⟨x, hxs, by rw [c1]; rfl⟩
                    have Hwr := Lib.hid hwr
                    clear hwr
                    go_wp2_with ((with_reducible refine Lay.ldL Tryz.tImg m (((xbi.out.frame C4.out).in)) ?_ ?_); exact rfl; refine Hid.out ?_)
                    refine Lib.hid ?_
                    go_wp2_with fail
                    refine (Hwr.out).mono ?_
                    rintro e W5 ⟨rfl, h5⟩
                    have C5 := Lib.hid (C4.out.then h5)
                    clear h5
                    go_wp2
                    go_ret
                    exact ⟨by rw [hEr]; rfl, cbi.out.then C5.out⟩
                  | true =>
                    rw [c1] at hwr
                    have hbx : (fun f : Fx => !writS segs f.at_ 8) x = false := by dsimp only; rw [c1]; rfl
                    have Hwr := Lib.hid hwr
                    clear hwr
                    go_wp2_with ((with_reducible refine Lay.ldL Tryz.tImg m (((xbi.out.frame C4.out).in)) ?_ ?_); exact rfl; refine Hid.out ?_)
                    refine Lib.hid ?_
                    go_wp2_with fail
                    refine (Hwr.out).mono ?_
                    rintro e W5 ⟨rfl, h5⟩
                    have C5 := Lib.hid (C4.out.then h5)
                    clear h5
                    have hnx : (s.take (k + 1)).any (fun f : Fx => !writS segs f.at_ 8) = false := by
                      have h0 := Hbad.out
                      rw [htk, List.any_append, h0, Bool.false_or]
                      show ((fun f : Fx => !writS segs f.at_ 8) x || false) = false
                      exact Bool.or_eq_false_iff.2 ⟨hbx, rfl⟩
                    have Hnx := Lib.hid hnx
                    have Hbx := Lib.hid hbx
                    have Htk := Lib.hid htk
                    clear hnx hbx htk
                    go_wp2
                    go_roundw
                    case rel => exact ⟨k + 1, hlt, by go_num, Hnx.out, C5.out⟩
                    case measure => simp [intOf]; omega
                · obtain rfl : k = s.length := by omega
                  have hb3 := Hbad.out
                  rw [List.take_length] at hb3
                  have hEr : E = 0 := by rw [HE.out, if_neg (by rw [hb3]; decide)]
                  have Hb3 := Lib.hid hb3
                  clear hb3
                  go_wp2
                  go_ret
                  exact ⟨by rw [hEr]; rfl, cbi.out.then CW.out⟩
end Go.Proofs.YtkomocgodljecaaGreatDoor
/- Plain: the stream of binds that is made. No program in sight. -/
namespace Go.Proofs.YtkomocgodljecaaGreatDoor
open Go.RowKit
set_option maxRecDepth 100000

/-- A bind's ordinal, where another one was set. -/
def ordN (was o : Int) : List UInt8 := if o = was then [] else if o < 0 then [UInt8.ofNat (64 + o).toNat] else if o ≤ 15 then [UInt8.ofNat (16 + o).toNat] else 32 :: putU o.toNat
/-- Its symbol. -/
def symN (ws : ByteArray) (ww : Bool) (f : Fx) : List UInt8 := if f.sym = ws ∧ f.weak = ww then [] else (if f.weak = true then 65 else 64) :: (f.sym.data.toList ++ [0])
/-- Its addend. -/
def addN (wa : Int) (f : Fx) : List UInt8 := if f.add = wa then [] else 96 :: putS f.add
/-- Its place. -/
def plcN (ls : List Seg) (first : Bool) (wat : Int) (f : Fx) : List UInt8 :=
  if first = false ∧ f.at_ = wat then [] else UInt8.ofNat (112 + (idxI (atS ls f.at_)).toNat) :: putU (f.at_ - (ls.getD (idxI (atS ls f.at_)).toNat .zero).addr).toNat
/-- What is bound next, behind a bind. -/
def nxtN (f : Fx) : Fx := { f with at_ := IntKind.u64.wrap (f.at_ + 8) }
def grpN (ls : List Seg) (first : Bool) (now f : Fx) : List UInt8 := ordN now.ord f.ord ++ (symN now.sym now.weak f ++ (addN now.add f ++ (plcN ls first now.at_ f ++ [144])))
def mkN (ls : List Seg) : Bool → Fx → List Fx → List UInt8
  | _, _, [] => []
  | first, now, f :: r => grpN ls first now f ++ mkN ls false (nxtN f) r
/-- Ahead of all binds. -/
def now0 (K : Int) : Fx := ⟨0, 2, 0, if K = 2 then -3 else 0, ⟨#[]⟩, 0, false⟩
/-- Behind k binds. -/
def nowN (K : Int) (S : List Fx) (k : Nat) : Fx := if k = 0 then now0 K else nxtN (S.getD (k - 1) Fx.zero)
def allN (ls : List Seg) (K : Int) (S : List Fx) : List UInt8 := mkN ls true (now0 K) S ++ [0]
theorem ordN_len (a b : Int) : (ordN a b).length ≤ 11 := by
  unfold ordN
  split
  · simp
  · split
    · simp
    · split
      · simp
      · simp only [List.length_cons]; exact Nat.succ_le_succ (putUf_length 9 _).1
theorem symN_len (ws : ByteArray) (ww : Bool) (f : Fx) (h : f.sym.size ≤ 255) : (symN ws ww f).length ≤ 257 := by
  unfold symN
  have : f.sym.data.toList.length = f.sym.size := by rw [Array.length_toList]; rfl
  split
  · simp
  · simp only [List.length_cons, List.length_append, List.length_nil]; omega
theorem addN_len (a : Int) (f : Fx) : (addN a f).length ≤ 11 := by
  unfold addN
  split
  · simp
  · simp only [List.length_cons]; exact Nat.succ_le_succ (putSf_length 9 _).1
theorem plcN_len (ls : List Seg) (b : Bool) (a : Int) (f : Fx) : (plcN ls b a f).length ≤ 11 := by
  unfold plcN
  split
  · simp
  · simp only [List.length_cons]; exact Nat.succ_le_succ (putUf_length 9 _).1
theorem drop_getF {S : List Fx} {k : Nat} (h : k < S.length) : S.drop k = S.getD k Fx.zero :: S.drop (k + 1) := by
  rw [List.drop_eq_getElem_cons h, List.getD_eq_getElem?_getD, List.getElem?_eq_getElem h]
  rfl
/-- Between two binds of the loop: k are told. -/
structure BkI (ls : List Seg) (K : Int) (S : List Fx) (k : Nat) (out : List UInt8) : Prop where
  le : k ≤ S.length
  eq : out ++ mkN ls (decide (k = 0)) (nowN K S k) (S.drop k) = mkN ls true (now0 K) S
  n : out.length ≤ 300 * k
theorem BkI.zero (ls : List Seg) (K : Int) (S : List Fx) : BkI ls K S 0 [] := ⟨Nat.zero_le _, rfl, Nat.zero_le _⟩
theorem nowN_succ (K : Int) (S : List Fx) (k : Nat) : nowN K S (k + 1) = nxtN (S.getD k Fx.zero) := by
  unfold nowN
  rw [if_neg (by omega), Nat.add_sub_cancel]
theorem BkI.step {ls : List Seg} {K : Int} {S : List Fx} {k : Nat} {out : List UInt8} (h : BkI ls K S k out) (hk : k < S.length) {x : Fx} (hx : x = S.getD k Fx.zero) (hs : x.sym.size ≤ 255) :
    BkI ls K S (k + 1) (out ++ ordN (nowN K S k).ord x.ord ++ symN (nowN K S k).sym (nowN K S k).weak x ++ addN (nowN K S k).add x ++ plcN ls (decide (k = 0)) (nowN K S k).at_ x ++ [144]) := by
  refine ⟨hk, ?_, ?_⟩
  · rw [← h.eq, drop_getF hk, ← hx, nowN_succ, ← hx, show decide (k + 1 = 0) = false by simp]
    show _ = out ++ (grpN ls _ (nowN K S k) x ++ mkN ls false (nxtN x) (S.drop (k + 1)))
    unfold grpN
    simp only [List.append_assoc]
  · have h1 := ordN_len (nowN K S k).ord x.ord
    have h2 := symN_len (nowN K S k).sym (nowN K S k).weak x hs
    have h3 := addN_len (nowN K S k).add x
    have h4 := plcN_len ls (decide (k = 0)) (nowN K S k).at_ x
    have h5 := h.n
    simp only [List.length_append, List.length_cons, List.length_nil]
    omega
theorem BkI.all {ls : List Seg} {K : Int} {S : List Fx} {out : List UInt8} (h : BkI ls K S S.length out) : out ++ [0] = allN ls K S := by
  have := h.eq
  rw [List.drop_eq_nil_of_le (Nat.le_refl _)] at this
  have e : ∀ b n, mkN ls b n [] = [] := fun _ _ => rfl
  rw [e, List.append_nil] at this
  rw [this]
  rfl
end Go.Proofs.YtkomocgodljecaaGreatDoor
