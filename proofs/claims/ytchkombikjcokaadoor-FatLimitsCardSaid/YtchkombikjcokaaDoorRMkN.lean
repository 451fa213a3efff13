/- The document's Make, walked (wide: false). -/
import Derived.Test.YtchkombikjcokaaDoorFatB
import Derived.Deep.CutRange
namespace Go.Proofs.YtchkombikjcokaaDoor
open Go.RowKit
set_option maxRecDepth 100000

set_option maxHeartbeats 4000000 in
theorem RMake_false (ms : List Mem) (hok : ∀ m ∈ ms, m.ok) (hn : ms.length ≤ 1000) (hb : ∀ m ∈ ms, m.bytes.length ≤ 2097152) (a : Option Addr) (cap : Nat) (w : World) (rd : MemRd w (.slice a ms.length cap) ms) :
    Calls Tryd.prog 26 #[.bool false, .slice a ms.length cap] w fun e w' => ∃ v, e = .returned (.tuple #[v, .int .i64 (fatE false ms)]) ∧ (fatE false ms = 0 → Rd w' v (bytesV (fatL false ms))) ∧ (fatE false ms ≠ 0 → v = .slice none 0 0) ∧ Chg [] w w' := by
  obtain ⟨_, _, _, he, _, hc1, hc2, hx⟩ := rd
  cases he
  unfold maxLen at hc2
  obtain ⟨E, hE⟩ : ∃ E, E = endOf false ms := ⟨_, rfl⟩
  have hE' : E = 8 + ms.length * 20 := hE
  have HSM : Hid (∀ k, k ≤ ms.length → (∀ m ∈ ms.take k, alB m = true) → atL E (ms.take k) ≤ 2147483648) := by
    refine Lib.hid ?_
    intro k hk ha
    have := atL_small E 2097152 ms hb k hk ha
    have : k * (2097152 + 32768) ≤ 1000 * (2097152 + 32768) := Nat.mul_le_mul_right _ (by omega)
    omega
  have hEi : 8 + (ms.length : Int) * 20 = (E : Int) := by omega
  have hEb : E ≤ 40000 := by omega
  have Hok := Lib.hid hok
  have HB := Lib.hid hb
  have Hx := Lib.hid hx
  have HE0 := Lib.hid hE
  clear hok hb hx hE
  clear hE'
  by_cases hn0 : ms.length = 0
  · have k0 : ((ms.length : Int) == 0) = true := by rw [beq_iff_eq]; omega
    have HE : Hid (fatE false ms = 2) := by
      refine Lib.hid ?_
      obtain rfl : ms = [] := List.eq_nil_of_length_eq_zero hn0
      rfl
    clear hn0
    go_enter Tryd.func26, Tryd.ntmps26
    go_wp2
    go_ret2
    rw [HE.out]
    exact ⟨_, rfl, fun h => absurd h (by decide), fun _ => rfl, Chg.refl _ _⟩
  · have k0 : ((ms.length : Int) == 0) = false := by rw [beq_eq_false_iff_ne]; omega
    go_enter Tryd.func26, Tryd.ntmps26
    go_wp2_with fail
    go_loop [9] (fun s9 => ∃ k : Nat, k ≤ ms.length ∧ s9 = .int .i64 (k : Int) ∧ (∀ m ∈ ms.take k, alB m = true)) (fun s9 => ms.length - (intOf s9).toNat)
    case atStart => exact ⟨0, Nat.zero_le _, rfl, by simp⟩
    case round =>
      obtain ⟨k, hk, rfl, hal⟩ := hrel
      have Hal := Lib.hid hal
      clear hal
      by_cases hlt : k < ms.length
      · obtain ⟨b, off, rfl, hb0, hcell⟩ := Hx.out (by rintro rfl; simp at hlt)
        obtain ⟨_, _, k3, _⟩ := hcell k hlt
        obtain ⟨p, hp⟩ : ∃ p, p = ms.getD k .zero := ⟨_, rfl⟩
        rw [← hp] at k3
        have HMEM : Hid (p ∈ ms) := Lib.hid (by rw [hp]; exact mem_getD hlt)
        have HP := Lib.hid (hp)
        clear hcell hb0 hp
        cases hab : alB p with
        | false =>
          have HE : Hid (fatE false ms = 2) := by
            refine Lib.hid ?_
            unfold fatE
            rw [if_pos]
            rw [List.all_eq_false]
            exact ⟨p, HMEM.out, by simpa using hab⟩
          have hx : p.align < 0 ∨ 15 < p.align := by unfold alB at hab; simp at hab; omega
          clear hab
          by_cases ha : p.align < 0
          · have d1 : decide (p.align < 0) = true := by simpa using ha
            clear ha hx
            go_wp2
            go_ret2
            rw [HE.out]
            exact ⟨_, rfl, fun h => absurd h (by decide), fun _ => rfl, Chg.refl _ _⟩
          · have d1 : decide (p.align < 0) = false := by simpa using ha
            have d2 : decide (15 < p.align) = true := by simp; omega
            clear ha hx
            go_wp2
            go_ret2
            rw [HE.out]
            exact ⟨_, rfl, fun h => absurd h (by decide), fun _ => rfl, Chg.refl _ _⟩
        | true =>
          obtain ⟨ha15, hae⟩ := alignN_le hab
          have HAL1 : Hid (∀ m ∈ ms.take (k + 1), alB m = true) := by
            refine Lib.hid ?_
            rw [getD_take ms .zero k hlt, ← HP.out]
            intro m hm
            rw [List.mem_append, List.mem_singleton] at hm
            rcases hm with hm | rfl
            · exact Hal.out m hm
            · exact hab
          have d1 : decide (p.align < 0) = false := by simp; omega
          have d2 : decide (15 < p.align) = false := by simp; omega
          clear ha15 hae hab
          go_wp2
          go_round
          case rel => exact ⟨k + 1, hlt, by go_num, HAL1.out⟩
          case measure => simp [intOf]; omega
      · obtain rfl : k = ms.length := by omega
        rw [List.take_length] at Hal
        have HALL : Hid ((ms.all alB) = true) := Lib.hid (List.all_eq_true.2 Hal.out)
        clear hlt hk
        by_cases h1 : 32 < ms.length
        · have d1 : decide ((32 : Int) < ms.length) = true := by simp; omega
          have HE : Hid (fatE false ms = 11) := Lib.hid (by unfold fatE; rw [HALL.out, if_neg (by decide), if_neg hn0, if_pos (.inl h1)])
          clear hn0 h1
          go_wp2
          go_ret2
          rw [HE.out]
          exact ⟨_, rfl, fun h => absurd h (by decide), fun _ => rfl, Chg.refl _ _⟩
        · have d1 : decide ((32 : Int) < ms.length) = false := by simp; omega
          go_wp2_with fail
          clear hEi
          go_loopw [10, 11, 12] (fun s10 s11 s12 wr => ∃ k : Nat, k ≤ ms.length ∧ s12 = .int .i64 (k : Int) ∧ s10 = .int .i64 (atL E (ms.take k) : Nat) ∧ RM w wr (.slice none 0 0) [] s11 ((List.range k).map (placeOf E ms))) (fun _ _ s12 _ => ms.length - (intOf s12).toNat)
          case atStart => exact ⟨0, Nat.zero_le _, rfl, rfl, Buf.nil _ _, IntBuf.nil _ _, Chg.refl _ _⟩
          case round =>
            obtain ⟨k, hk, rfl, rfl, hrm⟩ := hrel
            have HRM := Lib.hid (hrm)
            clear hrm
            by_cases hlt : k < ms.length
            · obtain ⟨b, off, rfl, hb0, hcell⟩ := Hx.out (by rintro rfl; simp at hlt)
              obtain ⟨_, _, h3, a', cap', h4, _⟩ := hcell k hlt
              obtain ⟨p, hp⟩ : ∃ p, p = ms.getD k .zero := ⟨_, rfl⟩
              rw [← hp] at h3 h4
              have k3 := HRM.out.chg.cell h3 (by simp)
              have H4 := Lib.hid (h4)
              have HMEM : Hid (p ∈ ms) := Lib.hid (by rw [hp]; exact mem_getD hlt)
              obtain ⟨ha15, hae⟩ := alignN_le (Hal.out p HMEM.out)
              have hat1 := HSM.out (k + 1) hlt (fun m hm => Hal.out m (List.mem_of_mem_take hm))
              rw [atL_take E ms k hlt, ← hp] at hat1
              obtain ⟨PL, hPL⟩ : ∃ PL, PL = placeOf E ms k := ⟨_, rfl⟩
              obtain ⟨AT, hAT⟩ : ∃ AT, AT = atL E (ms.take k) := ⟨_, rfl⟩
              have HPLE : Hid (PL = padTo AT (alignN p)) := Lib.hid (by rw [hPL, hAT, hp]; rfl)
              have HA1 : Hid (atL E (ms.take (k + 1)) = PL + p.bytes.length) := Lib.hid (by rw [hPL, hp]; exact atL_take E ms k hlt)
              have HP1 : Hid ((List.range (k + 1)).map (placeOf E ms) = (List.range k).map (placeOf E ms) ++ [PL]) := Lib.hid (by rw [hPL, List.range_succ, List.map_append]; rfl)
              rw [← hPL] at hat1
              rw [← hAT]
              clear hPL hAT hp h3 h4 hcell hb0
              obtain ⟨pc, ps, pa, pb⟩ := p
              simp only at k3 hae hat1 H4
              simp only [alignN] at hae ha15 HPLE
              obtain ⟨A, hA⟩ : ∃ A : Nat, A = pa.toNat := ⟨_, rfl⟩
              rw [← hA] at hae ha15 HPLE
              subst hae
              clear hA
              obtain ⟨P, hP⟩ : ∃ P, P = pw2 A := ⟨_, rfl⟩
              have hP1 : 1 ≤ P := by rw [hP]; exact pw2_pos A
              have HPW := Lib.hid (fun w => power_any A (by omega) w)
              rw [← hP] at HPW
              have HPD : Hid (∀ x, AT ≤ x → x ≤ PL → x % P = 0 → x = PL) := Lib.hid (fun x h1 h2 h3 => by rw [HPLE.out] at h2 ⊢; exact padTo_done h1 h2 (by rw [← hP]; exact h3))
              have HPM : Hid (∀ x, x ≤ PL → ¬ x % P = 0 → x + 1 ≤ PL) := Lib.hid (fun x h2 h3 => by rw [HPLE.out] at h2 ⊢; exact padTo_more h2 (by rw [← hP]; exact h3))
              have hATP : AT ≤ PL := by rw [HPLE.out]; exact padTo_ge _ _
              have hwA : IntKind.u64.wrap (A : Int) = (A : Int) := by rw [IntKind.wrap_u64]; omega
              clear hP
              obtain ⟨wo, rfl⟩ : ∃ wo, wo = wr := ⟨_, rfl⟩
              go_wp2_with fail
              go_loop [10] (fun s10 => ∃ x : Nat, AT ≤ x ∧ x ≤ PL ∧ s10 = .int .i64 (x : Int)) (fun s10 => PL - (intOf s10).toNat)
              case atStart => exact ⟨AT, Nat.le_refl _, hATP, rfl⟩
              case round =>
                obtain ⟨x, hx1, hx2, rfl⟩ := hrel
                have hwx : IntKind.u64.wrap (x : Int) = (x : Int) := by rw [IntKind.wrap_u64]; omega
                go_wp2_with fail
                refine (HPW.out _).mono ?_
                rintro e w1 ⟨rfl, rfl⟩
                have ht : (x : Int).tmod (P : Int) = ((x % P : Nat) : Int) := by rw [Int.tmod_eq_emod_of_nonneg (by omega), Int.natCast_emod]
                by_cases h0 : x % P = 0
                · have hm : ((x : Int).tmod (P : Int) != 0) = false := by rw [ht, h0]; rfl
                  have hm' : ((x : Int) % (P : Int) != 0) = false := by rw [← Int.natCast_emod, h0]; rfl
                  obtain rfl : x = PL := HPD.out x hx1 hx2 h0
                  clear ht h0
                  go_wp2_with (at_builtin; refine app_int rfl _ _ rfl w.heap.size u11 ((List.range k).map (placeOf E ms)) rfl (HRM.out.ints.pure ((Chg.refl [] w1).alloc _)) w1.heap.size x rfl (heap_alloc_eq _ _) (by simp; omega) (by have := HRM.out.chg.size; simp only [World.alloc, Array.size_push]; omega) ?_; intro va wa hoa hga; refine Hid.out ?_)
                  refine Lib.hid ?_
                  have HRN : Hid (RM w wa (.slice none 0 0) [] va ((List.range (k + 1)).map (placeOf E ms))) := Lib.hid (by rw [HP1.out]; exact (HRM.out.pure ((Chg.refl [] w1).alloc _)).p hoa hga)
                  clear hoa hga
                  have k4 := HRN.out.chg.cell H4.out (by simp)
                  go_wp2
                  go_roundw
                  case rel => exact ⟨k + 1, hlt, by go_num, by rw [HA1.out]; push_cast; rfl, HRN.out⟩
                  case measure => simp [intOf]; omega
                · have hm : ((x : Int).tmod (P : Int) != 0) = true := by rw [ht, bne_iff_ne]; omega
                  have hm' : ((x : Int) % (P : Int) != 0) = true := by rw [← Int.natCast_emod, bne_iff_ne]; omega
                  have hx3 := HPM.out x hx2 h0
                  clear ht h0
                  go_wp2
                  go_round
                  case rel => exact ⟨x + 1, by omega, hx3, by go_num⟩
                  case measure => simp [intOf]; omega
            · obtain rfl : k = ms.length := by omega
              rw [List.take_length]
              obtain ⟨AT, hAT⟩ : ∃ AT, AT = atL E ms := ⟨_, rfl⟩
              have HAT : Hid (AT = atL (endOf false ms) ms) := Lib.hid (by rw [hAT, HE0.out])
              rw [← hAT]
              clear hlt hk hAT
              by_cases h2 : 1048576 < AT
              · have d2 : decide ((1048576 : Int) < (AT : Int)) = true := by simp; omega
                have HE : Hid (fatE false ms = 11) := Lib.hid (by unfold fatE; rw [HALL.out, if_neg (by decide), if_neg hn0, if_pos (.inr (by rw [← HAT.out]; exact h2))])
                clear hn0 h1 h2
                go_wp2
                go_ret2
                rw [HE.out]
                exact ⟨_, rfl, fun h => absurd h (by decide), fun _ => rfl, HRM.out.chg⟩
              · have d2 : decide ((1048576 : Int) < (AT : Int)) = false := by simp; omega
                have HE : Hid (fatE false ms = if anyM ms ms.length = true then 21 else 0) := Lib.hid (by unfold fatE; rw [HALL.out, if_neg (by decide), if_neg hn0, if_neg (by rw [← HAT.out]; omega)])
                have HN0 := Lib.hid (hn0)
                have HATK : Hid (AT ≤ 1048576) := Lib.hid (by omega)
                clear hn0 h1 h2
                go_wp2_with fail
                obtain ⟨w5, hw5⟩ : ∃ x, x = wr := ⟨_, rfl⟩
                rw [← hw5]
                rw [← hw5] at HRM
                clear hw5
                go_loopw [13, 14] (fun s13 _ wl => ∃ k : Nat, k ≤ ms.length ∧ s13 = .int .i64 (k : Int) ∧ anyM ms k = false ∧ Chg [] w5 wl) (fun s13 _ _ => ms.length - (intOf s13).toNat)
                case atStart => exact ⟨0, Nat.zero_le _, rfl, rfl, Chg.refl _ _⟩
                case round =>
                  obtain ⟨k, hk, rfl, hany, hch⟩ := hrel
                  have HANY := Lib.hid (hany)
                  have HC := Lib.hid (hch)
                  clear hany hch
                  by_cases hlt : k < ms.length
                  · go_wp2_with fail
                    obtain ⟨w6, hw6⟩ : ∃ x, x = wr := ⟨_, rfl⟩
                    rw [← hw6]
                    rw [← hw6] at HC
                    clear hw6
                    obtain ⟨b, off, rfl, hb0, hcell⟩ := Hx.out (by rintro rfl; simp at hlt)
                    obtain ⟨x1, x2, _⟩ := hcell k hlt
                    have HCL := Lib.hid (hcell)
                    obtain ⟨p, hp⟩ : ∃ p, p = ms.getD k .zero := ⟨_, rfl⟩
                    rw [← hp] at x1 x2
                    have y1 := (HRM.out.chg.then HC.out).cell x1 (by simp)
                    have y2 := (HRM.out.chg.then HC.out).cell x2 (by simp)
                    have HP := Lib.hid (hp)
                    clear hcell hb0 x1 x2 hp
                    obtain ⟨pc, ps, pa, pb⟩ := p
                    simp only at y1 y2
                    have Y1 := Lib.hid (y1)
                    have Y2 := Lib.hid (y2)
                    clear y1 y2
                    go_loopw [14] (fun s14 wl => ∃ j : Nat, j ≤ k ∧ s14 = .int .i64 (j : Int) ∧ (ms.take j).any (likeM ⟨pc, ps, pa, pb⟩) = false ∧ Chg [] w6 wl) (fun s14 _ => k - (intOf s14).toNat)
                    case atStart => exact ⟨0, Nat.zero_le _, rfl, rfl, Chg.refl _ _⟩
                    case round =>
                      obtain ⟨j, hj, rfl, hany2, hch⟩ := hrel
                      have HANY2 := Lib.hid (hany2)
                      have HC2 := Lib.hid (hch)
                      clear hany2 hch
                      obtain ⟨w7, hw7⟩ : ∃ x, x = wr := ⟨_, rfl⟩
                      rw [← hw7]
                      rw [← hw7] at HC2
                      clear hw7
                      by_cases hjk : j < k
                      · have hjn : j < ms.length := by omega
                        obtain ⟨x1, x2, _⟩ := HCL.out j hjn
                        obtain ⟨t, ht⟩ : ∃ p, p = ms.getD j .zero := ⟨_, rfl⟩
                        rw [← ht] at x1 x2
                        have t1 := (HRM.out.chg.then (HC.out.then HC2.out)).cell x1 (by simp)
                        have t2 := (HRM.out.chg.then (HC.out.then HC2.out)).cell x2 (by simp)
                        have HM3 : Hid ((ms.take (j + 1)).any (likeM ⟨pc, ps, pa, pb⟩) = likeM ⟨pc, ps, pa, pb⟩ t) := Lib.hid (by rw [take_anyM _ _ _ hjn, HANY2.out, Bool.false_or, ht])
                        have y1 := HC2.out.cell Y1.out (by simp)
                        have y2 := HC2.out.cell Y2.out (by simp)
                        clear x1 x2 ht
                        obtain ⟨tc, ts, ta, tb⟩ := t
                        simp only at t1 t2
                        by_cases hc : pc = tc
                        · subst hc
                          have g1 : ((pc : Int) == (pc : Int)) = true := by simp
                          by_cases hs : ps % 16777216 = ts % 16777216
                          · have g2 : ((ps : Int) % 16777216 == (ts : Int) % 16777216) = true := by rw [beq_iff_eq]; omega
                            have g3 : ((ps : Int).tmod 16777216 == (ts : Int).tmod 16777216) = true := by rw [Int.tmod_eq_emod_of_nonneg (by omega), Int.tmod_eq_emod_of_nonneg (by omega)]; exact g2
                            have HT : Hid (anyM ms ms.length = true) := by
                              refine Lib.hid ?_
                              have e1 : (ms.take (j + 1)).any (likeM ⟨pc, ps, pa, pb⟩) = true := by rw [HM3.out]; unfold likeM; simp [hs]
                              have e2 := take_anyM_mono e1 (show j + 1 ≤ k by omega)
                              have e3 := anyM_succ ms k
                              rw [← HP.out, e2, Bool.or_true] at e3
                              exact anyM_mono e3 hlt
                            clear hs
                            go_wp2_with fail
                            go_quiet (fail)
                            go_wp2
                            go_ret2
                            rw [HE.out, HT.out]
                            exact ⟨_, rfl, fun h => absurd h (by decide), fun _ => rfl, (HRM.out.chg.then (HC.out.then HC2.out)).drewN _⟩
                          · have g2 : ((ps : Int) % 16777216 == (ts : Int) % 16777216) = false := by rw [beq_eq_false_iff_ne]; omega
                            have g3 : ((ps : Int).tmod 16777216 == (ts : Int).tmod 16777216) = false := by rw [Int.tmod_eq_emod_of_nonneg (by omega), Int.tmod_eq_emod_of_nonneg (by omega)]; exact g2
                            have HM4 : Hid ((ms.take (j + 1)).any (likeM ⟨pc, ps, pa, pb⟩) = false) := Lib.hid (by rw [HM3.out]; unfold likeM; simp [hs])
                            clear hs
                            go_wp2_with fail
                            go_quiet (fail)
                            go_wp2
                            go_roundw
                            case rel => exact ⟨j + 1, hjk, by go_num, HM4.out, HC2.out.drewN _⟩
                            case measure => simp [intOf]; omega
                        · have g1 : ((pc : Int) == (tc : Int)) = false := by rw [beq_eq_false_iff_ne]; omega
                          have HM4 : Hid ((ms.take (j + 1)).any (likeM ⟨pc, ps, pa, pb⟩) = false) := Lib.hid (by rw [HM3.out]; unfold likeM; simp [hc])
                          clear hc
                          go_wp2_with fail
                          go_quiet (fail)
                          go_wp2
                          go_roundw
                          case rel => exact ⟨j + 1, hjk, by go_num, HM4.out, HC2.out.drewN _⟩
                          case measure => simp [intOf]; omega
                      · obtain rfl : j = k := by omega
                        have HA1 : Hid (anyM ms (j + 1) = false) := Lib.hid (by rw [anyM_succ, HANY.out, ← HP.out, HANY2.out]; rfl)
                        go_wp2
                        go_roundw
                        case rel => exact ⟨j + 1, hlt, by go_num, HA1.out, HC.out.then HC2.out⟩
                        case measure => simp [intOf]; omega
                  · obtain rfl : k = ms.length := by omega
                    rw [HANY.out, if_neg (by decide)] at HE
                    have HRM5 := Lib.hid (HRM.out.pure HC.out)
                    clear HC HRM HANY hlt hk
                    go_wp2_with fail
                    rw [Lib.run_convert_string_bytes (P := Tryd.prog) wr 9 24 5 _ Tryd.underlying9 Tryd.underlying24 Tryd.underlying5]
                    simp only [Result.andThen_ok]
                    rw [Oper.upon_value]
                    have hlit : (⟨#[202, 254, 186, 190]⟩ : ByteArray) = ⟨(bgL 3405691582 4).toArray⟩ := by decide
                    rw [hlit]
                    have hls : (⟨(bgL 3405691582 4).toArray⟩ : ByteArray).size = (bgL 3405691582 4).length := by decide
                    rw [hls]
                    generalize hwB : Lib.bytesWorld wr 5 ⟨(bgL 3405691582 4).toArray⟩ = wB
                    generalize hvB : Value.slice (some ⟨wr.heap.size, 0, none⟩) (bgL 3405691582 4).length (grownCap wr (bgL 3405691582 4).length 0 5) = vB
                    have RB : Hid (RQ w wB vB (bgL 3405691582 4) u11 ((List.range ms.length).map (placeOf E ms))) := by
                      refine Lib.hid ?_
                      have hc : Chg [] wr wB := by rw [← hwB]; exact bytesWorld_chg _ _
                      refine ⟨?_, HRM5.out.ints.pure hc, HRM5.out.chg.then hc⟩
                      rw [← hwB, ← hvB]
                      exact (bytesWorld_buf wr (bgL 3405691582 4) (by decide)).mono HRM5.out.chg.size
                    clear hwB hvB hlit hls
                    go_wp2_with fail
                    refine (Big_any ms.length 4 (by omega) (by decide) wB).mono ?_
                    rintro e wC ⟨vC, rfl, hbC, hcC⟩
                    have RC := Lib.hid (RB.out.pure hcC)
                    have BC := Lib.hid (hbC)
                    clear hbC hcC RB
                    go_wp2_with (at_builtin; refine app_Q rfl _ _ rfl w.heap.size vB (bgL 3405691582 4) rfl RC.out.buf _ rfl (bgL ms.length 4) BC.out.rd (by simp [bgL_len]) RC.out.chg.size ?_; intro vD wD hgD; refine Hid.out ?_)
                    refine Lib.hid ?_
                    have RD : Hid (RQ w wD vD (headF false ms.length) u11 ((List.range ms.length).map (placeOf E ms))) := Lib.hid (RC.out.b hgD)
                    clear hgD RC BC
                    obtain ⟨aP, cP, hu11, hP1, hP2⟩ := RD.out.ints.form
                    rw [show ((List.range ms.length).map (placeOf E ms)).length = ms.length by simp] at hu11 hP1
                    unfold maxLen at hP2
                    subst hu11
                    go_wp2_with fail
                    go_loopw [15, 16] (fun s15 s16 wl => ∃ k : Nat, k ≤ ms.length ∧ s16 = .int .i64 (k : Int) ∧ RQ w wl s15 (headF false ms.length ++ entsL false E ms k) (.slice aP ms.length cP) ((List.range ms.length).map (placeOf E ms))) (fun _ s16 _ => ms.length - (intOf s16).toNat)
                    case atStart =>
                      refine ⟨0, Nat.zero_le _, rfl, ?_⟩
                      have e : headF false ms.length ++ entsL false E ms 0 = headF false ms.length := List.append_nil _
                      rw [e]
                      exact RD.out
                    case round =>
                      obtain ⟨k, hk, rfl, hrq⟩ := hrel
                      have RK := Lib.hid (hrq)
                      clear hrq
                      obtain ⟨w8, hw8⟩ : ∃ x, x = wr := ⟨_, rfl⟩
                      rw [← hw8]
                      rw [← hw8] at RK
                      clear hw8
                      by_cases hlt : k < ms.length
                      · obtain ⟨b, off, rfl, hb0, hcell⟩ := Hx.out (by rintro rfl; simp at hlt)
                        obtain ⟨h1, h2, h3, a', cap', h4, h5⟩ := hcell k hlt
                        obtain ⟨p, hp⟩ : ∃ p, p = ms.getD k .zero := ⟨_, rfl⟩
                        rw [← hp] at h1 h2 h3 h4
                        have HMEM : Hid (p ∈ ms) := Lib.hid (by rw [hp]; exact mem_getD hlt)
                        obtain ⟨ha15, hae⟩ := alignN_le (Hal.out p HMEM.out)
                        have hat1 := HSM.out (k + 1) hlt (fun m hm => Hal.out m (List.mem_of_mem_take hm))
                        rw [atL_take E ms k hlt, ← hp] at hat1
                        obtain ⟨PL, hPL⟩ : ∃ PL, PL = placeOf E ms k := ⟨_, rfl⟩
                        obtain ⟨LB, hLB⟩ : ∃ LB, LB = headF false ms.length ++ entsL false E ms k := ⟨_, rfl⟩
                        have hLBl : LB.length = 8 + k * 20 := by rw [hLB, List.length_append, headF_len, entsL_len]; rfl
                        have HEN1 : Hid (headF false ms.length ++ entsL false E ms (k + 1) = LB ++ entL false ⟨p.cpu, p.sub, PL, p.bytes.length, p.align⟩) := by
                          refine Lib.hid ?_
                          rw [hPL, hLB, hp, List.append_assoc, entsL_succ]; rfl
                        have HPG : Hid (((List.range ms.length).map (placeOf E ms)).getD k 0 = PL) := Lib.hid (by rw [hPL]; simp [List.getD_eq_getElem?_getD, hlt])
                        rw [← hPL] at hat1
                        rw [← hLB] at RK
                        obtain ⟨bP, oP, rfl, hpc⟩ := RK.out.ints.cell k (by simpa using hlt)
                        rw [HPG.out] at hpc
                        have kk := RK.out.chg
                        have k1 := kk.cell h1 (by simp)
                        have k2 := kk.cell h2 (by simp)
                        have k3 := kk.cell h3 (by simp)
                        have k4 := kk.cell h4 (by simp)
                        obtain ⟨hcpu, hsub, _, _⟩ := Hok.out p HMEM.out
                        have HBN : Hid (b ∉ u15.ownBlock.toList) := Lib.hid (RK.out.buf.ne_old hb0)
                        have HPN : Hid (bP ∉ u15.ownBlock.toList) := Lib.hid (RK.out.ne_int bP rfl)
                        have HB0 := Lib.hid (hb0)
                        clear h1 h2 h3 h4 h5 hcell kk hPL hp HMEM hb0
                        have HLB := Lib.hid (hLBl)
                        obtain ⟨pc, ps, pa, pb⟩ := p
                        simp only at k1 k2 k3 k4 hae hat1 hcpu hsub HEN1
                        simp only [alignN] at hae ha15
                        obtain ⟨A, hA⟩ : ∃ A : Nat, A = pa.toNat := ⟨_, rfl⟩
                        rw [← hA] at hae ha15
                        subst hae
                        have HLBE := Lib.hid (hLB)
                        clear hA hLBl hLB
                        have hwc : IntKind.u64.wrap (pc : Int) = (pc : Int) := by rw [IntKind.wrap_u64]; omega
                        have hws : IntKind.u64.wrap (ps : Int) = (ps : Int) := by rw [IntKind.wrap_u64]; omega
                        have hwA : IntKind.u64.wrap (A : Int) = (A : Int) := by rw [IntKind.wrap_u64]; omega
                        have hwP : IntKind.u64.wrap (PL : Int) = (PL : Int) := by rw [IntKind.wrap_u64]; omega
                        have hwZ : IntKind.u64.wrap (pb.length : Int) = (pb.length : Int) := by rw [IntKind.wrap_u64]; omega
                        have HCPU := Lib.hid hcpu
                        have HSUB := Lib.hid hsub
                        have HAT1 := Lib.hid hat1
                        clear hcpu hsub hat1
                        have hkn : k ≤ 1000 := by omega
                        go_upto_region 36 with fail
                        refine wp_region_noPanic ?_
                        refine wp_region_held_drew (S := fun w' => Chg u15.ownBlock.toList w8 w') (by kernel_rfl) ((Chg.refl _ _).drew) (fun hHeld => ?_)
                        refine take_read (i := 0) (v := ?_) (by simp only [List.getElem?_toArray, List.getElem?_cons_zero]; rfl) (by kernel_rfl) (by kernel_rfl) (by kernel_rfl) (fun _ _ _ h => h) hHeld ?_ ?_
                        rotate_left
                        · intro w hSw
                          go_simp
                          try with_reducible rfl
                        try simp only [Act.put, List.setIfInBounds_toArray, List.set_cons_zero, List.set_cons_succ]
                        refine take_read (i := 1) (v := ?_) (by simp only [List.getElem?_toArray, List.getElem?_cons_succ, List.getElem?_cons_zero]; rfl) (by kernel_rfl) (by kernel_rfl) (by kernel_rfl) (fun _ _ _ h => h) hHeld ?_ ?_
                        rotate_left
                        · intro w hSw
                          skip
                          go_simp
                          try with_reducible rfl
                        try simp only [Act.put, List.setIfInBounds_toArray, List.set_cons_zero, List.set_cons_succ]
                        refine take_read (i := 2) (v := ?_) (by simp only [List.getElem?_toArray, List.getElem?_cons_succ, List.getElem?_cons_zero]; rfl) (by kernel_rfl) (by kernel_rfl) (by kernel_rfl) (fun _ _ _ h => h) hHeld ?_ ?_
                        rotate_left
                        · intro w hSw
                          skip
                          go_simp
                          try with_reducible rfl
                        try simp only [Act.put, List.setIfInBounds_toArray, List.set_cons_zero, List.set_cons_succ]
                        refine take_read (i := 3) (v := ?_) (by simp only [List.getElem?_toArray, List.getElem?_cons_succ, List.getElem?_cons_zero]; rfl) (by kernel_rfl) (by kernel_rfl) (by kernel_rfl) (fun _ _ _ h => h) hHeld ?_ ?_
                        rotate_left
                        · intro w hSw
                          skip
                          go_simp
                          try with_reducible rfl
                        try simp only [Act.put, List.setIfInBounds_toArray, List.set_cons_zero, List.set_cons_succ]
                        refine take_read (i := 4) (v := ?_) (by simp only [List.getElem?_toArray, List.getElem?_cons_succ, List.getElem?_cons_zero]; rfl) (by kernel_rfl) (by kernel_rfl) (by kernel_rfl) (fun _ _ _ h => h) hHeld ?_ ?_
                        rotate_left
                        · intro w hSw
                          skip
                          go_simp
                          try with_reducible rfl
                        try simp only [Act.put, List.setIfInBounds_toArray, List.set_cons_zero, List.set_cons_succ]
                        refine take_read (i := 5) (v := ?_) (by simp only [List.getElem?_toArray, List.getElem?_cons_succ, List.getElem?_cons_zero]; rfl) (by kernel_rfl) (by kernel_rfl) (by kernel_rfl) (fun _ _ _ h => h) hHeld ?_ ?_
                        rotate_left
                        · intro w hSw
                          (have k1 := hSw.cell k1 HBN.out)
                          go_simp
                          try with_reducible rfl
                        try simp only [Act.put, List.setIfInBounds_toArray, List.set_cons_zero, List.set_cons_succ]
                        refine take_read (i := 6) (v := ?_) (by simp only [List.getElem?_toArray, List.getElem?_cons_succ, List.getElem?_cons_zero]; rfl) (by kernel_rfl) (by kernel_rfl) (by kernel_rfl) (fun _ _ _ h => h) hHeld ?_ ?_
                        rotate_left
                        · intro w hSw
                          skip
                          go_simp
                          try with_reducible rfl
                        try simp only [Act.put, List.setIfInBounds_toArray, List.set_cons_zero, List.set_cons_succ]
                        refine take_read (i := 9) (v := ?_) (by simp only [List.getElem?_toArray, List.getElem?_cons_succ, List.getElem?_cons_zero]; rfl) (by kernel_rfl) (by kernel_rfl) (by kernel_rfl) (fun _ _ _ h => h) hHeld ?_ ?_
                        rotate_left
                        · intro w hSw
                          skip
                          go_simp
                          try with_reducible rfl
                        try simp only [Act.put, List.setIfInBounds_toArray, List.set_cons_zero, List.set_cons_succ]
                        refine take_read (i := 10) (v := ?_) (by simp only [List.getElem?_toArray, List.getElem?_cons_succ, List.getElem?_cons_zero]; rfl) (by kernel_rfl) (by kernel_rfl) (by kernel_rfl) (fun _ _ _ h => h) hHeld ?_ ?_
                        rotate_left
                        · intro w hSw
                          skip
                          go_simp
                          try with_reducible rfl
                        try simp only [Act.put, List.setIfInBounds_toArray, List.set_cons_zero, List.set_cons_succ]
                        refine take_read (i := 11) (v := ?_) (by simp only [List.getElem?_toArray, List.getElem?_cons_succ, List.getElem?_cons_zero]; rfl) (by kernel_rfl) (by kernel_rfl) (by kernel_rfl) (fun _ _ _ h => h) hHeld ?_ ?_
                        rotate_left
                        · intro w hSw
                          skip
                          go_simp
                          try with_reducible rfl
                        try simp only [Act.put, List.setIfInBounds_toArray, List.set_cons_zero, List.set_cons_succ]
                        refine take_read (i := 12) (v := ?_) (by simp only [List.getElem?_toArray, List.getElem?_cons_succ, List.getElem?_cons_zero]; rfl) (by kernel_rfl) (by kernel_rfl) (by kernel_rfl) (fun _ _ _ h => h) hHeld ?_ ?_
                        rotate_left
                        · intro w hSw
                          skip
                          go_simp
                          try with_reducible rfl
                        try simp only [Act.put, List.setIfInBounds_toArray, List.set_cons_zero, List.set_cons_succ]
                        refine take_read (i := 13) (v := ?_) (by simp only [List.getElem?_toArray, List.getElem?_cons_succ, List.getElem?_cons_zero]; rfl) (by kernel_rfl) (by kernel_rfl) (by kernel_rfl) (fun _ _ _ h => h) hHeld ?_ ?_
                        rotate_left
                        · intro w hSw
                          (have k2 := hSw.cell k2 HBN.out)
                          go_simp
                          try with_reducible rfl
                        try simp only [Act.put, List.setIfInBounds_toArray, List.set_cons_zero, List.set_cons_succ]
                        refine take_read (i := 14) (v := ?_) (by simp only [List.getElem?_toArray, List.getElem?_cons_succ, List.getElem?_cons_zero]; rfl) (by kernel_rfl) (by kernel_rfl) (by kernel_rfl) (fun _ _ _ h => h) hHeld ?_ ?_
                        rotate_left
                        · intro w hSw
                          skip
                          go_simp
                          try with_reducible rfl
                        try simp only [Act.put, List.setIfInBounds_toArray, List.set_cons_zero, List.set_cons_succ]
                        refine wpAnyH_ready (rs := [7]) (by kernel_rfl) (by simp) ?_
                        refine AllReadyH.cons rfl (fun K hK => ?_) AllReadyH.nil
                        go_simp
                        refine (Big_any pc 4 (by have := HCPU.out; omega) (by decide) w8.drew).mono ?_
                        rintro e w9 ⟨v9, rfl, hb9, hc9⟩
                        have R9 := Lib.hid ((RK.out.pure ((Chg.refl [] w8).drew)).pure hc9)
                        have B9 := Lib.hid (hb9)
                        have D9 : Hid (Chg u15.ownBlock.toList w8 w9) := Lib.hid (((Chg.refl _ w8).drew).then hc9)
                        clear hb9 hc9
                        refine hK.out _ _ D9.out (fun _ => ?_)
                        clear hK hHeld K
                        have hHeld := D9.out
                        try (unfold Act.put; simp only [List.setIfInBounds_toArray, List.set_cons_zero, List.set_cons_succ])
                        refine wpAnyH_ready (rs := [8]) (by kernel_rfl) (by simp) ?_
                        refine AllReadyH.cons (by simp only [List.getElem?_toArray, List.getElem?_cons_succ, List.getElem?_cons_zero]; rfl) (fun K hK => ?_) AllReadyH.nil
                        refine arm_Q rfl _ _ rfl w.heap.size u15 LB rfl R9.out.buf _ rfl (bgL pc 4) B9.out.rd (by have := HLB.out; rw [bgL_len]; omega) R9.out.chg.size (fun vX wX hgX => ?_)
                        have RX := Lib.hid (R9.out.b hgX)
                        have DX : Hid (Chg u15.ownBlock.toList w8 wX) := Lib.hid (D9.out.same hgX.chg)
                        have OX := Lib.hid (hgX.own)
                        clear hgX
                        refine hK.out _ _ DX.out (fun _ => ?_)
                        clear hK hHeld K
                        have hHeld := DX.out
                        try (unfold Act.put; simp only [List.setIfInBounds_toArray, List.set_cons_zero, List.set_cons_succ])
                        refine wpAnyH_ready (rs := [15]) (by kernel_rfl) (by simp) ?_
                        refine AllReadyH.cons rfl (fun K hK => ?_) AllReadyH.nil
                        go_simp
                        refine (Big_any ps 4 (by have := HSUB.out; omega) (by decide) wX).mono ?_
                        rintro e wY ⟨vY, rfl, hbY, hcY⟩
                        have RY := Lib.hid (RX.out.pure hcY)
                        have BY := Lib.hid (hbY)
                        have DY : Hid (Chg u15.ownBlock.toList w8 wY) := Lib.hid (DX.out.then hcY)
                        clear hbY hcY
                        refine hK.out _ _ DY.out (fun _ => ?_)
                        clear hK hHeld K
                        have hHeld := DY.out
                        try (unfold Act.put; simp only [List.setIfInBounds_toArray, List.set_cons_zero, List.set_cons_succ])
                        refine wpAnyH_ready (rs := [16]) (by kernel_rfl) (by simp) ?_
                        refine AllReadyH.cons (by simp only [List.getElem?_toArray, List.getElem?_cons_succ, List.getElem?_cons_zero]; rfl) (fun K hK => ?_) AllReadyH.nil
                        refine arm_Q rfl _ _ rfl w.heap.size vX (LB ++ bgL pc 4) rfl RY.out.buf _ rfl (bgL ps 4) BY.out.rd (by have := HLB.out; rw [List.length_append, bgL_len, bgL_len]; omega) RY.out.chg.size (fun vZ wZ hgZ => ?_)
                        have RZ := Lib.hid (RY.out.b hgZ)
                        have DZ : Hid (Chg u15.ownBlock.toList w8 wZ) := by
                          refine Lib.hid ?_
                          refine DY.out.trans hgZ.chg (fun i hm hi => ?_)
                          rcases OX.out with e | ⟨j, e, hj⟩
                          · rw [e] at hm; exact hm
                          · rw [e] at hm; simp at hm; have := DX.out.size; have := D9.out.size; omega
                        clear hgZ
                        refine hK.out _ _ DZ.out (fun _ => ?_)
                        clear hK hHeld K
                        have hHeld := DZ.out
                        try (unfold Act.put; simp only [List.setIfInBounds_toArray, List.set_cons_zero, List.set_cons_succ])
                        refine take_read (i := 17) (v := ?_) (by simp only [List.getElem?_toArray, List.getElem?_cons_succ, List.getElem?_cons_zero]; rfl) (by kernel_rfl) (by kernel_rfl) (by kernel_rfl) (fun _ _ _ h => h) hHeld ?_ ?_
                        rotate_left
                        · intro w hSw
                          skip
                          go_simp
                          try with_reducible rfl
                        try simp only [Act.put, List.setIfInBounds_toArray, List.set_cons_zero, List.set_cons_succ]
                        refine wpAnyH_done (by kernel_rfl) ?_ _
                        refine NoPanic.normal ?_
                        replace k3 := DZ.out.cell k3 HBN.out
                        replace k4 := DZ.out.cell k4 HBN.out
                        replace hpc := DZ.out.cell hpc HPN.out
                        clear hHeld R9 B9 D9 RX DX RY BY DY k1 k2 RK HBN HPN OX DZ
                        obtain ⟨LC, hLC⟩ : ∃ LC, LC = (LB ++ bgL pc 4) ++ bgL ps 4 := ⟨_, rfl⟩
                        rw [← hLC] at RZ
                        have HLC := Lib.hid (hLC)
                        have HLCL : Hid (LC.length = 16 + k * 20) := Lib.hid (by have := HLB.out; rw [hLC]; simp only [List.length_append, bgL_len]; omega)
                        clear hLC
                        have HBN : Hid (b ∉ vZ.ownBlock.toList) := Lib.hid (RZ.out.buf.ne_old HB0.out)
                        have HPN : Hid (bP ∉ vZ.ownBlock.toList) := Lib.hid (RZ.out.ne_int bP rfl)
                        go_upto_region 37 with fail
                        refine wp_region_noPanic ?_
                        refine wp_region_held_drew (S := fun w' => Chg vZ.ownBlock.toList wZ w') (by kernel_rfl) ((Chg.refl _ _).drew) (fun hHeld => ?_)
                        refine take_read (i := 0) (v := ?_) (by simp only [List.getElem?_toArray, List.getElem?_cons_zero]; rfl) (by kernel_rfl) (by kernel_rfl) (by kernel_rfl) (fun _ _ _ h => h) hHeld ?_ ?_
                        rotate_left
                        · intro w hSw
                          go_simp
                          try with_reducible rfl
                        try simp only [Act.put, List.setIfInBounds_toArray, List.set_cons_zero, List.set_cons_succ]
                        refine take_read (i := 1) (v := ?_) (by simp only [List.getElem?_toArray, List.getElem?_cons_succ, List.getElem?_cons_zero]; rfl) (by kernel_rfl) (by kernel_rfl) (by kernel_rfl) (fun _ _ _ h => h) hHeld ?_ ?_
                        rotate_left
                        · intro w hSw
                          skip
                          go_simp
                          try with_reducible rfl
                        try simp only [Act.put, List.setIfInBounds_toArray, List.set_cons_zero, List.set_cons_succ]
                        refine take_read (i := 2) (v := ?_) (by simp only [List.getElem?_toArray, List.getElem?_cons_succ, List.getElem?_cons_zero]; rfl) (by kernel_rfl) (by kernel_rfl) (by kernel_rfl) (fun _ _ _ h => h) hHeld ?_ ?_
                        rotate_left
                        · intro w hSw
                          skip
                          go_simp
                          try with_reducible rfl
                        try simp only [Act.put, List.setIfInBounds_toArray, List.set_cons_zero, List.set_cons_succ]
                        refine take_read (i := 3) (v := ?_) (by simp only [List.getElem?_toArray, List.getElem?_cons_succ, List.getElem?_cons_zero]; rfl) (by kernel_rfl) (by kernel_rfl) (by kernel_rfl) (fun _ _ _ h => h) hHeld ?_ ?_
                        rotate_left
                        · intro w hSw
                          skip
                          go_simp
                          try with_reducible rfl
                        try simp only [Act.put, List.setIfInBounds_toArray, List.set_cons_zero, List.set_cons_succ]
                        refine take_read (i := 4) (v := ?_) (by simp only [List.getElem?_toArray, List.getElem?_cons_succ, List.getElem?_cons_zero]; rfl) (by kernel_rfl) (by kernel_rfl) (by kernel_rfl) (fun _ _ _ h => h) hHeld ?_ ?_
                        rotate_left
                        · intro w hSw
                          (have hpc := hSw.cell hpc HPN.out)
                          go_simp
                          try with_reducible rfl
                        try simp only [Act.put, List.setIfInBounds_toArray, List.set_cons_zero, List.set_cons_succ]
                        refine take_read (i := 5) (v := ?_) (by simp only [List.getElem?_toArray, List.getElem?_cons_succ, List.getElem?_cons_zero]; rfl) (by kernel_rfl) (by kernel_rfl) (by kernel_rfl) (fun _ _ _ h => h) hHeld ?_ ?_
                        rotate_left
                        · intro w hSw
                          skip
                          go_simp
                          try with_reducible rfl
                        try simp only [Act.put, List.setIfInBounds_toArray, List.set_cons_zero, List.set_cons_succ]
                        refine take_read (i := 6) (v := ?_) (by simp only [List.getElem?_toArray, List.getElem?_cons_succ, List.getElem?_cons_zero]; rfl) (by kernel_rfl) (by kernel_rfl) (by kernel_rfl) (fun _ _ _ h => h) hHeld ?_ ?_
                        rotate_left
                        · intro w hSw
                          skip
                          go_simp
                          try with_reducible rfl
                        try simp only [Act.put, List.setIfInBounds_toArray, List.set_cons_zero, List.set_cons_succ]
                        refine take_read (i := 9) (v := ?_) (by simp only [List.getElem?_toArray, List.getElem?_cons_succ, List.getElem?_cons_zero]; rfl) (by kernel_rfl) (by kernel_rfl) (by kernel_rfl) (fun _ _ _ h => h) hHeld ?_ ?_
                        rotate_left
                        · intro w hSw
                          skip
                          go_simp
                          try with_reducible rfl
                        try simp only [Act.put, List.setIfInBounds_toArray, List.set_cons_zero, List.set_cons_succ]
                        refine take_read (i := 10) (v := ?_) (by simp only [List.getElem?_toArray, List.getElem?_cons_succ, List.getElem?_cons_zero]; rfl) (by kernel_rfl) (by kernel_rfl) (by kernel_rfl) (fun _ _ _ h => h) hHeld ?_ ?_
                        rotate_left
                        · intro w hSw
                          skip
                          go_simp
                          try with_reducible rfl
                        try simp only [Act.put, List.setIfInBounds_toArray, List.set_cons_zero, List.set_cons_succ]
                        refine take_read (i := 11) (v := ?_) (by simp only [List.getElem?_toArray, List.getElem?_cons_succ, List.getElem?_cons_zero]; rfl) (by kernel_rfl) (by kernel_rfl) (by kernel_rfl) (fun _ _ _ h => h) hHeld ?_ ?_
                        rotate_left
                        · intro w hSw
                          skip
                          go_simp
                          try with_reducible rfl
                        try simp only [Act.put, List.setIfInBounds_toArray, List.set_cons_zero, List.set_cons_succ]
                        refine take_read (i := 12) (v := ?_) (by simp only [List.getElem?_toArray, List.getElem?_cons_succ, List.getElem?_cons_zero]; rfl) (by kernel_rfl) (by kernel_rfl) (by kernel_rfl) (fun _ _ _ h => h) hHeld ?_ ?_
                        rotate_left
                        · intro w hSw
                          skip
                          go_simp
                          try with_reducible rfl
                        try simp only [Act.put, List.setIfInBounds_toArray, List.set_cons_zero, List.set_cons_succ]
                        refine take_read (i := 13) (v := ?_) (by simp only [List.getElem?_toArray, List.getElem?_cons_succ, List.getElem?_cons_zero]; rfl) (by kernel_rfl) (by kernel_rfl) (by kernel_rfl) (fun _ _ _ h => h) hHeld ?_ ?_
                        rotate_left
                        · intro w hSw
                          (have k4 := hSw.cell k4 HBN.out)
                          go_simp
                          try with_reducible rfl
                        try simp only [Act.put, List.setIfInBounds_toArray, List.set_cons_zero, List.set_cons_succ]
                        refine take_read (i := 14) (v := ?_) (by simp only [List.getElem?_toArray, List.getElem?_cons_succ, List.getElem?_cons_zero]; rfl) (by kernel_rfl) (by kernel_rfl) (by kernel_rfl) (fun _ _ _ h => h) hHeld ?_ ?_
                        rotate_left
                        · intro w hSw
                          skip
                          go_simp
                          try with_reducible rfl
                        try simp only [Act.put, List.setIfInBounds_toArray, List.set_cons_zero, List.set_cons_succ]
                        refine take_read (i := 15) (v := ?_) (by simp only [List.getElem?_toArray, List.getElem?_cons_succ, List.getElem?_cons_zero]; rfl) (by kernel_rfl) (by kernel_rfl) (by kernel_rfl) (fun _ _ _ h => h) hHeld ?_ ?_
                        rotate_left
                        · intro w hSw
                          skip
                          go_simp
                          try with_reducible rfl
                        try simp only [Act.put, List.setIfInBounds_toArray, List.set_cons_zero, List.set_cons_succ]
                        refine take_read (i := 16) (v := ?_) (by simp only [List.getElem?_toArray, List.getElem?_cons_succ, List.getElem?_cons_zero]; rfl) (by kernel_rfl) (by kernel_rfl) (by kernel_rfl) (fun _ _ _ h => h) hHeld ?_ ?_
                        rotate_left
                        · intro w hSw
                          skip
                          go_simp
                          try with_reducible rfl
                        try simp only [Act.put, List.setIfInBounds_toArray, List.set_cons_zero, List.set_cons_succ]
                        refine wpAnyH_ready (rs := [7]) (by kernel_rfl) (by simp) ?_
                        refine AllReadyH.cons rfl (fun K hK => ?_) AllReadyH.nil
                        go_simp
                        refine (Big_any PL 4 (by have := HAT1.out; omega) (by decide) wZ.drew).mono ?_
                        rintro e w9 ⟨v9, rfl, hb9, hc9⟩
                        have R9 := Lib.hid ((RZ.out.pure ((Chg.refl [] wZ).drew)).pure hc9)
                        have B9 := Lib.hid (hb9)
                        have D9 : Hid (Chg vZ.ownBlock.toList wZ w9) := Lib.hid (((Chg.refl _ wZ).drew).then hc9)
                        clear hb9 hc9
                        refine hK.out _ _ D9.out (fun _ => ?_)
                        clear hK hHeld K
                        have hHeld := D9.out
                        try (unfold Act.put; simp only [List.setIfInBounds_toArray, List.set_cons_zero, List.set_cons_succ])
                        refine wpAnyH_ready (rs := [8]) (by kernel_rfl) (by simp) ?_
                        refine AllReadyH.cons (by simp only [List.getElem?_toArray, List.getElem?_cons_succ, List.getElem?_cons_zero]; rfl) (fun K hK => ?_) AllReadyH.nil
                        refine arm_Q rfl _ _ rfl w.heap.size vZ LC rfl R9.out.buf _ rfl (bgL PL 4) B9.out.rd (by have := HLCL.out; rw [bgL_len]; omega) R9.out.chg.size (fun vX wX hgX => ?_)
                        have RX := Lib.hid (R9.out.b hgX)
                        have DX : Hid (Chg vZ.ownBlock.toList wZ wX) := Lib.hid (D9.out.same hgX.chg)
                        have OX := Lib.hid (hgX.own)
                        clear hgX
                        refine hK.out _ _ DX.out (fun _ => ?_)
                        clear hK hHeld K
                        have hHeld := DX.out
                        try (unfold Act.put; simp only [List.setIfInBounds_toArray, List.set_cons_zero, List.set_cons_succ])
                        refine wpAnyH_ready (rs := [17]) (by kernel_rfl) (by simp) ?_
                        refine AllReadyH.cons rfl (fun K hK => ?_) AllReadyH.nil
                        go_simp
                        refine (Big_any pb.length 4 (by have := HAT1.out; omega) (by decide) wX).mono ?_
                        rintro e wY ⟨vY, rfl, hbY, hcY⟩
                        have RY := Lib.hid (RX.out.pure hcY)
                        have BY := Lib.hid (hbY)
                        have DY : Hid (Chg vZ.ownBlock.toList wZ wY) := Lib.hid (DX.out.then hcY)
                        clear hbY hcY
                        refine hK.out _ _ DY.out (fun _ => ?_)
                        clear hK hHeld K
                        have hHeld := DY.out
                        try (unfold Act.put; simp only [List.setIfInBounds_toArray, List.set_cons_zero, List.set_cons_succ])
                        refine wpAnyH_ready (rs := [18]) (by kernel_rfl) (by simp) ?_
                        refine AllReadyH.cons (by simp only [List.getElem?_toArray, List.getElem?_cons_succ, List.getElem?_cons_zero]; rfl) (fun K hK => ?_) AllReadyH.nil
                        refine arm_Q rfl _ _ rfl w.heap.size vX (LC ++ bgL PL 4) rfl RY.out.buf _ rfl (bgL pb.length 4) BY.out.rd (by have := HLCL.out; rw [List.length_append, bgL_len, bgL_len]; omega) RY.out.chg.size (fun vT wT hgT => ?_)
                        have RT := Lib.hid (RY.out.b hgT)
                        have DT : Hid (Chg vZ.ownBlock.toList wZ wT) := by
                          refine Lib.hid ?_
                          refine DY.out.trans hgT.chg (fun i hm hi => ?_)
                          rcases OX.out with e | ⟨j, e, hj⟩
                          · rw [e] at hm; exact hm
                          · rw [e] at hm; simp at hm; have := DX.out.size; have := D9.out.size; omega
                        clear hgT
                        refine hK.out _ _ DT.out (fun _ => ?_)
                        clear hK hHeld K
                        have hHeld := DT.out
                        try (unfold Act.put; simp only [List.setIfInBounds_toArray, List.set_cons_zero, List.set_cons_succ])
                        refine take_read (i := 19) (v := ?_) (by simp only [List.getElem?_toArray, List.getElem?_cons_succ, List.getElem?_cons_zero]; rfl) (by kernel_rfl) (by kernel_rfl) (by kernel_rfl) (fun _ _ _ h => h) hHeld ?_ ?_
                        rotate_left
                        · intro w hSw
                          skip
                          go_simp
                          try with_reducible rfl
                        try simp only [Act.put, List.setIfInBounds_toArray, List.set_cons_zero, List.set_cons_succ]
                        refine wpAnyH_done (by kernel_rfl) ?_ _
                        refine NoPanic.normal ?_
                        replace k3 := DT.out.cell k3 HBN.out
                        clear hHeld R9 B9 D9 RX DX RY BY DY k4 hpc RZ HBN HPN OX DT
                        go_wp2_with fail
                        refine (Big_any A 4 (by omega) (by decide) wT).mono ?_
                        rintro e wC ⟨vC, rfl, hbC, hcC⟩
                        have RC := Lib.hid (RT.out.pure hcC)
                        have BC := Lib.hid (hbC)
                        clear hbC hcC RT k3
                        go_wp2_with (at_builtin; refine app_Q rfl _ _ rfl w.heap.size vT ((LC ++ bgL PL 4) ++ bgL pb.length 4) rfl RC.out.buf _ rfl (bgL A 4) BC.out.rd (by have := HLCL.out; rw [List.length_append, List.length_append, bgL_len, bgL_len, bgL_len]; omega) RC.out.chg.size ?_; intro vD wD hgD; refine Hid.out ?_)
                        refine Lib.hid ?_
                        have RD2 := Lib.hid (RC.out.b hgD)
                        clear hgD RC BC
                        obtain ⟨LZ, hLZ⟩ : ∃ LZ, LZ = ((LC ++ bgL PL 4) ++ bgL pb.length 4) ++ bgL A 4 := ⟨_, rfl⟩
                        rw [← hLZ] at RD2
                        have hLZl : LZ.length + 0 = 8 + (k + 1) * 20 := by have := HLCL.out; rw [hLZ]; simp only [List.length_append, bgL_len]; omega
                        have HNEW : Hid (headF false ms.length ++ entsL false E ms (k + 1) = LZ ++ zerosL 0) := by
                          refine Lib.hid ?_
                          rw [HEN1.out, hLZ, HLC.out]
                          unfold entL
                          simp only [List.append_assoc, Int.toNat_natCast]
                          rfl
                        have HLZL := Lib.hid (hLZl)
                        clear hLZ hLZl
                        obtain ⟨aB, cB, rfl⟩ := RD2.out.buf.form
                        have hlz : LZ.length ≤ 40000 := by have := HLZL.out; omega
                        clear hwc hws hwA hwP hwZ
                        go_wp2_with fail
                        go_loopw [15] (fun s15 wl => ∃ (i : Nat) (aJ : Option Addr) (cJ : Nat), s15 = .slice aJ (LZ.length + i) cJ ∧ i ≤ 0 ∧ RQ w wl s15 (LZ ++ zerosL i) (.slice (some ⟨bP, oP, none⟩) ms.length cP) ((List.range ms.length).map (placeOf E ms))) (fun s15 _ => match s15 with | .slice _ n _ => LZ.length + 0 - n | _ => 0)
                        case atStart => exact ⟨0, aB, cB, rfl, Nat.zero_le _, by rw [show LZ ++ zerosL 0 = LZ from List.append_nil _]; exact RD2.out⟩
                        case round =>
                          obtain ⟨i, aI, cI, rfl, hi, hrq⟩ := hrel
                          have RI := Lib.hid (hrq)
                          clear hrq
                          obtain ⟨wi, rfl⟩ : ∃ wi, wi = wr := ⟨_, rfl⟩
                          by_cases hlt2 : i < 0
                          · exact absurd hlt2 (Nat.not_lt_zero _)
                          · obtain rfl : i = 0 := by omega
                            have c1 : decide ((LZ.length : Int) < 8 + ((k : Int) + 1) * 20) = false := by have := HLZL.out; rw [decide_eq_false_iff_not]; omega
                            rw [← HNEW.out] at RI
                            go_wp2
                            go_roundw
                            case rel => exact ⟨k + 1, hlt, by go_num, RI.out⟩
                            case measure => simp [intOf]; omega
                      · obtain rfl : k = ms.length := by omega
                        obtain ⟨HH, hHH⟩ : ∃ HH, HH = headF false ms.length ++ entsL false E ms ms.length := ⟨_, rfl⟩
                        have HHL : Hid (HH.length = E) := Lib.hid (by rw [hHH, List.length_append, headF_len, entsL_len]; exact HE0.out.symm)
                        have HFL : Hid (fatL false ms = HH ++ bodyL E ms) := Lib.hid (by rw [hHH, HE0.out]; rfl)
                        rw [← hHH] at RK
                        clear hHH hlt hk
                        go_wp2_with fail
                        go_loopw [15, 17] (fun s15 s17 wl => ∃ k : Nat, k ≤ ms.length ∧ s17 = .int .i64 (k : Int) ∧ RQ w wl s15 (HH ++ bodyL E (ms.take k)) (.slice aP ms.length cP) ((List.range ms.length).map (placeOf E ms))) (fun _ s17 _ => ms.length - (intOf s17).toNat)
                        case atStart => exact ⟨0, Nat.zero_le _, rfl, by rw [show HH ++ bodyL E (ms.take 0) = HH from List.append_nil _]; exact RK.out⟩
                        case round =>
                          obtain ⟨k, hk, rfl, hrq⟩ := hrel
                          have RY := Lib.hid (hrq)
                          clear hrq
                          obtain ⟨wy, rfl⟩ : ∃ x, x = wr := ⟨_, rfl⟩
                          by_cases hlt : k < ms.length
                          · obtain ⟨b, off, rfl, hb0, hcell⟩ := Hx.out (by rintro rfl; simp at hlt)
                            obtain ⟨_, _, _, a', cap', h4, h5⟩ := hcell k hlt
                            obtain ⟨p, hp⟩ : ∃ p, p = ms.getD k .zero := ⟨_, rfl⟩
                            rw [← hp] at h4 h5
                            have hat1 := HSM.out (k + 1) hlt (fun m hm => Hal.out m (List.mem_of_mem_take hm))
                            rw [atL_take E ms k hlt, ← hp] at hat1
                            obtain ⟨PL, hPL⟩ : ∃ PL, PL = placeOf E ms k := ⟨_, rfl⟩
                            obtain ⟨YB, hYB⟩ : ∃ YB, YB = bodyL E (ms.take k) := ⟨_, rfl⟩
                            have HBD1 : Hid (bodyL E (ms.take (k + 1)) = (YB ++ zerosL (PL - (E + YB.length))) ++ p.bytes) := by
                              refine Lib.hid ?_
                              rw [hPL, hYB, bodyL_atk E ms k hk, hp]; exact bodyL_take E ms k hlt
                            have hYP : E + YB.length ≤ PL := by rw [hPL, hYB, bodyL_atk E ms k hk]; exact (atL_mono E ms k hlt).1
                            have HPG : Hid (((List.range ms.length).map (placeOf E ms)).getD k 0 = PL) := Lib.hid (by rw [hPL]; simp [List.getD_eq_getElem?_getD, hlt])
                            rw [← hPL] at hat1
                            rw [← hYB] at RY
                            have H4 := Lib.hid (h4)
                            have HR0 := Lib.hid (h5)
                            clear hPL hYB hp h4 h5 hcell hb0
                            obtain ⟨pc, ps, pa, pb⟩ := p
                            simp only at H4 HR0 HBD1 hat1
                            obtain ⟨bP, oP, rfl, _⟩ := RY.out.ints.cell k (by simpa using hlt)
                            obtain ⟨aY, cY, hu15⟩ := RY.out.buf.form
                            rw [show (HH ++ YB).length = E + YB.length by rw [List.length_append, HHL.out]] at hu15
                            subst hu15
                            go_wp2_with fail
                            go_loopw [15] (fun s15 wl => ∃ (j : Nat) (aJ : Option Addr) (cJ : Nat), s15 = .slice aJ (E + YB.length + j) cJ ∧ E + YB.length + j ≤ PL ∧ RQ w wl s15 ((HH ++ YB) ++ zerosL j) (.slice (some ⟨bP, oP, none⟩) ms.length cP) ((List.range ms.length).map (placeOf E ms))) (fun s15 _ => match s15 with | .slice _ n _ => PL - n | _ => 0)
                            case atStart => exact ⟨0, aY, cY, rfl, hYP, by rw [show (HH ++ YB) ++ zerosL 0 = HH ++ YB from List.append_nil _]; exact RY.out⟩
                            case round =>
                              obtain ⟨j, aJ, cJ, rfl, hj, hrq⟩ := hrel
                              have RJ := Lib.hid (hrq)
                              clear hrq
                              obtain ⟨wj, rfl⟩ : ∃ x, x = wr := ⟨_, rfl⟩
                              obtain ⟨bP', oP', hPe, hpc⟩ := RJ.out.ints.cell k (by simpa using hlt)
                              cases hPe
                              rw [HPG.out] at hpc
                              by_cases hjp : E + YB.length + j < PL
                              · have c1 : decide ((E : Int) + (YB.length : Int) + (j : Int) < (PL : Int)) = true := by rw [decide_eq_true_iff]; omega
                                go_wp2_with (at_builtin; refine app_Q rfl _ _ rfl w.heap.size (.slice aJ (E + YB.length + j) cJ) ((HH ++ YB) ++ zerosL j) rfl (RJ.out.buf.pure ((Chg.refl [] wj).alloc _)) _ rfl [0] (Rd_byte wj 0 (by decide) _) (by have := HHL.out; simp [zerosL]; omega) (by have := RJ.out.chg.size; simp only [World.alloc, Array.size_push]; omega) ?_; intro va2 wa2 hga; refine Hid.out ?_)
                                refine Lib.hid ?_
                                have hz : zerosL (j + 1) = zerosL j ++ [0] := List.replicate_succ'
                                have RN : Hid (RQ w wa2 va2 ((HH ++ YB) ++ zerosL (j + 1)) (.slice (some ⟨bP, oP, none⟩) ms.length cP) ((List.range ms.length).map (placeOf E ms))) := Lib.hid (by rw [hz, ← List.append_assoc]; exact (RJ.out.pure ((Chg.refl [] wj).alloc _)).b hga)
                                clear hga hz
                                obtain ⟨aN, cN, hv⟩ := RN.out.buf.form
                                rw [show ((HH ++ YB) ++ zerosL (j + 1)).length = E + YB.length + (j + 1) by rw [List.length_append, List.length_append, HHL.out]; simp [zerosL]] at hv
                                subst hv
                                go_wp2
                                go_roundw
                                case rel => exact ⟨j + 1, aN, cN, rfl, by omega, RN.out⟩
                                case measure => simp; omega
                              · have c1 : decide ((E : Int) + (YB.length : Int) + (j : Int) < (PL : Int)) = false := by rw [decide_eq_false_iff_not]; omega
                                have k4 := RJ.out.chg.cell H4.out (by simp)
                                go_wp2_with (at_builtin; refine app_Q rfl _ _ rfl w.heap.size (.slice aJ (E + YB.length + j) cJ) ((HH ++ YB) ++ zerosL j) rfl RJ.out.buf _ rfl pb (HR0.out.frame RJ.out.chg (fun _ _ hm => by cases hm)) (by have := HHL.out; simp [zerosL]; omega) RJ.out.chg.size ?_; intro va2 wa2 hga; refine Hid.out ?_)
                                refine Lib.hid ?_
                                have RN : Hid (RQ w wa2 va2 (HH ++ bodyL E (ms.take (k + 1))) (.slice (some ⟨bP, oP, none⟩) ms.length cP) ((List.range ms.length).map (placeOf E ms))) := by
                                  refine Lib.hid ?_
                                  rw [HBD1.out, show PL - (E + YB.length) = j by omega, ← List.append_assoc, ← List.append_assoc]
                                  exact RJ.out.b hga
                                clear hga
                                go_wp2
                                go_roundw
                                case rel => exact ⟨k + 1, hlt, by go_num, RN.out⟩
                                case measure => simp [intOf]; omega
                          · obtain rfl : k = ms.length := by omega
                            rw [List.take_length, ← HFL.out] at RY
                            go_wp2
                            go_ret2
                            rw [HE.out]
                            exact ⟨_, rfl, fun _ => RY.out.buf.rd, fun h => absurd rfl h, RY.out.chg⟩
end Go.Proofs.YtchkombikjcokaaDoor
