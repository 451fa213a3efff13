/- Lemmas, laid together: part 5 of 43. Conditions: none but each lemma's own. -/
import Derived.Test.YtgjlgamlmmjdpaaGreatDoorJ3
import Derived.Test.YtgjlgamlmmjdpaaGreatDoorJ4
/- image: within, mayPlace; the document's Within. -/
namespace Go.Proofs.YtgjlgamlmmjdpaaGreatDoor
open Go.RowKit
set_option maxRecDepth 100000

theorem withinI_any (off size all : Int) (ho : 0 ≤ off) (ha : all < 18446744073709551616) (w : World) :
    Calls Tryz.prog 35 #[.int .u64 off, .int .u64 size, .int .u64 all] w fun e w' => e = .returned (.bool (withinI off size all)) ∧ Chg [] w w' := by
  unfold withinI
  by_cases h1 : off ≤ all
  · have hw : IntKind.u64.wrap (all - off) = all - off := by rw [IntKind.wrap_u64]; omega
    have d1 : decide (off ≤ all) = true := decide_eq_true h1
    clear ha ho
    rw [d1, Bool.true_and]
    have Hw := Lib.hid hw
    clear hw
    go_enter Tryz.func35, Tryz.ntmps35
    go_wp2
    go_ret
    exact ⟨congrArg (fun z => Ending.returned (.bool (decide (size ≤ z)))) Hw.out, Chg.refl _ _⟩
  · have d1 : decide (off ≤ all) = false := decide_eq_false h1
    rw [d1, Bool.false_and]
    clear ha ho
    go_enter Tryz.func35, Tryz.ntmps35
    go_wp2
    go_ret
    exact ⟨rfl, Chg.refl _ _⟩
theorem rwithinI_any (off size all : Int) (ho : 0 ≤ off) (hs : 0 ≤ size) (ha : all < 18446744073709551616) (w : World) :
    Calls Tryz.prog 30 #[.int .u64 off, .int .u64 size, .int .u64 all] w fun e w' => e = .returned (.bool (withinI off size all)) ∧ Chg [] w w' := by
  by_cases h1 : size ≤ all
  · have hw : IntKind.u64.wrap (all - size) = all - size := by rw [IntKind.wrap_u64]; omega
    have d1 : decide (size ≤ all) = true := decide_eq_true h1
    have hr : withinI off size all = decide (off ≤ all - size) := by
      unfold withinI
      rw [Bool.eq_iff_iff]
      simp only [Bool.and_eq_true, decide_eq_true_eq]
      omega
    rw [hr]
    clear ha ho hs hr
    have Hw := Lib.hid hw
    clear hw
    go_enter Tryz.func30, Tryz.ntmps30
    go_wp2
    go_ret
    exact ⟨congrArg (fun z => Ending.returned (.bool (decide (off ≤ z)))) Hw.out, Chg.refl _ _⟩
  · have d1 : decide (size ≤ all) = false := decide_eq_false h1
    have hr : withinI off size all = false := by
      unfold withinI
      rw [Bool.eq_false_iff]
      simp only [ne_eq, Bool.and_eq_true, decide_eq_true_eq]
      omega
    rw [hr]
    clear ha ho hs hr
    go_enter Tryz.func30, Tryz.ntmps30
    go_wp2
    go_ret
    exact ⟨rfl, Chg.refl _ _⟩
set_option maxHeartbeats 4000000 in
theorem mayPlace_any (s : Seg) (hs : SegB s) (n : Int) (hn : n < 18446744073709551616) (w : World) :
    Calls Tryz.prog 34 #[segL.val s, .int .u64 n] w fun e w' => e = .returned (.bool (placeB n s)) ∧ Chg [] w w' := by
  have HA := Lib.hid (fun w => withinI_any s.off s.fsize n hs.2.2.1.1 hn w)
  have HB := Lib.hid (fun w => withinI_any s.addr s.size 140737488355328 hs.1.1 (by decide) w)
  have ht1 : s.addr.tmod 4096 = s.addr % 4096 := Int.tmod_eq_emod_of_nonneg hs.1.1
  have ht2 : s.size.tmod 4096 = s.size % 4096 := Int.tmod_eq_emod_of_nonneg hs.2.1.1
  have Hs := Lib.hid hs
  have Hn := Lib.hid hn
  clear hs hn
  by_cases p0 : s.prot < 0
  · have e1 : decide (s.prot < 0) = true := decide_eq_true p0
    have hp : placeB n s = false := by unfold placeB; simp; omega
    have P0 := Lib.hid p0
    have Ht1 := Lib.hid ht1
    have Ht2 := Lib.hid ht2
    clear p0 ht1 ht2
    go_enter Tryz.func34, Tryz.ntmps34
    go_wp2_with ((with_reducible refine Lay.bxL (L := segL) 42 s ?_ ?_); exact rfl; intro W1 bs ebs cbs xbs; replace ebs := Lib.hid ebs; replace cbs := Lib.hid cbs; replace xbs := Lib.hid xbs; refine Hid.out ?_)
    refine Lib.hid ?_
    have y1 := Seg.c_addr xbs.out
    have y2 := Seg.c_size xbs.out
    have y3 := Seg.c_off xbs.out
    have y4 := Seg.c_fsize xbs.out
    have y5 := Seg.c_prot xbs.out
    go_wp2
    go_ret
    exact ⟨hp.symm ▸ rfl, cbs.out⟩
  · by_cases p7 : 7 < s.prot
    · have e1 : decide (s.prot < 0) = false := decide_eq_false p0
      have e2 : decide (7 < s.prot) = true := decide_eq_true p7
      have hp : placeB n s = false := by unfold placeB; simp; omega
      have P0 := Lib.hid p0
      have P7 := Lib.hid p7
      have Ht1 := Lib.hid ht1
      have Ht2 := Lib.hid ht2
      clear p0 p7 ht1 ht2
      go_enter Tryz.func34, Tryz.ntmps34
      go_wp2_with ((with_reducible refine Lay.bxL (L := segL) 42 s ?_ ?_); exact rfl; intro W1 bs ebs cbs xbs; replace ebs := Lib.hid ebs; replace cbs := Lib.hid cbs; replace xbs := Lib.hid xbs; refine Hid.out ?_)
      refine Lib.hid ?_
      have y1 := Seg.c_addr xbs.out
      have y2 := Seg.c_size xbs.out
      have y3 := Seg.c_off xbs.out
      have y4 := Seg.c_fsize xbs.out
      have y5 := Seg.c_prot xbs.out
      go_wp2
      go_ret
      exact ⟨hp.symm ▸ rfl, cbs.out⟩
    · replace p0 : 0 ≤ s.prot := by omega
      replace p7 : s.prot ≤ 7 := by omega
      by_cases pz : s.prot = 0
      · have e3 : (s.prot == 0) = true := by rw [pz]; rfl
        by_cases pf : 0 < s.fsize
        · have e1 : decide (s.prot < 0) = false := decide_eq_false (by omega)
          have e2 : decide (7 < s.prot) = false := decide_eq_false (by omega)
          have e4 : decide (0 < s.fsize) = true := decide_eq_true pf
          have hp : placeB n s = false := by unfold placeB; simp [pz, pf]
          have P0 := Lib.hid p0
          have P7 := Lib.hid p7
          have Ht1 := Lib.hid ht1
          have Ht2 := Lib.hid ht2
          have Pz := Lib.hid pz
          have Pf := Lib.hid pf
          clear p0 p7 ht1 ht2 pz pf
          go_enter Tryz.func34, Tryz.ntmps34
          go_wp2_with ((with_reducible refine Lay.bxL (L := segL) 42 s ?_ ?_); exact rfl; intro W1 bs ebs cbs xbs; replace ebs := Lib.hid ebs; replace cbs := Lib.hid cbs; replace xbs := Lib.hid xbs; refine Hid.out ?_)
          refine Lib.hid ?_
          have y1 := Seg.c_addr xbs.out
          have y2 := Seg.c_size xbs.out
          have y3 := Seg.c_off xbs.out
          have y4 := Seg.c_fsize xbs.out
          have y5 := Seg.c_prot xbs.out
          go_wp2
          go_ret
          exact ⟨hp.symm ▸ rfl, cbs.out⟩
        · have e4 : decide (0 < s.fsize) = false := decide_eq_false pf
          have p0f : (decide (s.prot = 0) && decide (0 < s.fsize)) = false := by simp [pf]
          have Pz := Lib.hid pz
          have Pf := Lib.hid pf
          clear pz pf
          have e1 : decide (s.prot < 0) = false := decide_eq_false (by omega)
          have e2 : decide (7 < s.prot) = false := decide_eq_false (by omega)
          skip
          by_cases a1 : s.addr % 4096 = 0
          · have f1 : (s.addr.tmod 4096 == 0) = true := by rw [ht1, a1]; rfl
            by_cases a2 : s.size % 4096 = 0
            · have f2 : (s.size.tmod 4096 == 0) = true := by rw [ht2, a2]; rfl
              by_cases a3 : 0 < s.size
              · have f3 : decide (0 < s.size) = true := decide_eq_true a3
                by_cases a4 : s.fsize ≤ s.size
                · have f4 : decide (s.fsize ≤ s.size) = true := decide_eq_true a4
                  cases hA : withinI s.off s.fsize n with
                  | false =>
                    have hp : placeB n s = false := by unfold placeB; simp [hA]
                    rw [hA] at HA
                    have P0 := Lib.hid p0
                    have P7 := Lib.hid p7
                    have P0f := Lib.hid p0f
                    have Ht1 := Lib.hid ht1
                    have Ht2 := Lib.hid ht2
                    have A1 := Lib.hid a1
                    have A2 := Lib.hid a2
                    have A3 := Lib.hid a3
                    have A4 := Lib.hid a4
                    have HAA := Lib.hid hA
                    clear p0 p7 p0f ht1 ht2 a1 a2 a3 a4 hA
                    go_enter Tryz.func34, Tryz.ntmps34
                    go_wp2_with ((with_reducible refine Lay.bxL (L := segL) 42 s ?_ ?_); exact rfl; intro W1 bs ebs cbs xbs; replace ebs := Lib.hid ebs; replace cbs := Lib.hid cbs; replace xbs := Lib.hid xbs; refine Hid.out ?_)
                    refine Lib.hid ?_
                    have y1 := Seg.c_addr xbs.out
                    have y2 := Seg.c_size xbs.out
                    have y3 := Seg.c_off xbs.out
                    have y4 := Seg.c_fsize xbs.out
                    have y5 := Seg.c_prot xbs.out
                    go_wp2_with fail
                    refine (HA.out _).mono ?_
                    rintro e W2 ⟨rfl, hc⟩
                    have hp' : placeB n s = false := hp
                    go_wp2
                    go_ret
                    exact ⟨hp'.symm ▸ rfl, cbs.out.then hc⟩
                  | true =>
                    rw [hA] at HA
                    cases hB : withinI s.addr s.size 140737488355328 with
                    | false =>
                      have hp : placeB n s = false := by unfold placeB; simp [hB]
                      rw [hB] at HB
                      have P0 := Lib.hid p0
                      have P7 := Lib.hid p7
                      have P0f := Lib.hid p0f
                      have Ht1 := Lib.hid ht1
                      have Ht2 := Lib.hid ht2
                      have A1 := Lib.hid a1
                      have A2 := Lib.hid a2
                      have A3 := Lib.hid a3
                      have A4 := Lib.hid a4
                      have HAA := Lib.hid hA
                      have HBB := Lib.hid hB
                      clear p0 p7 p0f ht1 ht2 a1 a2 a3 a4 hA hB
                      go_enter Tryz.func34, Tryz.ntmps34
                      go_wp2_with ((with_reducible refine Lay.bxL (L := segL) 42 s ?_ ?_); exact rfl; intro W1 bs ebs cbs xbs; replace ebs := Lib.hid ebs; replace cbs := Lib.hid cbs; replace xbs := Lib.hid xbs; refine Hid.out ?_)
                      refine Lib.hid ?_
                      have y1 := Seg.c_addr xbs.out
                      have y2 := Seg.c_size xbs.out
                      have y3 := Seg.c_off xbs.out
                      have y4 := Seg.c_fsize xbs.out
                      have y5 := Seg.c_prot xbs.out
                      go_wp2_with fail
                      refine (HA.out _).mono ?_
                      rintro e W2 ⟨rfl, hc⟩
                      have X2 := Lib.hid (xbs.out.frame hc)
                      have C2 := Lib.hid (cbs.out.then hc)
                      clear hc y1 y2 y3 y4 y5
                      have y1 := Seg.c_addr X2.out
                      have y2 := Seg.c_size X2.out
                      go_wp2_with fail
                      refine (HB.out _).mono ?_
                      rintro e W3 ⟨rfl, hc⟩
                      go_wp2
                      go_ret
                      exact ⟨hp.symm ▸ rfl, C2.out.then hc⟩
                    | true =>
                      have hp : placeB n s = true := by unfold placeB; simp [hA, hB, a1, a2, a3, a4, p0, p7, p0f]
                      rw [hB] at HB
                      have P0 := Lib.hid p0
                      have P7 := Lib.hid p7
                      have P0f := Lib.hid p0f
                      have Ht1 := Lib.hid ht1
                      have Ht2 := Lib.hid ht2
                      have A1 := Lib.hid a1
                      have A2 := Lib.hid a2
                      have A3 := Lib.hid a3
                      have A4 := Lib.hid a4
                      have HAA := Lib.hid hA
                      have HBB := Lib.hid hB
                      clear p0 p7 p0f ht1 ht2 a1 a2 a3 a4 hA hB
                      go_enter Tryz.func34, Tryz.ntmps34
                      go_wp2_with ((with_reducible refine Lay.bxL (L := segL) 42 s ?_ ?_); exact rfl; intro W1 bs ebs cbs xbs; replace ebs := Lib.hid ebs; replace cbs := Lib.hid cbs; replace xbs := Lib.hid xbs; refine Hid.out ?_)
                      refine Lib.hid ?_
                      have y1 := Seg.c_addr xbs.out
                      have y2 := Seg.c_size xbs.out
                      have y3 := Seg.c_off xbs.out
                      have y4 := Seg.c_fsize xbs.out
                      have y5 := Seg.c_prot xbs.out
                      go_wp2_with fail
                      refine (HA.out _).mono ?_
                      rintro e W2 ⟨rfl, hc⟩
                      have X2 := Lib.hid (xbs.out.frame hc)
                      have C2 := Lib.hid (cbs.out.then hc)
                      clear hc y1 y2 y3 y4 y5
                      have y1 := Seg.c_addr X2.out
                      have y2 := Seg.c_size X2.out
                      go_wp2_with fail
                      refine (HB.out _).mono ?_
                      rintro e W3 ⟨rfl, hc⟩
                      go_wp2
                      go_ret
                      exact ⟨hp.symm ▸ rfl, C2.out.then hc⟩
                · have f4 : decide (s.fsize ≤ s.size) = false := decide_eq_false a4
                  have hp : placeB n s = false := by unfold placeB; simp [a4]
                  have P0 := Lib.hid p0
                  have P7 := Lib.hid p7
                  have P0f := Lib.hid p0f
                  have Ht1 := Lib.hid ht1
                  have Ht2 := Lib.hid ht2
                  have A1 := Lib.hid a1
                  have A2 := Lib.hid a2
                  have A3 := Lib.hid a3
                  have A4 := Lib.hid a4
                  clear p0 p7 p0f ht1 ht2 a1 a2 a3 a4
                  go_enter Tryz.func34, Tryz.ntmps34
                  go_wp2_with ((with_reducible refine Lay.bxL (L := segL) 42 s ?_ ?_); exact rfl; intro W1 bs ebs cbs xbs; replace ebs := Lib.hid ebs; replace cbs := Lib.hid cbs; replace xbs := Lib.hid xbs; refine Hid.out ?_)
                  refine Lib.hid ?_
                  have y1 := Seg.c_addr xbs.out
                  have y2 := Seg.c_size xbs.out
                  have y3 := Seg.c_off xbs.out
                  have y4 := Seg.c_fsize xbs.out
                  have y5 := Seg.c_prot xbs.out
                  go_wp2
                  go_ret
                  exact ⟨hp.symm ▸ rfl, cbs.out⟩
              · have f3 : decide (0 < s.size) = false := decide_eq_false a3
                have hp : placeB n s = false := by unfold placeB; simp [a3]
                have P0 := Lib.hid p0
                have P7 := Lib.hid p7
                have P0f := Lib.hid p0f
                have Ht1 := Lib.hid ht1
                have Ht2 := Lib.hid ht2
                have A1 := Lib.hid a1
                have A2 := Lib.hid a2
                have A3 := Lib.hid a3
                clear p0 p7 p0f ht1 ht2 a1 a2 a3
                go_enter Tryz.func34, Tryz.ntmps34
                go_wp2_with ((with_reducible refine Lay.bxL (L := segL) 42 s ?_ ?_); exact rfl; intro W1 bs ebs cbs xbs; replace ebs := Lib.hid ebs; replace cbs := Lib.hid cbs; replace xbs := Lib.hid xbs; refine Hid.out ?_)
                refine Lib.hid ?_
                have y1 := Seg.c_addr xbs.out
                have y2 := Seg.c_size xbs.out
                have y3 := Seg.c_off xbs.out
                have y4 := Seg.c_fsize xbs.out
                have y5 := Seg.c_prot xbs.out
                go_wp2
                go_ret
                exact ⟨hp.symm ▸ rfl, cbs.out⟩
            · have f2 : (s.size.tmod 4096 == 0) = false := by rw [ht2, beq_eq_false_iff_ne]; exact a2
              have hp : placeB n s = false := by unfold placeB; simp [a2]
              have P0 := Lib.hid p0
              have P7 := Lib.hid p7
              have P0f := Lib.hid p0f
              have Ht1 := Lib.hid ht1
              have Ht2 := Lib.hid ht2
              have A1 := Lib.hid a1
              have A2 := Lib.hid a2
              clear p0 p7 p0f ht1 ht2 a1 a2
              go_enter Tryz.func34, Tryz.ntmps34
              go_wp2_with ((with_reducible refine Lay.bxL (L := segL) 42 s ?_ ?_); exact rfl; intro W1 bs ebs cbs xbs; replace ebs := Lib.hid ebs; replace cbs := Lib.hid cbs; replace xbs := Lib.hid xbs; refine Hid.out ?_)
              refine Lib.hid ?_
              have y1 := Seg.c_addr xbs.out
              have y2 := Seg.c_size xbs.out
              have y3 := Seg.c_off xbs.out
              have y4 := Seg.c_fsize xbs.out
              have y5 := Seg.c_prot xbs.out
              go_wp2
              go_ret
              exact ⟨hp.symm ▸ rfl, cbs.out⟩
          · have f1 : (s.addr.tmod 4096 == 0) = false := by rw [ht1, beq_eq_false_iff_ne]; exact a1
            have hp : placeB n s = false := by unfold placeB; simp [a1]
            have P0 := Lib.hid p0
            have P7 := Lib.hid p7
            have P0f := Lib.hid p0f
            have Ht1 := Lib.hid ht1
            have Ht2 := Lib.hid ht2
            have A1 := Lib.hid a1
            clear p0 p7 p0f ht1 ht2 a1
            go_enter Tryz.func34, Tryz.ntmps34
            go_wp2_with ((with_reducible refine Lay.bxL (L := segL) 42 s ?_ ?_); exact rfl; intro W1 bs ebs cbs xbs; replace ebs := Lib.hid ebs; replace cbs := Lib.hid cbs; replace xbs := Lib.hid xbs; refine Hid.out ?_)
            refine Lib.hid ?_
            have y1 := Seg.c_addr xbs.out
            have y2 := Seg.c_size xbs.out
            have y3 := Seg.c_off xbs.out
            have y4 := Seg.c_fsize xbs.out
            have y5 := Seg.c_prot xbs.out
            go_wp2
            go_ret
            exact ⟨hp.symm ▸ rfl, cbs.out⟩
      · have e3 : (s.prot == 0) = false := by rw [beq_eq_false_iff_ne]; exact pz
        have p0f : (decide (s.prot = 0) && decide (0 < s.fsize)) = false := by simp [pz]
        have Pz := Lib.hid pz
        clear pz
        have e1 : decide (s.prot < 0) = false := decide_eq_false (by omega)
        have e2 : decide (7 < s.prot) = false := decide_eq_false (by omega)
        skip
        by_cases a1 : s.addr % 4096 = 0
        · have f1 : (s.addr.tmod 4096 == 0) = true := by rw [ht1, a1]; rfl
          by_cases a2 : s.size % 4096 = 0
          · have f2 : (s.size.tmod 4096 == 0) = true := by rw [ht2, a2]; rfl
            by_cases a3 : 0 < s.size
            · have f3 : decide (0 < s.size) = true := decide_eq_true a3
              by_cases a4 : s.fsize ≤ s.size
              · have f4 : decide (s.fsize ≤ s.size) = true := decide_eq_true a4
                cases hA : withinI s.off s.fsize n with
                | false =>
                  have hp : placeB n s = false := by unfold placeB; simp [hA]
                  rw [hA] at HA
                  have P0 := Lib.hid p0
                  have P7 := Lib.hid p7
                  have P0f := Lib.hid p0f
                  have Ht1 := Lib.hid ht1
                  have Ht2 := Lib.hid ht2
                  have A1 := Lib.hid a1
                  have A2 := Lib.hid a2
                  have A3 := Lib.hid a3
                  have A4 := Lib.hid a4
                  have HAA := Lib.hid hA
                  clear p0 p7 p0f ht1 ht2 a1 a2 a3 a4 hA
                  go_enter Tryz.func34, Tryz.ntmps34
                  go_wp2_with ((with_reducible refine Lay.bxL (L := segL) 42 s ?_ ?_); exact rfl; intro W1 bs ebs cbs xbs; replace ebs := Lib.hid ebs; replace cbs := Lib.hid cbs; replace xbs := Lib.hid xbs; refine Hid.out ?_)
                  refine Lib.hid ?_
                  have y1 := Seg.c_addr xbs.out
                  have y2 := Seg.c_size xbs.out
                  have y3 := Seg.c_off xbs.out
                  have y4 := Seg.c_fsize xbs.out
                  have y5 := Seg.c_prot xbs.out
                  go_wp2_with fail
                  refine (HA.out _).mono ?_
                  rintro e W2 ⟨rfl, hc⟩
                  have hp' : placeB n s = false := hp
                  go_wp2
                  go_ret
                  exact ⟨hp'.symm ▸ rfl, cbs.out.then hc⟩
                | true =>
                  rw [hA] at HA
                  cases hB : withinI s.addr s.size 140737488355328 with
                  | false =>
                    have hp : placeB n s = false := by unfold placeB; simp [hB]
                    rw [hB] at HB
                    have P0 := Lib.hid p0
                    have P7 := Lib.hid p7
                    have P0f := Lib.hid p0f
                    have Ht1 := Lib.hid ht1
                    have Ht2 := Lib.hid ht2
                    have A1 := Lib.hid a1
                    have A2 := Lib.hid a2
                    have A3 := Lib.hid a3
                    have A4 := Lib.hid a4
                    have HAA := Lib.hid hA
                    have HBB := Lib.hid hB
                    clear p0 p7 p0f ht1 ht2 a1 a2 a3 a4 hA hB
                    go_enter Tryz.func34, Tryz.ntmps34
                    go_wp2_with ((with_reducible refine Lay.bxL (L := segL) 42 s ?_ ?_); exact rfl; intro W1 bs ebs cbs xbs; replace ebs := Lib.hid ebs; replace cbs := Lib.hid cbs; replace xbs := Lib.hid xbs; refine Hid.out ?_)
                    refine Lib.hid ?_
                    have y1 := Seg.c_addr xbs.out
                    have y2 := Seg.c_size xbs.out
                    have y3 := Seg.c_off xbs.out
                    have y4 := Seg.c_fsize xbs.out
                    have y5 := Seg.c_prot xbs.out
                    go_wp2_with fail
                    refine (HA.out _).mono ?_
                    rintro e W2 ⟨rfl, hc⟩
                    have X2 := Lib.hid (xbs.out.frame hc)
                    have C2 := Lib.hid (cbs.out.then hc)
                    clear hc y1 y2 y3 y4 y5
                    have y1 := Seg.c_addr X2.out
                    have y2 := Seg.c_size X2.out
                    go_wp2_with fail
                    refine (HB.out _).mono ?_
                    rintro e W3 ⟨rfl, hc⟩
                    go_wp2
                    go_ret
                    exact ⟨hp.symm ▸ rfl, C2.out.then hc⟩
                  | true =>
                    have hp : placeB n s = true := by unfold placeB; simp [hA, hB, a1, a2, a3, a4, p0, p7, p0f]
                    rw [hB] at HB
                    have P0 := Lib.hid p0
                    have P7 := Lib.hid p7
                    have P0f := Lib.hid p0f
                    have Ht1 := Lib.hid ht1
                    have Ht2 := Lib.hid ht2
                    have A1 := Lib.hid a1
                    have A2 := Lib.hid a2
                    have A3 := Lib.hid a3
                    have A4 := Lib.hid a4
                    have HAA := Lib.hid hA
                    have HBB := Lib.hid hB
                    clear p0 p7 p0f ht1 ht2 a1 a2 a3 a4 hA hB
                    go_enter Tryz.func34, Tryz.ntmps34
                    go_wp2_with ((with_reducible refine Lay.bxL (L := segL) 42 s ?_ ?_); exact rfl; intro W1 bs ebs cbs xbs; replace ebs := Lib.hid ebs; replace cbs := Lib.hid cbs; replace xbs := Lib.hid xbs; refine Hid.out ?_)
                    refine Lib.hid ?_
                    have y1 := Seg.c_addr xbs.out
                    have y2 := Seg.c_size xbs.out
                    have y3 := Seg.c_off xbs.out
                    have y4 := Seg.c_fsize xbs.out
                    have y5 := Seg.c_prot xbs.out
                    go_wp2_with fail
                    refine (HA.out _).mono ?_
                    rintro e W2 ⟨rfl, hc⟩
                    have X2 := Lib.hid (xbs.out.frame hc)
                    have C2 := Lib.hid (cbs.out.then hc)
                    clear hc y1 y2 y3 y4 y5
                    have y1 := Seg.c_addr X2.out
                    have y2 := Seg.c_size X2.out
                    go_wp2_with fail
                    refine (HB.out _).mono ?_
                    rintro e W3 ⟨rfl, hc⟩
                    go_wp2
                    go_ret
                    exact ⟨hp.symm ▸ rfl, C2.out.then hc⟩
              · have f4 : decide (s.fsize ≤ s.size) = false := decide_eq_false a4
                have hp : placeB n s = false := by unfold placeB; simp [a4]
                have P0 := Lib.hid p0
                have P7 := Lib.hid p7
                have P0f := Lib.hid p0f
                have Ht1 := Lib.hid ht1
                have Ht2 := Lib.hid ht2
                have A1 := Lib.hid a1
                have A2 := Lib.hid a2
                have A3 := Lib.hid a3
                have A4 := Lib.hid a4
                clear p0 p7 p0f ht1 ht2 a1 a2 a3 a4
                go_enter Tryz.func34, Tryz.ntmps34
                go_wp2_with ((with_reducible refine Lay.bxL (L := segL) 42 s ?_ ?_); exact rfl; intro W1 bs ebs cbs xbs; replace ebs := Lib.hid ebs; replace cbs := Lib.hid cbs; replace xbs := Lib.hid xbs; refine Hid.out ?_)
                refine Lib.hid ?_
                have y1 := Seg.c_addr xbs.out
                have y2 := Seg.c_size xbs.out
                have y3 := Seg.c_off xbs.out
                have y4 := Seg.c_fsize xbs.out
                have y5 := Seg.c_prot xbs.out
                go_wp2
                go_ret
                exact ⟨hp.symm ▸ rfl, cbs.out⟩
            · have f3 : decide (0 < s.size) = false := decide_eq_false a3
              have hp : placeB n s = false := by unfold placeB; simp [a3]
              have P0 := Lib.hid p0
              have P7 := Lib.hid p7
              have P0f := Lib.hid p0f
              have Ht1 := Lib.hid ht1
              have Ht2 := Lib.hid ht2
              have A1 := Lib.hid a1
              have A2 := Lib.hid a2
              have A3 := Lib.hid a3
              clear p0 p7 p0f ht1 ht2 a1 a2 a3
              go_enter Tryz.func34, Tryz.ntmps34
              go_wp2_with ((with_reducible refine Lay.bxL (L := segL) 42 s ?_ ?_); exact rfl; intro W1 bs ebs cbs xbs; replace ebs := Lib.hid ebs; replace cbs := Lib.hid cbs; replace xbs := Lib.hid xbs; refine Hid.out ?_)
              refine Lib.hid ?_
              have y1 := Seg.c_addr xbs.out
              have y2 := Seg.c_size xbs.out
              have y3 := Seg.c_off xbs.out
              have y4 := Seg.c_fsize xbs.out
              have y5 := Seg.c_prot xbs.out
              go_wp2
              go_ret
              exact ⟨hp.symm ▸ rfl, cbs.out⟩
          · have f2 : (s.size.tmod 4096 == 0) = false := by rw [ht2, beq_eq_false_iff_ne]; exact a2
            have hp : placeB n s = false := by unfold placeB; simp [a2]
            have P0 := Lib.hid p0
            have P7 := Lib.hid p7
            have P0f := Lib.hid p0f
            have Ht1 := Lib.hid ht1
            have Ht2 := Lib.hid ht2
            have A1 := Lib.hid a1
            have A2 := Lib.hid a2
            clear p0 p7 p0f ht1 ht2 a1 a2
            go_enter Tryz.func34, Tryz.ntmps34
            go_wp2_with ((with_reducible refine Lay.bxL (L := segL) 42 s ?_ ?_); exact rfl; intro W1 bs ebs cbs xbs; replace ebs := Lib.hid ebs; replace cbs := Lib.hid cbs; replace xbs := Lib.hid xbs; refine Hid.out ?_)
            refine Lib.hid ?_
            have y1 := Seg.c_addr xbs.out
            have y2 := Seg.c_size xbs.out
            have y3 := Seg.c_off xbs.out
            have y4 := Seg.c_fsize xbs.out
            have y5 := Seg.c_prot xbs.out
            go_wp2
            go_ret
            exact ⟨hp.symm ▸ rfl, cbs.out⟩
        · have f1 : (s.addr.tmod 4096 == 0) = false := by rw [ht1, beq_eq_false_iff_ne]; exact a1
          have hp : placeB n s = false := by unfold placeB; simp [a1]
          have P0 := Lib.hid p0
          have P7 := Lib.hid p7
          have P0f := Lib.hid p0f
          have Ht1 := Lib.hid ht1
          have Ht2 := Lib.hid ht2
          have A1 := Lib.hid a1
          clear p0 p7 p0f ht1 ht2 a1
          go_enter Tryz.func34, Tryz.ntmps34
          go_wp2_with ((with_reducible refine Lay.bxL (L := segL) 42 s ?_ ?_); exact rfl; intro W1 bs ebs cbs xbs; replace ebs := Lib.hid ebs; replace cbs := Lib.hid cbs; replace xbs := Lib.hid xbs; refine Hid.out ?_)
          refine Lib.hid ?_
          have y1 := Seg.c_addr xbs.out
          have y2 := Seg.c_size xbs.out
          have y3 := Seg.c_off xbs.out
          have y4 := Seg.c_fsize xbs.out
          have y5 := Seg.c_prot xbs.out
          go_wp2
          go_ret
          exact ⟨hp.symm ▸ rfl, cbs.out⟩
end Go.Proofs.YtgjlgamlmmjdpaaGreatDoor
