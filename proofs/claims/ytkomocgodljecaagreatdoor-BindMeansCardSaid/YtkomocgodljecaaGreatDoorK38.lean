/- Lemmas, laid together: part 38 of 41. Conditions: none but each lemma's own. -/
import Derived.Test.YtkomocgodljecaaGreatDoorK30
import Derived.Deep.DeepMust
/- clevisref06.Much: whatever it says, of what it does not call much there are few. -/
namespace Go.Proofs.YtkomocgodljecaaGreatDoor
open Go.RowKit
set_option maxRecDepth 100000

theorem meas_m {L k : Nat} (hw : wrap64 ((k : Int) + 1) = (k : Int) + 1) (h : k < L) : L - (intOf (.int .i64 (wrap64 ((k : Int) + 1)))).toNat < L - (intOf (.int .i64 (k : Int))).toNat := by
  rw [hw]
  show L - ((k : Int) + 1).toNat < L - (k : Int).toNat
  omega
theorem meas_n {L k : Nat} (h : k < L) : L - (intOf (.int .i64 ((k : Int) + 1))).toNat < L - (intOf (.int .i64 (k : Int))).toNat := by
  show L - ((k : Int) + 1).toNat < L - (k : Int).toNat
  omega
/-- What a call of Much says. -/
def MuchP (m : Img) (ls : List Seg) (w : World) (e : Ending) (w' : World) : Prop := ∃ b : Bool, e = .returned (.bool b) ∧ Chg [] w w' ∧ (b = false → ls.length ≤ 40 ∧ m.deps.n ≤ 100)
set_option maxHeartbeats 4000000 in
theorem Much_any (m : Img) (ls : List Seg) (w : World) (rd : segL.Rd w m.segs.v ls) :
    Calls Tryz.prog 5 #[imgL.val m] w (MuchP m ls w) := by
  obtain ⟨a, cap, hv, hc1, hc2⟩ := rd.shape
  have rd' := rd
  rw [hv] at rd'
  have hlen : ls.length ≤ 9223372036854775807 := Nat.le_trans hc1 hc2
  have Rd := Lib.hid rd
  have RD2 := Lib.hid rd'
  have Hc2 := Lib.hid hc2
  have Hlen := Lib.hid hlen
  clear rd rd' hc2 hlen
  clear hc1
  unfold SlV.v at hv
  go_enter Tryz.func5, Tryz.ntmps5
  go_wp2_with ((with_reducible refine Lay.bxL (L := imgL) 30 m ?_ ?_); exact rfl; intro W1 bm ebm cbm xbm; replace ebm := Lib.hid ebm; replace cbm := Lib.hid cbm; replace xbm := Lib.hid xbm; refine Hid.out ?_)
  refine Lib.hid ?_
  go_wp2_with fail
  go_loopw [3, 4] (fun s3 s4 wr => ∃ (k : Nat) (z : Int), k ≤ ls.length ∧ s3 = .int .i64 z ∧ s4 = .int .i64 (k : Int) ∧ Chg [] w wr ∧ Chg [] W1 wr) (fun _ s4 _ => ls.length - (intOf s4).toNat)
  case atStart => exact ⟨0, 0, Nat.zero_le _, rfl, rfl, cbm.out, Chg.refl _ _⟩
  case round =>
    obtain ⟨k, z, hk, rfl, rfl, hck, hc1r⟩ := hrel
    have CK := Lib.hid (hck)
    have C1 := Lib.hid (hc1r)
    clear hck hc1r
    have x4 := Img.c_segs (xbm.out.frame C1.out)
    have x5 := Img.c_deps (xbm.out.frame C1.out)
    rw [hv] at x4
    by_cases hlt : k < ls.length
    · have dlt : decide ((k : Int) < (ls.length : Int)) = true := decide_eq_true (by omega)
      obtain ⟨g, o, hao, _, hin⟩ := RD2.out.at (by omega)
      have hi := (hin k hlt).frame CK.out
      obtain ⟨s, hs⟩ : ∃ s, s = ls.getD k Seg.zero := ⟨_, rfl⟩
      rw [show ls.getD k segL.d = s from hs.symm] at hi
      rw [show segL.n = 7 from rfl] at hi
      subst hao
      have y6 : wr.cell? ⟨g, o + k * 7 + 6, none⟩ = some (.slice s.secs.a s.secs.n s.secs.cap) := hi 6 (by decide)
      have hw1 : wrap64 ((k : Int) + 1) = (k : Int) + 1 := by have := Hlen.out; unfold wrap64; omega
      have hlt0 : (k : Int) < (ls.length : Int) := by omega
      have Hi := Lib.hid hi
      have Hin := Lib.hid hin
      have Hs := Lib.hid hs
      clear hi hin hs
      go_wp2
      clear y6
      go_roundw
      case rel => exact ⟨k + 1, _, hlt, rfl, by first | rfl | exact congrArg (Value.int .i64) hw1 | go_num, CK.out, C1.out⟩
      case measure => first | exact meas_n hlt | exact meas_m hw1 hlt
    · obtain rfl : k = ls.length := by omega
      have dlt : decide ((ls.length : Int) < (ls.length : Int)) = false := decide_eq_false (by omega)
      obtain ⟨nd, hnd⟩ : ∃ n, n = m.deps.n := ⟨_, rfl⟩
      rw [← hnd] at x5
      have Hnd := Lib.hid hnd
      clear hnd
      by_cases c1 : 40 < ls.length
      · have d1 : decide ((40 : Int) < (ls.length : Int)) = true := decide_eq_true (by omega)
        have C1 := Lib.hid c1
        clear c1
        go_wp2
        go_ret
        exact ⟨true, rfl, CK.out, fun h => by cases h⟩
      · have d1 : decide ((40 : Int) < (ls.length : Int)) = false := decide_eq_false (by omega)
        by_cases c2 : 200 < z
        · have d2 : decide (200 < z) = true := decide_eq_true c2
          have C1 := Lib.hid c1
          have C2 := Lib.hid c2
          clear c1 c2
          go_wp2
          go_ret
          exact ⟨true, rfl, CK.out, fun h => by cases h⟩
        · have d2 : decide (200 < z) = false := decide_eq_false c2
          by_cases c3 : 100 < nd
          · have d3 : decide ((100 : Int) < (nd : Int)) = true := decide_eq_true (by omega)
            have C1 := Lib.hid c1
            have C2 := Lib.hid c2
            have C3 := Lib.hid c3
            clear c1 c2 c3
            go_wp2
            go_ret
            exact ⟨true, rfl, CK.out, fun h => by cases h⟩
          · have d3 : decide ((100 : Int) < (nd : Int)) = false := decide_eq_false (by omega)
            have K1 := Lib.hid c1
            have K2 := Lib.hid c2
            have K3 := Lib.hid c3
            clear c1 c2 c3
            go_wp2
            go_ret
            exact ⟨false, rfl, CK.out, fun _ => ⟨Nat.le_of_not_lt K1.out, by rw [← Hnd.out]; exact Nat.le_of_not_lt K3.out⟩⟩
end Go.Proofs.YtkomocgodljecaaGreatDoor
