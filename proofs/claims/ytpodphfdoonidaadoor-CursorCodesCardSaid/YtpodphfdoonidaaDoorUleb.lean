/- leb.Uleb and leb.Sleb: the closures, and the two functions. -/
import Derived.Test.YtpodphfdoonidaaDoorGrp
namespace Go.Proofs.YtpodphfdoonidaaDoor
open Go.RowKit

theorem setCell_twice (w : World) (a : Addr) (u v : Value) : (w.setCell a u).setCell a v = w.setCell a v := by
  have h : ∀ (x : Array Obj), (x.modify a.block fun | .cells c elem frozen => .cells (if a.spot.isSome then c else c.setIfInBounds a.off u) elem frozen | o => o).modify a.block (fun | .cells c elem frozen => .cells (if a.spot.isSome then c else c.setIfInBounds a.off v) elem frozen | o => o)
      = x.modify a.block (fun | .cells c elem frozen => .cells (if a.spot.isSome then c else c.setIfInBounds a.off v) elem frozen | o => o) := by
    intro x
    apply Array.ext_getElem?
    intro i
    simp only [Array.getElem?_modify]
    split
    · cases x[i]? with
      | none => rfl
      | some o => cases o <;> simp; split <;> simp
    · rfl
  exact congrArg (fun hp => ({ w with heap := hp } : World)) (h w.heap)

def uOk (i x : Nat) : Bool := decide (i < 9) || decide (x ≤ 1)
def uStep (i x : Nat) (acc : Int) : Int := bits .or .u64 acc (IntKind.u64.wrap ((x : Int) * 2 ^ (7 * i)))
theorem uclos : Keeps 55 .u64 27 uOk uStep := by
  intro W nb i x acc hi hx h
  have h0 := cell_of_heap h 0
  have f0 := frozen_of_heap h 0
  simp at h0
  clear h
  have hr : ∀ c : Bool, c = uOk i x → Ending.returned (.bool c) = .returned (.bool (uOk i x)) := fun c h => by rw [h]
  by_cases h9 : i < 9
  · go_enter Tryd.func55, Tryd.ntmps55
    go_wp2
    go_region
    go_wp2
    go_ret
    exact ⟨hr _ (by simp [uOk]; omega), ((Dr.refl W).set _ _).drew⟩
  · have e9 : decide ((i : Int) < 9) = false := by simp; omega
    go_enter Tryd.func55, Tryd.ntmps55
    go_wp2
    go_region
    go_wp2
    go_ret
    exact ⟨hr _ (by simp [uOk, h9]; omega), ((Dr.refl W).set _ _).drew⟩

theorem and64 (x : Nat) (h : x < 128) : bits .and .u8 (x : Int) 64 = if x < 64 then 0 else 64 := by
  have := u8_and_nat x 64 (by omega) (by decide)
  rw [show ((64 : Nat) : Int) = 64 from rfl] at this
  rw [this, show (64 : Nat) = 2 ^ 6 from rfl, nat_bit]
  split <;> omega
def sOk (i x : Nat) : Bool := decide (i < 9) || x == 0 || x == 127
def sBase (i x : Nat) (acc : Int) : Int := bits .or .i64 (bits .and .i64 acc (wrap64 (wrap64 (2 ^ (7 * i)) - 1))) (wrap64 ((x : Int) * 2 ^ (7 * i)))
def sStep (i x : Nat) (acc : Int) : Int := if i < 9 ∧ 64 ≤ x then bits .or .i64 (sBase i x acc) (wrap64 (-2 ^ (7 * (i + 1)))) else sBase i x acc
section
variable (W : World) (nb i x : Nat) (acc : Int) (h : W.heap[nb]? = some (.cells #[.int .i64 acc] 2 (0, 0)))
include h
theorem sclos1 (hx : x < 64) (h9 : i < 9) : Calls Tryd.prog 56 #[.int .i64 i, .int .u8 x, .pointer (some ⟨nb, 0, none⟩)] W fun e w' => e = .returned (.bool true) ∧ Dr (W.setCell ⟨nb, 0, none⟩ (.int .i64 (bits .or .i64 (bits .and .i64 acc (wrap64 (wrap64 (2 ^ (7 * i)) - 1))) (wrap64 ((x : Int) * 2 ^ (7 * i)))))) w' := by
  have h0 := cell_of_heap h 0
  have f0 := frozen_of_heap h 0
  simp at h0
  have h64 := and64 x (by omega)
  rw [if_pos hx] at h64
  clear h
  go_enter Tryd.func56, Tryd.ntmps56
  go_wp2
  go_region
  go_wp2
  go_ret
  exact ⟨rfl, ((Dr.refl W).set _ _).drew⟩
theorem sclos2 (hx : x < 128) (hx2 : 64 ≤ x) (h9 : i < 9) (p : Nat) (hp : 7 * ((i : Int) + 1) = p) (hp2 : p < 64) : Calls Tryd.prog 56 #[.int .i64 i, .int .u8 x, .pointer (some ⟨nb, 0, none⟩)] W fun e w' => e = .returned (.bool true) ∧ ∃ B, (bits .or .i64 (bits .and .i64 acc (wrap64 (wrap64 (2 ^ (7 * i)) - 1))) (wrap64 ((x : Int) * 2 ^ (7 * i)))) = B ∧ Dr (W.setCell ⟨nb, 0, none⟩ (.int .i64 (bits .or .i64 B (wrap64 (-2 ^ p))))) w' := by
  have h0 := cell_of_heap h 0
  have f0 := frozen_of_heap h 0
  simp at h0
  have h64 := and64 x hx
  rw [if_neg (by omega)] at h64
  clear h
  go_enter Tryd.func56, Tryd.ntmps56
  go_wp2
  go_region
  go_wp2_with fail
  generalize hB : (bits .or .i64 (bits .and .i64 acc (wrap64 (wrap64 (2 ^ (7 * i)) - 1))) (wrap64 ((x : Int) * 2 ^ (7 * i)))) = B
  generalize hw2 : (W.setCell ⟨nb, 0, none⟩ (.int .i64 B)).drew = w2
  have c2 : w2.cell? ⟨nb, 0, none⟩ = some (.int .i64 B) := by rw [← hw2, World.cell?_drew]; exact World.cell?_setCell_same _ _ _ h0
  have f2 : w2.frozen? ⟨nb, 0, none⟩ = false := by rw [← hw2, World.frozen?_drew, World.frozen?_setCell]; exact f0
  have HW := Lib.hid hw2
  have HB := Lib.hid hB
  clear hw2 hB h0 f0
  go_region
  go_wp2
  go_ret
  refine ⟨rfl, B, HB.out, ?_⟩
  rw [← setCell_twice W ⟨nb, 0, none⟩ (.int .i64 B), ← HW.out]
  exact ((((Dr.refl W).set _ _).drew).set _ _).drew
end
theorem sclos3 (W : World) (nb x : Nat) (acc : Int) (h : W.heap[nb]? = some (.cells #[.int .i64 acc] 2 (0, 0))) (hx : x < 128) : Calls Tryd.prog 56 #[.int .i64 9, .int .u8 x, .pointer (some ⟨nb, 0, none⟩)] W fun e w' => e = .returned (.bool (x == 0 || x == 127)) ∧ Dr (W.setCell ⟨nb, 0, none⟩ (.int .i64 (bits .or .i64 (bits .and .i64 acc (wrap64 (wrap64 9223372036854775808 - 1))) (wrap64 ((x : Int) * 9223372036854775808))))) w' := by
  have h0 := cell_of_heap h 0
  have f0 := frozen_of_heap h 0
  simp at h0
  have h64 := and64 x hx
  clear h
  have hr : ∀ c : Bool, c = (x == 0 || x == 127) → Ending.returned (.bool c) = .returned (.bool (x == 0 || x == 127)) := fun c h => by rw [h]
  by_cases hx0 : x = 0
  · subst hx0
    rw [if_pos (by decide)] at h64
    rw [show wrap64 (((0 : Nat) : Int) * 9223372036854775808) = 0 from by decide +kernel]
    go_enter Tryd.func56, Tryd.ntmps56
    go_wp2
    go_region
    go_wp2
    go_ret
    exact ⟨rfl, ((Dr.refl W).set _ _).drew⟩
  · have e0 : ((x : Int) == 0) = false := by simp; omega
    have h64' : bits .and .u8 (x : Int) 64 = 0 ∨ bits .and .u8 (x : Int) 64 = 64 := by rw [h64]; split <;> simp
    clear h64
    by_cases hx1 : x = 127
    · have e1 : ((x : Int) == 127) = true := by simp; omega
      have HX := Lib.hid hx1
      clear hx1 hx0
      rcases h64' with h64 | h64
      all_goals
        go_enter Tryd.func56, Tryd.ntmps56
        go_wp2
        go_region
        go_wp2
        go_ret
        exact ⟨hr _ (by rw [HX.out]; rfl), ((Dr.refl W).set _ _).drew⟩
    · have e1 : ((x : Int) == 127) = false := by simp; omega
      have HX : Hid (x ≠ 0 ∧ x ≠ 127) := ⟨hx0, hx1⟩
      clear hx1 hx0
      rcases h64' with h64 | h64
      all_goals
        go_enter Tryd.func56, Tryd.ntmps56
        go_wp2
        go_region
        go_wp2
        go_ret
        exact ⟨hr _ (by have := HX.out; simp; omega), ((Dr.refl W).set _ _).drew⟩
theorem sclos : Keeps 56 .i64 2 sOk sStep := by
  intro W nb i x acc hi hx h
  by_cases h9 : i < 9
  · have hok : sOk i x = true := by simp [sOk, h9]
    rw [hok]
    by_cases hx64 : x < 64
    · have hs : sStep i x acc = sBase i x acc := by unfold sStep; rw [if_neg (by omega)]
      rw [hs]
      exact sclos1 W nb i x acc h hx64 h9
    · refine (sclos2 W nb i x acc h hx (by omega) h9 (7 * (i + 1)) (by push_cast; rfl) (by omega)).mono fun e w' ⟨he, B, hB, hd⟩ => ⟨he, ?_⟩
      have hs : sStep i x acc = bits .or .i64 B (wrap64 (-2 ^ (7 * (i + 1)))) := by unfold sStep; rw [if_pos ⟨h9, by omega⟩, ← hB]; rfl
      rw [hs]
      exact hd
  · obtain rfl : i = 9 := by omega
    have hok : sOk 9 x = (x == 0 || x == 127) := by simp [sOk]
    have hs : sStep 9 x acc = sBase 9 x acc := by unfold sStep; rw [if_neg (by omega)]
    rw [hok, hs]
    exact sclos3 W nb x acc h hx
end Go.Proofs.YtpodphfdoonidaaDoor
