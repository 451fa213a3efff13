/- format.old: what a link of the formats 2 and 6 says. -/
import Derived.Test.YtpnldfinobnpoaaGreatDoorFixS
namespace Go.Proofs.YtpnldfinobnpoaaGreatDoor
open Go.RowKit
set_option maxRecDepth 100000

/-- So many bits of a number, from one on. -/
def bt (n f m : Nat) : Nat := n / 2 ^ f % 2 ^ m
theorem bt_lt (n f m : Nat) : bt n f m < 2 ^ m := Nat.mod_lt _ (Nat.two_pow_pos m)
/-- A record Fmt. -/
structure Fmt where
  low : Int
  above : Bool
  nth : Int
def Fmt.cells (s : Fmt) : List Value := [.int .u64 s.low, .bool s.above, .int .i64 s.nth]
abbrev Fmt.v (s : Fmt) : Value := .agg #[.int .u64 s.low, .bool s.above, .int .i64 s.nth]
def Fmt.zero : Fmt := ⟨0, false, 0⟩
def fmtL : Lay Fmt := ⟨3, Fmt.cells, Fmt.zero, fun _ => rfl, by decide, fun x u hu => by
  simp only [Fmt.cells, List.mem_cons, List.not_mem_nil, or_false] at hu
  rcases hu with rfl | rfl | rfl <;> rfl⟩
theorem Fmt.at {w : World} {b o : Nat} {s : Fmt} (h : fmtL.In w b o s) : w.cell? ⟨b, o, none⟩ = some (.int .u64 s.low) ∧ w.cell? ⟨b, o + 1, none⟩ = some (.bool s.above) ∧ w.cell? ⟨b, o + 2, none⟩ = some (.int .i64 s.nth) :=
  ⟨h 0 (by decide), h 1 (by decide), h 2 (by decide)⟩
theorem Fmt.at0 {w : World} {b : Nat} {s : Fmt} (h : fmtL.In w b 0 s) : w.cell? ⟨b, 0, none⟩ = some (.int .u64 s.low) ∧ w.cell? ⟨b, 1, none⟩ = some (.bool s.above) ∧ w.cell? ⟨b, 2, none⟩ = some (.int .i64 s.nth) := by
  obtain ⟨h0, h1, h2⟩ := Fmt.at h
  simp only [Nat.zero_add] at h1 h2
  exact ⟨h0, h1, h2⟩
theorem Fmt.boxed (w : World) (s : Fmt) (T : TypeId) : fmtL.In (w.alloc (.cells #[.int .u64 s.low, .bool s.above, .int .i64 s.nth] T)) w.heap.size 0 s := fun c _ => by
  rw [cell_of_heap (heap_alloc_eq w _), Nat.zero_add]
  exact List.getElem?_toArray ..
/-- A record in a block of its own: made, written, a field written. -/
theorem Fmt.box (w : World) (s : Fmt) (T : TypeId) : fmtL.Box (w.alloc (.cells #[.int .u64 s.low, .bool s.above, .int .i64 s.nth] T)) w.heap.size s := Lay.Box.of_alloc (L := fmtL) w s T
theorem Fmt.boxAt (w : World) (s : Fmt) (T : TypeId) {b : Nat} (hb : b = w.heap.size) : fmtL.Box (w.alloc (.cells #[.int .u64 s.low, .bool s.above, .int .i64 s.nth] T)) b s := by rw [hb]; exact Fmt.box w s T
theorem Fmt.put0 {w : World} {g : Nat} {y : Fmt} (h : fmtL.Box w g y) (s : Fmt) : fmtL.Box (((w.setCell ⟨g, 0, none⟩ (.int .u64 s.low)).setCell ⟨g, 1, none⟩ (.bool s.above)).setCell ⟨g, 2, none⟩ (.int .i64 s.nth)) g s := Lay.Box.put h s
theorem Fmt.chg0 (w : World) (g : Nat) (s : Fmt) : Chg [g] w (((w.setCell ⟨g, 0, none⟩ (.int .u64 s.low)).setCell ⟨g, 1, none⟩ (.bool s.above)).setCell ⟨g, 2, none⟩ (.int .i64 s.nth)) := Lay.setW_chg g s.cells w 0
theorem Fmt.set_low {w : World} {g : Nat} {s : Fmt} (h : fmtL.Box w g s) (x : Int) : fmtL.Box (w.setCell ⟨g, 0, none⟩ (.int .u64 x)) g { s with low := x } := Lay.Box.set h 0 _ _ rfl
theorem Fmt.set_above {w : World} {g : Nat} {s : Fmt} (h : fmtL.Box w g s) (x : Bool) : fmtL.Box (w.setCell ⟨g, 1, none⟩ (.bool x)) g { s with above := x } := Lay.Box.set h 1 _ _ rfl
theorem Fmt.set_nth {w : World} {g : Nat} {s : Fmt} (h : fmtL.Box w g s) (x : Int) : fmtL.Box (w.setCell ⟨g, 2, none⟩ (.int .i64 x)) g { s with nth := x } := Lay.Box.set h 2 _ _ rfl
theorem Fmt.at0B {w : World} {b : Nat} {s : Fmt} (h : fmtL.Box w b s) : w.cell? ⟨b, 0, none⟩ = some (.int .u64 s.low) ∧ w.cell? ⟨b, 1, none⟩ = some (.bool s.above) ∧ w.cell? ⟨b, 2, none⟩ = some (.int .i64 s.nth) := Fmt.at0 h.in
def oldS (low : Nat) (above : Bool) (nth : Nat) (n : Nat) : Say :=
  if bt n 63 1 = 1 then ⟨true, bt n 0 nth, bt n 24 8, 0, 0, bt n 51 12⟩
  else ⟨false, 0, 0, ((if above then (bt n 0 36 + low) % 18446744073709551616 else bt n 0 36 : Nat) : Int), bt n 36 8, bt n 51 12⟩
set_option maxHeartbeats 4000000 in
theorem old_any (n : Nat) (hn : n < 18446744073709551616) (low : Nat) (above : Bool) (nth : Nat) (hnth : nth ≤ 63) (w : World) :
    Calls Tryz.prog 96 #[Fmt.v ⟨low, above, nth⟩, .int .u64 n] w fun e w' => e = .returned (oldS low above nth n).v ∧ Chg [] w w' := by
  have H51 : Hid (∀ w, Calls Tryz.prog 16 #[.int .u64 (n : Int), .int .i64 51, .int .i64 12] w fun e w' => e = .returned (.int .u64 (bt n 51 12 : Int)) ∧ Dr w w') := Lib.hid (fun w => bits_any n 51 12 hn (by decide) (by decide) w)
  have H63 : Hid (∀ w, Calls Tryz.prog 16 #[.int .u64 (n : Int), .int .i64 63, .int .i64 1] w fun e w' => e = .returned (.int .u64 (bt n 63 1 : Int)) ∧ Dr w w') := Lib.hid (fun w => bits_any n 63 1 hn (by decide) (by decide) w)
  have H24 : Hid (∀ w, Calls Tryz.prog 16 #[.int .u64 (n : Int), .int .i64 24, .int .i64 8] w fun e w' => e = .returned (.int .u64 (bt n 24 8 : Int)) ∧ Dr w w') := Lib.hid (fun w => bits_any n 24 8 hn (by decide) (by decide) w)
  have H0 : Hid (∀ w, Calls Tryz.prog 16 #[.int .u64 (n : Int), .int .i64 0, .int .i64 36] w fun e w' => e = .returned (.int .u64 (bt n 0 36 : Int)) ∧ Dr w w') := Lib.hid (fun w => bits_any n 0 36 hn (by decide) (by decide) w)
  have H36 : Hid (∀ w, Calls Tryz.prog 16 #[.int .u64 (n : Int), .int .i64 36, .int .i64 8] w fun e w' => e = .returned (.int .u64 (bt n 36 8 : Int)) ∧ Dr w w') := Lib.hid (fun w => bits_any n 36 8 hn (by decide) (by decide) w)
  have HN : Hid (∀ w, Calls Tryz.prog 16 #[.int .u64 (n : Int), .int .i64 0, .int .i64 nth] w fun e w' => e = .returned (.int .u64 (bt n 0 nth : Int)) ∧ Dr w w') := Lib.hid (fun w => bits_any n 0 nth hn (by decide) hnth w)
  have w51 : wrap64 (bt n 51 12 : Int) = (bt n 51 12 : Int) := by have := bt_lt n 51 12; unfold wrap64; omega
  have w24 : wrap64 (bt n 24 8 : Int) = (bt n 24 8 : Int) := by have := bt_lt n 24 8; unfold wrap64; omega
  have hlt := bt_lt n 0 36
  unfold oldS
  generalize bt n 51 12 = A at *
  generalize bt n 63 1 = T at *
  generalize bt n 24 8 = D at *
  generalize bt n 0 36 = E at *
  generalize bt n 36 8 = F at *
  generalize bt n 0 nth = C at *
  clear hn hnth
  by_cases hT : T = 1
  · subst hT
    rw [if_pos rfl]
    show Calls _ _ #[.agg #[.int .u64 (low : Int), .bool above, .int .i64 (nth : Int)], _] w _
    go_enter Tryz.func96, Tryz.ntmps96
    go_wp2_with fail
    refine ((H51).out _).mono ?_
    rintro e w' ⟨rfl, hdr⟩
    obtain ⟨k1, rfl⟩ := hdr.ex
    clear hdr
    go_wp2_with fail
    refine ((H63).out _).mono ?_
    rintro e w' ⟨rfl, hdr⟩
    obtain ⟨k2, rfl⟩ := hdr.ex
    clear hdr
    go_wp2_with fail
    refine ((HN).out _).mono ?_
    rintro e w' ⟨rfl, hdr⟩
    obtain ⟨k3, rfl⟩ := hdr.ex
    clear hdr
    go_wp2_with fail
    refine ((H24).out _).mono ?_
    rintro e w' ⟨rfl, hdr⟩
    obtain ⟨k4, rfl⟩ := hdr.ex
    clear hdr
    go_wp2
    refine bodyPost_ret (v := (Say.v ⟨true, C, D, 0, 0, A⟩)) (by simp [results, Tryz.results96, go_sem]) rfl ?_
    refine ⟨rfl, ?_⟩
    repeat' (first | with_reducible exact Chg.refl _ _ | with_reducible refine Chg.drewN ?_ _ | with_reducible refine Chg.drew ?_ | with_reducible refine Chg.alloc ?_ _ | with_reducible refine Chg.setCell ?_ _ _ (.inr ?_))
    all_goals ((try dsimp only); omega)
  · rw [if_neg hT]
    have dT : ((T : Int) == 1) = false := by simp; omega
    have hF : ((F : Nat) : Int) = F := rfl
    clear hT hF
    show Calls _ _ #[.agg #[.int .u64 (low : Int), .bool above, .int .i64 (nth : Int)], _] w _
    cases above with
    | false =>
      clear hlt
      go_enter Tryz.func96, Tryz.ntmps96
      go_wp2_with fail
      refine ((H51).out _).mono ?_
      rintro e w' ⟨rfl, hdr⟩
      obtain ⟨k1, rfl⟩ := hdr.ex
      clear hdr
      go_wp2_with fail
      refine ((H63).out _).mono ?_
      rintro e w' ⟨rfl, hdr⟩
      obtain ⟨k2, rfl⟩ := hdr.ex
      clear hdr
      go_wp2_with fail
      refine ((H0).out _).mono ?_
      rintro e w' ⟨rfl, hdr⟩
      obtain ⟨k3, rfl⟩ := hdr.ex
      clear hdr
      go_wp2_with fail
      refine ((H36).out _).mono ?_
      rintro e w' ⟨rfl, hdr⟩
      obtain ⟨k4, rfl⟩ := hdr.ex
      clear hdr
      go_wp2
      refine bodyPost_ret (v := (Say.v ⟨false, 0, 0, E, F, A⟩)) (by simp [results, Tryz.results96, go_sem]) rfl ?_
      refine ⟨rfl, ?_⟩
      repeat' (first | with_reducible exact Chg.refl _ _ | with_reducible refine Chg.drewN ?_ _ | with_reducible refine Chg.drew ?_ | with_reducible refine Chg.alloc ?_ _ | with_reducible refine Chg.setCell ?_ _ _ (.inr ?_))
      all_goals ((try dsimp only); omega)
    | true =>
      have wE : IntKind.u64.wrap ((E : Int) + (low : Int)) = (((E + low) % 18446744073709551616 : Nat) : Int) := by rw [IntKind.wrap_u64]; omega
      simp only [if_true]
      generalize (E + low) % 18446744073709551616 = G at *
      clear hlt
      go_enter Tryz.func96, Tryz.ntmps96
      go_wp2_with fail
      refine ((H51).out _).mono ?_
      rintro e w' ⟨rfl, hdr⟩
      obtain ⟨k1, rfl⟩ := hdr.ex
      clear hdr
      go_wp2_with fail
      refine ((H63).out _).mono ?_
      rintro e w' ⟨rfl, hdr⟩
      obtain ⟨k2, rfl⟩ := hdr.ex
      clear hdr
      go_wp2_with fail
      refine ((H0).out _).mono ?_
      rintro e w' ⟨rfl, hdr⟩
      obtain ⟨k3, rfl⟩ := hdr.ex
      clear hdr
      go_wp2_with fail
      refine ((H36).out _).mono ?_
      rintro e w' ⟨rfl, hdr⟩
      obtain ⟨k4, rfl⟩ := hdr.ex
      clear hdr
      go_upto_region 8 with fail
      refine Lay.with_world (fun W => sayL.Box W (w.heap.size + 1 + 1) ⟨false, 0, 0, G, F, A⟩ ∧ sayL.Box W (w.heap.size + 1) ⟨false, 0, 0, 0, 0, 0⟩ ∧ Chg [] w W) ⟨?_, ?_, ?_⟩ (fun W hW => ?_)
      · refine Say.set_tgt (Say.set_high (Say.set_tgt (Lay.Box.drewN (Say.boxAt _ ⟨false, 0, 0, 0, 0, A⟩ _ ?_) _) E) F) G
        simp
      · repeat' (first | with_reducible exact Say.boxAt _ ⟨false, 0, 0, 0, 0, 0⟩ _ (by simp) | with_reducible refine Lay.Box.drewN ?_ _ | with_reducible refine Lay.Box.drew ?_ | with_reducible refine Lay.Box.alloc ?_ _ | with_reducible refine Lay.Box.setCell ?_ _ _ ?_)
        all_goals ((try dsimp only); omega)
      · repeat' (first | with_reducible exact Chg.refl _ _ | with_reducible refine Chg.drewN ?_ _ | with_reducible refine Chg.drew ?_ | with_reducible refine Chg.alloc ?_ _ | with_reducible refine Chg.setCell ?_ _ _ (.inr ?_))
        all_goals ((try dsimp only); omega)
      obtain ⟨hx, hy, hc⟩ := hW
      obtain ⟨x0, x1, x2, x3, x4, x5⟩ := Say.at0B hx
      obtain ⟨y0, y1, y2, y3, y4, y5⟩ := Say.at0B hy
      have z0 := hy.frozen 0
      have z1 := hy.frozen 1
      have z2 := hy.frozen 2
      have z3 := hy.frozen 3
      have z4 := hy.frozen 4
      have z5 := hy.frozen 5
      have Hc := Lib.hid hc
      have Hx := Lib.hid hx
      have Hy := Lib.hid hy
      clear hc hx hy
      go_wp2
      refine Lay.with_post (fun W => sayL.Box W (w.heap.size + 1) ⟨false, 0, 0, G, F, A⟩ ∧ Chg [] w W) ⟨Say.put0 (g := w.heap.size + 1) Hy.out ⟨false, 0, 0, G, F, A⟩, Hc.out.new (Say.chg0 _ (w.heap.size + 1) ⟨false, 0, 0, G, F, A⟩) (by omega)⟩ (fun W hW => ?_)
      obtain ⟨g0, g1, g2, g3, g4, g5⟩ := Say.at0B hW.1
      refine bodyPost_ret (v := (Say.v ⟨false, 0, 0, G, F, A⟩)) (by simp [results, Tryz.results96, go_sem, g0, g1, g2, g3, g4, g5]) rfl ?_
      exact ⟨rfl, hW.2⟩
end Go.Proofs.YtpnldfinobnpoaaGreatDoor
