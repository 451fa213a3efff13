/- Lemmas, laid together: part 28 of 42. Conditions: none but each lemma's own. -/
import Derived.Test.YtiljokmkiolpgaaGreatDoorJ27
import Derived.Test.YtiljokmkiolpgaaGreatDoorJ1
namespace Go.Proofs.YtiljokmkiolpgaaGreatDoor
open Go.RowKit
set_option maxRecDepth 100000
set_option maxHeartbeats 2000000 in
theorem Get15_yes (B : List UInt8) (hB : B.length ≤ 140737488355328) (v : Value) (w : World) (rd : byteL.Rd w v B) (q m : Nat) (hm : m = 2 ∨ m = 4 ∨ m = 8) (hq : q + m ≤ B.length) :
  Calls Tryz.prog 95 #[v, .int .u64 q, .int .i64 m] w fun e w' => e = .returned (.tuple #[.int .u64 (WN B q m), .bool true]) ∧ Chg [] w w' := by
 obtain ⟨a, cap, rfl, h1, h2⟩ := rd.shape
 have hne : B.length ≠ 0 := by omega
 obtain ⟨d, off, rfl, hd, hcell⟩ := rd.at hne
 have hbc := fun j hj => byte_cell rd j hj
 have d1 : decide ((B.length : Int) < (q : Int)) = false := decide_eq_false (by omega)
 have d2 : decide ((B.length : Int) - (q : Int) < (m : Int)) = false := decide_eq_false (by omega)
 have hwu : IntKind.u64.wrap ((B.length : Int)) = (B.length : Int) := by rw [IntKind.wrap_u64]; omega
 have hws : IntKind.u64.wrap ((B.length : Int) - (q : Int)) = (B.length : Int) - q := by rw [IntKind.wrap_u64]; omega
 have hwm : IntKind.u64.wrap ((m : Int)) = (m : Int) := by rw [IntKind.wrap_u64]; omega
 have hwi2 : wrap64 (q : Int) = (q : Int) := by unfold wrap64; omega
 have hll : ((B.drop q).take m).length = m := by rw [List.length_take, List.length_drop]; omega
 have HN := hY (fun b W h hbd hl => RNumber_at b d off B.length cap q m ((B.drop q).take m) W h hB h1 h2 hm hq hbd hll hl)
 have HC : Hid (∀ W, Chg [] w W → ∀ j, j < m → W.cell? ⟨d, off + q + j, none⟩ = some (.int .u8 (((B.drop q).take m).getD j 0).toNat)) := by
  refine hY ?_
  intro W hW j hj
  refine hW.cell ?_ (by simp)
  rw [Nat.add_assoc, hbc (q + j) (by omega)]
  simp [List.getD_eq_getElem?_getD, hj]
 have Hcell := hY hcell
 have Hbc := hY hbc
 have Hll := hY hll
 have HB := hY hB
 have Rd := hY rd
 have Hd := hY hd
 have Hm := hY hm
 clear hcell hbc hll hB rd hd hm
 go_enter Tryz.func95, Tryz.ntmps95
 go_wp2_with fail
 obtain ⟨w1, hw1⟩ : ∃ x, x = w.alloc (.cells #[.slice (some ⟨d, off, none⟩) B.length cap, .int .i64 (q : Nat), .bool false, .bool false] 133) := ⟨_, rfl⟩
 obtain ⟨c, hc⟩ : ∃ x, x = w.heap.size := ⟨_, rfl⟩
 have HBK : Hid (w1.heap[c]? = some (.cells #[.slice (some ⟨d, off, none⟩) B.length cap, .int .i64 (q : Nat), .bool false, .bool false] 133 (0, 0))) := hY (by rw [hw1, hc]; exact heap_alloc_eq _ _)
 have HC1 : Hid (Chg [] w w1) := hY (by rw [hw1]; exact (Chg.refl _ _).alloc _)
 have HS : Hid (w.heap.size ≤ c) := hY (Nat.le_of_eq hc.symm)
 have hdc : d ≠ c := by have := Hd.out; omega
 rw [← hc, ← hw1]
 clear hc hw1
 refine (HN.out c w1 HBK.out hdc (HC.out w1 HC1.out)).mono ?_
 rintro e w2 ⟨rfl, hch⟩
 have HC2 := hY (HC1.out.new hch HS.out)
 clear hch
 go_wp2
 go_ret2
 exact ⟨rfl, HC2.out⟩
set_option maxHeartbeats 2000000 in
theorem Get15_no (B : List UInt8) (hB : B.length ≤ 140737488355328) (v : Value) (w : World) (rd : byteL.Rd w v B) (q m : Nat) (hm : m = 2 ∨ m = 4 ∨ m = 8) (hq2 : q < 18446744073709551616) (hq : B.length < q + m) :
  Calls Tryz.prog 95 #[v, .int .u64 q, .int .i64 m] w fun e w' => e = .returned (.tuple #[.int .u64 0, .bool false]) ∧ Chg [] w w' := by
 obtain ⟨a, cap, rfl, h1, h2⟩ := rd.shape
 have hwu : IntKind.u64.wrap ((B.length : Int)) = (B.length : Int) := by rw [IntKind.wrap_u64]; omega
 have hwm : IntKind.u64.wrap ((m : Int)) = (m : Int) := by rw [IntKind.wrap_u64]; omega
 by_cases h : B.length < q
 ·have d1 : decide ((B.length : Int) < (q : Int)) = true := decide_eq_true (by omega)
  have HB := hY hB
  have Rd := hY rd
  have Hq2 := hY hq2
  have Hq := hY hq
  have Hm := hY hm
  clear hB rd hq2 hq hm
  go_enter Tryz.func95, Tryz.ntmps95
  go_wp2
  go_ret2
  exact ⟨rfl, Chg.refl _ _⟩
 ·have d1 : decide ((B.length : Int) < (q : Int)) = false := decide_eq_false (by omega)
  have d2 : decide ((B.length : Int) - (q : Int) < (m : Int)) = true := decide_eq_true (by omega)
  have hws : IntKind.u64.wrap ((B.length : Int) - (q : Int)) = (B.length : Int) - q := by rw [IntKind.wrap_u64]; omega
  have HB := hY hB
  have Rd := hY rd
  have Hq2 := hY hq2
  have Hq := hY hq
  have Hm := hY hm
  clear hB rd hq2 hq hm
  go_enter Tryz.func95, Tryz.ntmps95
  go_wp2
  go_ret2
  exact ⟨rfl, Chg.refl _ _⟩
theorem get15_any (B : List UInt8) (hB : B.length ≤ 140737488355328) (v : Value) (w : World) (rd : byteL.Rd w v B) (q m : Nat) (hm : m = 2 ∨ m = 4 ∨ m = 8) (hq : q + m ≤ B.length) :
  Calls Tryz.prog 57 #[v, .int .u64 q, .int .i64 m] w fun e w' => e = .returned (.int .u64 (WN B q m)) ∧ Chg [] w w' := by
 have HG := hY (Get15_yes B hB v w rd q m hm hq)
 have Rd := hY rd
 have Hm := hY hm
 have HB := hY hB
 clear rd hm hB
 go_enter Tryz.func57, Tryz.ntmps57
 go_wp2_with fail
 refine (HG.out).mono ?_
 rintro e W ⟨rfl, hc⟩
 have Hc := hY hc
 clear hc
 go_wp2
 go_ret
 exact ⟨rfl, Hc.out⟩
end Go.Proofs.YtiljokmkiolpgaaGreatDoor
