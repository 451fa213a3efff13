/- slices.Concat, IndexFunc, DeleteFunc of fixups. -/
import Derived.Test.YtgmlcmmphhmogaaDm2
namespace Go.Proofs.Ytgmlcmmphhmogaa
open Go.RowKit
set_option maxRecDepth 100000

def slL : Lay SlV := ⟨1, fun s => [.slice s.a s.n s.cap], ⟨none, 0, 0⟩, fun _ => rfl, by decide, fun x u hu => by
  simp only [List.mem_singleton] at hu
  subst hu
  rfl⟩
theorem take_sum (ms : List (List Fx)) (k : Nat) (h : k < ms.length) : ((ms.take (k + 1)).flatten).length = ((ms.take k).flatten).length + (ms.getD k []).length := by
  rw [List.take_add_one, List.flatten_append, List.length_append]
  simp [List.getD_eq_getElem?_getD, h]
theorem take_flat (ms : List (List Fx)) (k : Nat) (h : k < ms.length) : (ms.take (k + 1)).flatten = (ms.take k).flatten ++ ms.getD k [] := by
  rw [List.take_add_one, List.flatten_append]
  simp [List.getD_eq_getElem?_getD, h]
theorem flat_le (ms : List (List Fx)) (k : Nat) : ((ms.take k).flatten).length ≤ (ms.flatten).length := by
  have : ms.flatten = (ms.take k).flatten ++ (ms.drop k).flatten := by rw [← List.flatten_append, List.take_append_drop]
  rw [this, List.length_append]
  omega
set_option maxHeartbeats 2000000 in
theorem concat_any (ss : List SlV) (ms : List (List Fx)) (v : Value) (w : World) (rd : slL.Rd w v ss) (hl : ss.length = ms.length) (_hn : ms.length ≤ 100) (hr : ∀ j, j < ms.length → fxl.Rd w (ss.getD j ⟨none, 0, 0⟩).v (ms.getD j [])) (ht : ms.flatten.length ≤ 100000) :
    Calls Try.prog 7 #[v] w fun e w' => ∃ v', e = .returned v' ∧ FB w' w.heap.size v' ms.flatten ∧ Chg [] w w' := by
  obtain ⟨a, cap, rfl, hc1, hc2⟩ := rd.shape
  rw [hl] at hc1 ⊢
  have hfl := flat_le ms
  have HCL : Hid (∀ W, Chg [] w W → ∀ k, k < ms.length → ∃ b off, a = some ⟨b, off, none⟩ ∧ W.cell? ⟨b, off + k, none⟩ = some (ss.getD k ⟨none, 0, 0⟩).v) := by
    refine Lib.hid ?_
    intro W hW k hk
    obtain ⟨b, off, e, _, hcell⟩ := rd.at (by omega)
    have := hcell k (by omega) 0 (by decide)
    rw [show slL.n = 1 from rfl, Nat.mul_one, Nat.add_zero] at this
    exact ⟨b, off, e, hW.cell this (by simp)⟩
  have Rd := Lib.hid rd
  have Hr := Lib.hid hr
  have Hl := Lib.hid hl
  clear rd hr hl
  go_enter Try.func7, Try.ntmps7
  go_wp2_with fail
  go_loopw [3, 11] (fun s3 s11 wr => ∃ k : Nat, k ≤ ms.length ∧ s11 = .int .i64 (k : Int) ∧ s3 = .int .i64 (((ms.take k).flatten.length : Nat) : Int) ∧ wr = w) (fun _ s11 _ => ms.length - (intOf s11).toNat)
  case atStart => exact ⟨0, Nat.zero_le _, rfl, rfl, rfl⟩
  case round =>
    obtain ⟨k, hk, rfl, rfl, rfl⟩ := hrel
    by_cases hlt : k < ms.length
    · obtain ⟨b, off, rfl, hcell⟩ := HCL.out wr (Chg.refl _ _) k hlt
      obtain ⟨ak, ck, hv, hk1, hk2⟩ := (Hr.out k hlt).shape
      have hts := take_sum ms k hlt
      have hle := hfl (k + 1)
      rw [hv] at hcell
      obtain ⟨A, hA⟩ : ∃ A, A = ((ms.take k).flatten).length := ⟨_, rfl⟩
      obtain ⟨B, hB⟩ : ∃ B, B = (ms.getD k []).length := ⟨_, rfl⟩
      obtain ⟨C, hC⟩ : ∃ C, C = ((ms.take (k + 1)).flatten).length := ⟨_, rfl⟩
      rw [← hA, ← hB, ← hC] at hts
      rw [← hC] at hle
      rw [← hB] at hcell
      rw [← hA]
      have d0 : decide ((A : Int) + (B : Int) < 0) = false := by simp; omega
      have HA := Lib.hid hA
      have HB := Lib.hid hB
      have HC := Lib.hid hC
      have Hv := Lib.hid hv
      clear hA hB hC hv
      go_wp2
      go_roundw
      case rel => exact ⟨k + 1, hlt, by go_num, by rw [← HC.out, hts]; go_num, trivial⟩
      case measure => simp [intOf]; omega
    · obtain rfl : k = ms.length := by omega
      rw [List.take_length]
      obtain ⟨w0, rfl⟩ : ∃ x, x = wr := ⟨_, rfl⟩
      obtain ⟨N, hN⟩ : ∃ N, N = ms.flatten.length := ⟨_, rfl⟩
      have ht2 := ht
      rw [← hN] at ht ⊢
      have HN := Lib.hid hN
      clear hN
      go_wp2_with fail
      refine (grow_nil N ht _).mono ?_
      rintro e w1 ⟨v1, rfl, hb, hc⟩
      have B1 := Lib.hid (hb)
      have C1 := Lib.hid (hc)
      clear hb hc
      go_wp2_with fail
      go_loopw [6, 27] (fun s6 s27 wr => ∃ k : Nat, k ≤ ms.length ∧ s27 = .int .i64 (k : Int) ∧ FB wr w0.heap.size s6 ((ms.take k).flatten) ∧ Chg [] w0 wr) (fun _ s27 _ => ms.length - (intOf s27).toNat)
      case atStart => exact ⟨0, Nat.zero_le _, rfl, B1.out, C1.out⟩
      case round =>
        obtain ⟨k, hk, rfl, hu, hch⟩ := hrel
        by_cases hlt : k < ms.length
        · obtain ⟨b, off, rfl, hcell⟩ := HCL.out wr hch k hlt
          obtain ⟨ak, ck, hv, hk1, hk2⟩ := (Hr.out k hlt).shape
          have hts := take_sum ms k hlt
          have hle := hfl (k + 1)
          have RK := Lib.hid ((Hr.out k hlt).frame hch)
          rw [hv] at hcell RK
          have TF := Lib.hid (take_flat ms k hlt)
          generalize ms.getD k [] = m at *
          have U := Lib.hid hu
          have HC := Lib.hid hch
          have Hv := Lib.hid hv
          clear hu hch hv
          go_wp2_with (at_builtin; refine Lay.app (L := fxl) Try.infoFxL rfl _ _ rfl w0.heap.size u6 ((ms.take k).flatten) rfl U.out _ rfl m RK.out (by omega) (by omega) HC.out.size ?_; intro v' wb hov hgv hlc; refine Hid.out ?_)
          refine Lib.hid ?_
          have C2 := Lib.hid (HC.out.trans (Lay.chg_grown hgv) (fun i hi hw => by have := (U.out.lt i (by simpa using hi)).1; omega))
          rw [← TF.out] at hov
          have Hov := Lib.hid hov
          clear hov
          clear hgv hlc
          go_wp2
          go_roundw
          case rel => exact ⟨k + 1, hlt, by go_num, Hov.out, C2.out⟩
          case measure => simp [intOf]; omega
        · obtain rfl : k = ms.length := by omega
          rw [List.take_length] at hu
          have Hu := Lib.hid hu
          have Hch := Lib.hid hch
          clear hu hch
          go_wp2
          go_ret
          exact ⟨_, rfl, Hu.out, Hch.out⟩
end Go.Proofs.Ytgmlcmmphhmogaa
