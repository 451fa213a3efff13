/- Lemmas, laid together: part 40 of 42. Conditions: none but each lemma's own. -/
import Derived.Test.YtiljokmkiolpgaaGreatDoorJ19
import Derived.Test.YtiljokmkiolpgaaGreatDoorJ26
import Derived.Test.YtiljokmkiolpgaaGreatDoorJ4
import Derived.Test.YtiljokmkiolpgaaGreatDoorJ1
namespace Go.Proofs.YtiljokmkiolpgaaGreatDoor
open Go.RowKit
set_option maxRecDepth 100000
theorem Get_any (l : List UInt8) (a : Option Addr) (cap p : Nat) (w : World) (rd : Rd w (.slice a l.length cap) (bytesV l)) (hp : p + 4 ≤ l.length) :
  Calls Tryz.prog 36 #[.slice a l.length cap, .int .i64 p] w fun e w' => e = .returned (.int .i64 (leNum ((l.drop p).take 4) : Nat)) ∧ Chg [] w w' := by
 obtain ⟨a', n, cap', he, hn, h1, h2, h3⟩ := rd
 cases he
 have hne : bytesV l ≠ [] := by
  intro e
  have := congrArg List.length e
  rw [bytesV_length] at this
  have h0 : l.length = 0 := this
  omega
 obtain ⟨b, off, rfl, hcell⟩ := h3 hne
 have hb : b < w.heap.size := by
  have h0 := hcell 0 (by rw [bytesV_length]; omega)
  rw [bytesV_get l 0 (by omega)] at h0
  exact World.block_lt_of_cell? w _ h0
 clear hne
 have HL : Hid (((l.drop p).take 4).length = 4) := hY (by simp; omega)
 have HC : Hid (∀ W, Chg [] w W → ∀ j, j < 4 → W.cell? ⟨b, off + p + j, none⟩ = some (.int .u8 (((l.drop p).take 4).getD j 0).toNat)) := by
  refine hY ?_
  intro W hW j hj
  refine hW.cell ?_ (by simp)
  rw [Nat.add_assoc, hcell (p + j) (by rw [bytesV_length]; omega), bytesV_get l _ (by omega)]
  simp [List.getD_eq_getElem?_getD, hj]
 unfold maxLen at h2
 obtain ⟨K, hK⟩ : ∃ K, K = leNum ((l.drop p).take 4) := ⟨_, rfl⟩
 have HK : Hid (numOf false ((l.drop p).take 4) = K) := hY (hK.symm)
 have hK4 : K < 4294967296 := by rw [hK]; exact leNum4_lt l p
 rw [← hK]
 have hwr : IntKind.i64.wrap (K : Int) = (K : Int) := by rw [IntKind.wrap_i64]; omega
 have hwp : wrap64 ((p : Int) + 4) = (p : Int) + 4 := by unfold wrap64; omega
 clear hcell hn h3 hK hK4
 go_enter Tryz.func36, Tryz.ntmps36
 go_wp2_with fail
 obtain ⟨w1, hw1⟩ : ∃ q, q = w.alloc (.cells #[.slice (some ⟨b, off + p, none⟩) 4 (cap - p), .int .i64 0, .bool false, .bool false] 133) := ⟨_, rfl⟩
 obtain ⟨c, hc⟩ : ∃ q, q = w.heap.size := ⟨_, rfl⟩
 have HB : Hid (w1.heap[c]? = some (.cells #[.slice (some ⟨b, off + p, none⟩) 4 (cap - p), .int .i64 0, .bool false, .bool false] 133 (0, 0))) := hY (by rw [hw1, hc]; exact heap_alloc_eq _ _)
 have HC1 : Hid (Chg [] w w1) := hY (by rw [hw1]; exact (Chg.refl _ _).alloc _)
 have HS : Hid (w.heap.size ≤ c) := hY (Nat.le_of_eq hc.symm)
 rw [← hc] at hb
 rw [← hc, ← hw1]
 clear hc hw1
 refine (RNumber_some c b (off + p) 4 (cap - p) 4 false ((l.drop p).take 4) w1 HB.out (by omega) (by omega) (by omega) (.inl rfl) (by omega) (by omega) HL.out (HC.out w1 HC1.out)).mono ?_
 rintro e w2 ⟨rfl, hch⟩
 rw [HK.out]
 have HC2 := hY (HC1.out.new hch HS.out)
 clear hch
 go_wp2
 go_ret
 exact ⟨rfl, HC2.out⟩
end Go.Proofs.YtiljokmkiolpgaaGreatDoor
