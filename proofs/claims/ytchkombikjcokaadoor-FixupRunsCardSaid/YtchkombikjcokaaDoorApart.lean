/- fat.apart, walked. -/
import Derived.Test.YtchkombikjcokaaDoorEntF
namespace Go.Proofs.YtchkombikjcokaaDoor
open Go.RowKit
set_option maxRecDepth 100000

def meetS (a b : SL) : Bool := meetN a.off a.size b.off b.size
def anyI (p : SL → SL → Bool) (ls : List SL) (i : Nat) : Bool := (ls.take i).any (p (ls.getD i .zero))
def anyK (p : SL → SL → Bool) (ls : List SL) (k : Nat) : Bool := (List.range k).any (anyI p ls)
theorem anyK_succ (p : SL → SL → Bool) (ls : List SL) (k : Nat) : anyK p ls (k + 1) = (anyK p ls k || anyI p ls k) := by simp [anyK, List.range_succ]
theorem take_any (q : SL → Bool) (ls : List SL) (j : Nat) (h : j < ls.length) : (ls.take (j + 1)).any q = ((ls.take j).any q || q (ls.getD j .zero)) := by
  rw [List.take_succ_eq_append_getElem h, List.any_append]
  simp [List.getD_eq_getElem?_getD, h]
theorem take_any_mono {q : SL → Bool} {ls : List SL} {i k : Nat} (h : (ls.take i).any q = true) (hik : i ≤ k) : (ls.take k).any q = true := by
  rw [List.any_eq_true] at h ⊢
  obtain ⟨x, hx, hp⟩ := h
  have e : ls.take i = (ls.take k).take i := by rw [List.take_take, Nat.min_eq_left hik]
  rw [e] at hx
  exact ⟨x, List.mem_of_mem_take hx, hp⟩
def apE (ls : List SL) : Int := if anyK meetS ls ls.length then 4 else if anyK likeB ls ls.length then 21 else 0
theorem anyK_mono {p : SL → SL → Bool} {ls : List SL} {k : Nat} (h : anyK p ls (k + 1) = true) (hk : k < ls.length) : anyK p ls ls.length = true := by
  unfold anyK at h ⊢
  rw [List.any_eq_true] at h ⊢
  obtain ⟨x, hx, hp⟩ := h
  exact ⟨x, by rw [List.mem_range] at hx ⊢; omega, hp⟩

set_option maxHeartbeats 2000000 in
theorem apart_any (ls : List SL) (hlen : ls.length ≤ 1000) (hok : ∀ s ∈ ls, s.ok) (v : Value) (w : World) (rd : SlRd w v ls) :
    Calls Tryd.prog 59 #[v] w fun e w' => ∃ v', e = .returned v' ∧ WErr w' v' (apE ls) ∧ Chg [] w w' := by
  obtain ⟨a, n, cap, rfl, rfl, hc1, hc2, hx⟩ := rd
  unfold maxLen at hc2
  have Hx := Lib.hid hx
  have Hok := Lib.hid hok
  clear hx hok
  go_enter Tryd.func59, Tryd.ntmps59
  go_wp2_with fail
  go_loopw [3, 10] (fun s3 s10 wr => ∃ k : Nat, k ≤ ls.length ∧ s10 = .int .i64 (k : Int) ∧ anyK meetS ls k = false ∧ WErr wr s3 (if anyK likeB ls k then 21 else 0) ∧ Chg [] w wr) (fun _ s10 _ => ls.length - (intOf s10).toNat)
  case atStart => exact ⟨0, Nat.zero_le _, rfl, rfl, .inl ⟨rfl, rfl⟩, Chg.refl _ _⟩
  case round =>
    obtain ⟨k, hk, rfl, hmt, herr, hch⟩ := hrel
    have Hmt := Lib.hid hmt
    have Herr := Lib.hid herr
    have Hch := Lib.hid hch
    clear hmt herr hch
    by_cases hlt : k < ls.length
    · obtain ⟨b, off, rfl, hb, hcell⟩ := Hx.out (by rintro rfl; simp at hlt)
      have HCL := Lib.hid (hcell)
      obtain ⟨h1, h2, h3, h4, h5⟩ := hcell k hlt
      obtain ⟨s, hs⟩ : ∃ s, s = ls.getD k .zero := ⟨_, rfl⟩
      have HSO : Hid (s.ok) := Lib.hid (Hok.out s (by rw [hs]; simp [List.getD_eq_getElem?_getD, hlt]))
      rw [← hs] at h1 h2 h3 h4 h5
      have HM1 : Hid (anyK meetS ls (k + 1) = (ls.take k).any (meetS s)) := Lib.hid (by rw [anyK_succ, Hmt.out, Bool.false_or, hs]; rfl)
      have HL1 : Hid (anyK likeB ls (k + 1) = (anyK likeB ls k || (ls.take k).any (likeB s))) := Lib.hid (by rw [anyK_succ, hs]; rfl)
      have k1 := Hch.out.cell h1 (by simp)
      have k2 := Hch.out.cell h2 (by simp)
      have k3 := Hch.out.cell h3 (by simp)
      have k4 := Hch.out.cell h4 (by simp)
      have k5 := Hch.out.cell h5 (by simp)
      clear h1 h2 h3 h4 h5 hcell hs
      obtain ⟨c, u, o, z, g⟩ := s
      obtain ⟨_, hso2, hso3, hso4, _⟩ := HSO.out
      simp only at k1 k2 k3 k4 k5 hso2 hso3 hso4
      go_wp2_with fail
      obtain ⟨w1, hw1⟩ : ∃ q, q = wr.alloc (.cells #[.int .u32 c, .int .u32 u, .int .u64 o, .int .u64 z, .int .i64 g] 52) := ⟨_, rfl⟩
      obtain ⟨q, hq⟩ : ∃ q, q = wr.heap.size := ⟨_, rfl⟩
      have BS : Hid (w1.heap[q]? = some (.cells #[.int .u32 c, .int .u32 u, .int .u64 o, .int .u64 z, .int .i64 g] 52 (0, 0))) := Lib.hid (by rw [hw1, hq]; exact heap_alloc_eq _ _)
      have HW1 : Hid (Chg [] wr w1) := Lib.hid (by rw [hw1]; exact (Chg.refl _ _).alloc _)
      rw [← hw1, ← hq]
      clear hw1 hq k1 k2 k3 k4 k5
      have HERR1 := Lib.hid (Herr.out.pure HW1.out)
      obtain ⟨wo, rfl⟩ : ∃ wo, wo = wr := ⟨_, rfl⟩
      go_loopw [3, 19] (fun s3 s19 wl => ∃ j : Nat, j ≤ k ∧ s19 = .int .i64 (j : Int) ∧ (ls.take j).any (meetS ⟨c, u, o, z, g⟩) = false ∧ WErr wl s3 (if anyK likeB ls k || (ls.take j).any (likeB ⟨c, u, o, z, g⟩) then 21 else 0) ∧ Chg [] w1 wl) (fun _ s19 _ => k - (intOf s19).toNat)
      case atStart => exact ⟨0, Nat.zero_le _, rfl, rfl, by rw [List.take_zero, List.any_nil, Bool.or_false]; exact HERR1.out, Chg.refl _ _⟩
      case round =>
        obtain ⟨j, hj, rfl, hm2, he2, hch2⟩ := hrel
        obtain ⟨wq, rfl⟩ : ∃ wq, wq = wr := ⟨_, rfl⟩
        have HM2 := Lib.hid (hm2)
        have HE2 := Lib.hid (he2)
        have HC2 := Lib.hid (hch2)
        clear hm2 he2 hch2
        by_cases hjk : j < k
        · obtain ⟨h1, h2, h3, h4, h5⟩ := HCL.out j (by omega)
          obtain ⟨t, ht⟩ : ∃ s, s = ls.getD j .zero := ⟨_, rfl⟩
          have HTO : Hid (t.ok) := Lib.hid (Hok.out t (by rw [ht]; simp [List.getD_eq_getElem?_getD, show j < ls.length by omega]))
          rw [← ht] at h1 h2 h3 h4 h5
          have HM3 : Hid ((ls.take (j + 1)).any (meetS ⟨c, u, o, z, g⟩) = meetS ⟨c, u, o, z, g⟩ t) := Lib.hid (by rw [take_any _ _ _ (by omega), HM2.out, Bool.false_or, ht])
          have HL3 : Hid ((ls.take (j + 1)).any (likeB ⟨c, u, o, z, g⟩) = ((ls.take j).any (likeB ⟨c, u, o, z, g⟩) || likeB ⟨c, u, o, z, g⟩ t)) := Lib.hid (by rw [take_any _ _ _ (by omega), ht])
          have kk := Hch.out.then (HW1.out.then HC2.out)
          have k1 := kk.cell h1 (by simp)
          have k2 := kk.cell h2 (by simp)
          have k3 := kk.cell h3 (by simp)
          have k4 := kk.cell h4 (by simp)
          have k5 := kk.cell h5 (by simp)
          clear h1 h2 h3 h4 h5 ht kk
          obtain ⟨c', u', o', z', g'⟩ := t
          obtain ⟨_, hto2, hto3, hto4, _⟩ := HTO.out
          simp only at k1 k2 k3 k4 k5 hto2 hto3 hto4
          have hb := (HC2.out.alloc (.cells #[.int .u32 c', .int .u32 u', .int .u64 o', .int .u64 z', .int .i64 g'] 52)).heap BS.out (by simp)
          have s0 := cell_of_heap hb 0
          have s1 := cell_of_heap hb 1
          have s2 := cell_of_heap hb 2
          have s3 := cell_of_heap hb 3
          have s4 := cell_of_heap hb 4
          simp at s0 s1 s2 s3 s4
          clear hb
          go_wp2_with fail
          clear s0 s1 s2 s3 s4 k1 k2 k3 k4 k5
          obtain ⟨r1, hr1⟩ : ∃ x, x = wq.alloc (.cells #[.int .u32 c', .int .u32 u', .int .u64 o', .int .u64 z', .int .i64 g'] 52) := ⟨_, rfl⟩
          obtain ⟨qo, hqo⟩ : ∃ x, x = wq.heap.size := ⟨_, rfl⟩
          have BO : Hid (r1.heap[qo]? = some (.cells #[.int .u32 c', .int .u32 u', .int .u64 o', .int .u64 z', .int .i64 g'] 52 (0, 0))) := Lib.hid (by rw [hr1, hqo]; exact heap_alloc_eq _ _)
          have R1 : Hid (Chg [] wq r1) := Lib.hid (by rw [hr1]; exact (Chg.refl _ _).alloc _)
          rw [← hr1, ← hqo]
          clear hr1 hqo
          refine (Meet_any o z o' z' r1).mono ?_
          rintro e r2 ⟨rfl, hch2⟩
          have R2 := Lib.hid (R1.out.then hch2)
          have S2 := Lib.hid (hch2)
          clear hch2
          cases hmm : meetN o z o' z' with
          | true =>
            have HEND : Hid (apE ls = 4) := by
              refine Lib.hid ?_
              have e1 : (ls.take (j + 1)).any (meetS ⟨c, u, o, z, g⟩) = true := by rw [HM3.out]; exact hmm
              have e2 := take_any_mono e1 (show j + 1 ≤ k by omega)
              rw [← HM1.out] at e2
              unfold apE
              rw [anyK_mono e2 hlt]
              rfl
            clear hmm
            have hb := (HC2.out.then R2.out).heap BS.out (by simp)
            have s0 := cell_of_heap hb 0
            have s1 := cell_of_heap hb 1
            have s2 := cell_of_heap hb 2
            have s3 := cell_of_heap hb 3
            have s4 := cell_of_heap hb 4
            simp at s0 s1 s2 s3 s4
            clear hb
            go_wp2_with fail
            refine (wrong_any _ 4 (by decide) r2).mono ?_
            rintro e r3 ⟨v', rfl, he, _, hch⟩
            have HV := Lib.hid (he)
            have R3 := Lib.hid (R2.out.then hch)
            clear he hch s0 s1 s2 s3 s4
            go_wp2
            go_ret
            rw [HEND.out]
            exact ⟨_, rfl, HV.out, Hch.out.then (HW1.out.then (HC2.out.then R3.out))⟩
          | false =>
            have HM4 : Hid ((ls.take (j + 1)).any (meetS ⟨c, u, o, z, g⟩) = false) := Lib.hid (by rw [HM3.out]; exact hmm)
            clear hmm
            have hb := (HC2.out.then R2.out).heap BS.out (by simp)
            have s0 := cell_of_heap hb 0
            have s1 := cell_of_heap hb 1
            have s2 := cell_of_heap hb 2
            have s3 := cell_of_heap hb 3
            have s4 := cell_of_heap hb 4
            simp at s0 s1 s2 s3 s4
            clear hb
            have hb := S2.out.heap BO.out (by simp)
            have o0 := cell_of_heap hb 0
            have o1 := cell_of_heap hb 1
            have o2 := cell_of_heap hb 2
            have o3 := cell_of_heap hb 3
            have o4 := cell_of_heap hb 4
            simp at o0 o1 o2 o3 o4
            clear hb
            have HAL := Lib.hid (alike_any ⟨c, u, o, z, g⟩ ⟨c', u', o', z', g'⟩ r2 hso2 hto2)
            simp only [SL.val] at HAL
            go_wp2_with fail
            clear s0 s1 s2 s3 s4 o0 o1 o2 o3 o4
            refine HAL.out.mono ?_
            rintro e r3 ⟨rfl, hch⟩
            have R3 := Lib.hid (R2.out.then hch)
            clear hch HAL
            cases hll : likeB ⟨c, u, o, z, g⟩ ⟨c', u', o', z', g'⟩ with
            | true =>
              have HL4 : Hid ((anyK likeB ls k || (ls.take (j + 1)).any (likeB ⟨c, u, o, z, g⟩)) = true) := Lib.hid (by rw [HL3.out, hll]; simp)
              clear hll
              go_wp2_with fail
              refine (wrong_any _ 21 (by decide) r3).mono ?_
              rintro e r4 ⟨v', rfl, he, _, hch⟩
              have HV := Lib.hid (he)
              have R4 := Lib.hid (R3.out.then hch)
              clear he hch
              go_wp2
              go_roundw
              case rel => exact ⟨j + 1, by omega, by go_num, HM4.out, by rw [HL4.out]; exact HV.out, HC2.out.then R4.out⟩
              case measure => simp [intOf]; omega
            | false =>
              have HL4 : Hid ((anyK likeB ls k || (ls.take (j + 1)).any (likeB ⟨c, u, o, z, g⟩)) = (anyK likeB ls k || (ls.take j).any (likeB ⟨c, u, o, z, g⟩))) := Lib.hid (by rw [HL3.out, hll, Bool.or_false])
              clear hll
              go_wp2
              go_roundw
              case rel => exact ⟨j + 1, by omega, by go_num, HM4.out, by rw [HL4.out]; exact HE2.out.pure R3.out, HC2.out.then R3.out⟩
              case measure => simp [intOf]; omega
        · obtain rfl : j = k := by omega
          have HM5 : Hid (anyK meetS ls (j + 1) = false) := Lib.hid (by rw [HM1.out]; exact HM2.out)
          have HL5 : Hid ((if anyK likeB ls (j + 1) then (21 : Int) else 0) = (if anyK likeB ls j || (ls.take j).any (likeB ⟨c, u, o, z, g⟩) then 21 else 0)) := Lib.hid (by rw [HL1.out])
          go_wp2
          go_roundw
          case rel => exact ⟨j + 1, hlt, by go_num, HM5.out, by rw [HL5.out]; exact HE2.out, Hch.out.then (HW1.out.then HC2.out)⟩
          case measure => simp [intOf]; omega
    · obtain rfl : k = ls.length := by omega
      have HEND : Hid (apE ls = if anyK likeB ls ls.length then 21 else 0) := Lib.hid (by unfold apE; rw [Hmt.out]; rfl)
      go_wp2
      go_ret
      rw [HEND.out]
      exact ⟨_, rfl, Herr.out, Hch.out⟩
end Go.Proofs.YtchkombikjcokaaDoor
