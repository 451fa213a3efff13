/- Lemmas, laid together: part 26 of 42. Conditions: none but each lemma's own. -/
import Derived.Test.YtiljokmkiolpgaaGreatDoorJ10
import Derived.Test.YtiljokmkiolpgaaGreatDoorJ19
import Derived.Test.YtiljokmkiolpgaaGreatDoorJ20
import Derived.Laws.BitsLemmas
import Derived.Test.YtiljokmkiolpgaaGreatDoorJ4
import Derived.StillTailTactics
import Derived.Test.YtiljokmkiolpgaaGreatDoorJ1
namespace Go.Proofs.YtiljokmkiolpgaaGreatDoor
open Go.RowKit
set_option maxRecDepth 100000
set_option maxHeartbeats 2000000 in
theorem RPart_any (l : List UInt8) (v : Value) (off size : Nat) (ho : off < 18446744073709551616) (hz : size < 18446744073709551616) (h0 : size ≠ 0) (w : World) (rd : byteL.Rd w v l) (hlen : l.length ≤ 100000000) :
  Calls Tryz.prog 21 #[v, .agg #[.int .u64 off, .int .u64 size]] w fun e w' => (∃ v', e = .returned v' ∧ byteL.Rd w' v' (partS l off size)) ∧ Chg [] w w' := by
 obtain ⟨a, cap, rfl, hc1, hc2⟩ := rd.shape
 have hwl : IntKind.u64.wrap (l.length : Int) = (l.length : Int) := by rw [IntKind.wrap_u64]; omega
 have HW := hY (fun W => rwithinI_any (off : Int) (size : Int) (l.length : Int) (by omega) (by omega) (by omega) W)
 by_cases hin : off + size ≤ l.length
 ·have hwi : withinI (off : Int) (size : Int) (l.length : Int) = true := by
   unfold withinI
   rw [decide_eq_true (by omega), decide_eq_true (by omega)]
   rfl
  have hws : withinS off size l.length = true := by
   unfold withinS
   rw [decide_eq_true (by omega), decide_eq_true (by omega)]
   rfl
  rw [hwi] at HW
  rw [show partS l off size = (l.drop off).take size by unfold partS; rw [if_neg h0, hws]; rfl]
  have hs : IntKind.u64.wrap ((off : Int) + (size : Int)) = ((off + size : Nat) : Int) := by rw [IntKind.wrap_u64]; omega
  obtain ⟨b, o, rfl, _, _⟩ := rd.at (by omega)
  have k1 : off + size ≤ cap := by omega
  have k2 : off + size - off = size := by omega
  have k3 : ¬ off = cap := by omega
  have HR : Hid (byteL.Rd w (.slice (some ⟨b, o + off, none⟩) (off + size - off) (cap - off)) ((l.drop off).take size)) := hY (by rw [k2]; exact Rd_cutI rd off size (cap - off) hin (by omega) (by unfold maxLen; omega))
  have Rd := hY rd
  have Hin := hY hin
  have Hwi := hY hwi
  have Hws := hY hws
  have Hc1 := hY hc1
  have Hlen := hY hlen
  have Ho := hY ho
  have Hz := hY hz
  have H0 := hY h0
  clear rd hin hwi hws hc1 hlen ho hz h0
  clear hc2
  go_enter Tryz.func21, Tryz.ntmps21
  go_wp2_with fail
  refine (HW.out _).mono ?_
  rintro e W2 ⟨rfl, hc⟩
  have C2 : Hid (Chg [] w W2) := hY (((Chg.refl _ _).alloc _).then hc)
  have y0 : W2.cell? ⟨w.heap.size, 0, none⟩ = some (.int .u64 off) := by refine hc.cell ?_ (by simp); rw [cell_of_heap (heap_alloc_eq _ _)]; rfl
  have y1 : W2.cell? ⟨w.heap.size, 1, none⟩ = some (.int .u64 size) := by refine hc.cell ?_ (by simp); rw [cell_of_heap (heap_alloc_eq _ _)]; rfl
  clear hc
  go_wp2
  go_ret
  exact ⟨⟨_, rfl, HR.out.frame C2.out⟩, C2.out⟩
 ·have hwi : withinI (off : Int) (size : Int) (l.length : Int) = false := by
   unfold withinI
   rw [Bool.eq_false_iff]
   simp only [ne_eq, Bool.and_eq_true, decide_eq_true_eq]
   omega
  have hws : withinS off size l.length = false := by
   unfold withinS
   rw [Bool.eq_false_iff]
   simp only [ne_eq, Bool.and_eq_true, decide_eq_true_eq]
   omega
  rw [hwi] at HW
  rw [show partS l off size = [] by unfold partS; rw [if_neg h0, hws]; rfl]
  have Rd := hY rd
  have Hin := hY hin
  have Hwi := hY hwi
  have Hws := hY hws
  have Hlen := hY hlen
  have Ho := hY ho
  have Hz := hY hz
  have H0 := hY h0
  clear rd hin hwi hws hlen ho hz h0
  clear hc2
  go_enter Tryz.func21, Tryz.ntmps21
  go_wp2_with fail
  refine (HW.out _).mono ?_
  rintro e W2 ⟨rfl, hc⟩
  have C2 : Hid (Chg [] w W2) := hY (((Chg.refl _ _).alloc _).then hc)
  have y0 : W2.cell? ⟨w.heap.size, 0, none⟩ = some (.int .u64 off) := by refine hc.cell ?_ (by simp); rw [cell_of_heap (heap_alloc_eq _ _)]; rfl
  have y1 : W2.cell? ⟨w.heap.size, 1, none⟩ = some (.int .u64 size) := by refine hc.cell ?_ (by simp); rw [cell_of_heap (heap_alloc_eq _ _)]; rfl
  clear hc
  go_wp2
  go_ret
  exact ⟨⟨_, rfl, Lay.Rd.nil _⟩, C2.out⟩
theorem indexByte_at : ∀ (x : List UInt8) (n : Nat), n < x.length → (∀ j, j < n → x.getD j 0 ≠ 0) → x.getD n 0 = 0 → Lib.indexByte x 0 = n
 | [], n, h, _, _ => absurd h (by simp)
 | b :: r, 0, _, _, h0 => by
  have : b = 0 := by simpa using h0
  subst this
  simp [Lib.indexByte]
 | b :: r, n + 1, hn, hj, h0 => by
  have hb : b ≠ 0 := by simpa using hj 0 (by omega)
  have ih := indexByte_at r n (by simpa using hn) (fun j hjn => by simpa using hj (j + 1) (by omega)) (by simpa using h0)
  unfold Lib.indexByte
  rw [if_neg (by simpa using hb), ih]
  have e : (((n : Nat) : Int) == -1) = false := by rw [beq_eq_false_iff_ne]; omega
  rw [e, if_neg (by decide)]
  rfl
theorem indexByte_none : ∀ (x : List UInt8), (∀ j, j < x.length → x.getD j 0 ≠ 0) → Lib.indexByte x 0 = -1
 | [], _ => rfl
 | b :: r, hj => by
  have hb : b ≠ 0 := by simpa using hj 0 (by simp)
  have ih := indexByte_none r (fun j hjn => by simpa using hj (j + 1) (by simpa using hjn))
  unfold Lib.indexByte
  rw [if_neg (by simpa using hb), ih]
  rfl
theorem cutZ_at (x : List UInt8) (n : Nat) (hn : n ≤ x.length) (hj : ∀ j, j < n → x.getD j 0 ≠ 0) (h0 : n < x.length → x.getD n 0 = 0) : cutZ x = x.take n := by
 unfold cutZ
 by_cases h : n < x.length
 ·rw [indexByte_at x n h hj (h0 h), if_pos (by omega)]
  rfl
 ·obtain rfl : n = x.length := by omega
  rw [indexByte_none x hj, if_neg (by omega), List.take_length]
theorem toNat_eq0 {x : UInt8} : x.toNat = 0 ↔ x = 0 := by
 constructor
 ·intro h; exact UInt8.toNat_inj.1 h
 ·rintro rfl; rfl
set_option maxHeartbeats 4000000 in
theorem field5_any (l : List UInt8) (p : Nat) (hp : p + 16 ≤ l.length) (v : Value) (w : World) (rd : byteL.Rd w v l) :
  Calls Tryz.prog 115 #[v, .int .i64 p] w fun e w' => e = .returned (.string (tx l p)) ∧ w' = w := by
 obtain ⟨a, cap, rfl, h1, h2⟩ := rd.shape
 have hne : l.length ≠ 0 := by omega
 obtain ⟨b, off, rfl, _⟩ := rd.at hne
 have HX : Hid (∀ j, j < 16 → ((l.drop p).take 16).getD j 0 = l.getD (p + j) 0) := by
  refine hY ?_
  intro j hj
  simp [List.getD_eq_getElem?_getD, hj]
 have hl16 : ((l.drop p).take 16).length = 16 := by rw [List.length_take, List.length_drop]; omega
 have RD := hY rd
 have Hl16 := hY hl16
 clear rd hl16
 go_enter Tryz.func115, Tryz.ntmps115
 go_wp2_with fail
 go_loopw [5] (fun s5 wr => ∃ k : Nat, k ≤ 16 ∧ s5 = .int .i64 (k : Int) ∧ (∀ j, j < k → l.getD (p + j) 0 ≠ 0) ∧ wr = w) (fun s5 _ => 16 - (intOf s5).toNat)
 case atStart => exact ⟨0, Nat.zero_le _, rfl, fun j hj => absurd hj (Nat.not_lt_zero _), rfl⟩
 case round =>
  obtain ⟨k, hk, rfl, hnz, rfl⟩ := hrel
  have fin : ∀ n, n = k → (n < 16 → l.getD (p + n) 0 = 0) → tx l p = ⟨((l.drop p).take n).toArray⟩ := by
   rintro n rfl hz
   unfold tx
   rw [cutZ_at ((l.drop p).take 16) n (by rw [Hl16.out]; exact hk) (fun j hj => by rw [HX.out j (by omega)]; exact hnz j hj) (fun h => by rw [Hl16.out] at h; rw [HX.out n h]; exact hz h), List.take_take, Nat.min_eq_left hk]
  have hsub := Rd_sub RD.out p k (cap - p) (by omega) (by omega) (by unfold maxLen; omega)
  have hstr := run_strB hsub
  have Hnz := hY hnz
  have Fin := hY fin
  have Hsub := hY hsub
  clear hnz fin hsub
  by_cases hlt : k < 16
  ·have d1 : decide ((k : Int) < 16) = true := decide_eq_true (by omega)
   have hc := byte_cell RD.out (p + k) (by omega)
   by_cases hz : l.getD (p + k) 0 = 0
   ·have HF := hY (Fin.out k rfl (fun _ => hz))
    rw [hz] at hc
    have Hz := hY hz
    clear hz
    go_wp2
    go_ret
    exact ⟨by rw [HF.out]; rfl, rfl⟩
   ·have hzn : ¬ (l.getD (p + k) 0).toNat = 0 := fun e => hz (toNat_eq0.1 e)
    obtain ⟨x, hx⟩ : ∃ x, x = (l.getD (p + k) 0).toNat := ⟨_, rfl⟩
    rw [← hx] at hc hzn
    have d2 : (((x : Nat) : Int) != 0) = true := by rw [bne_iff_ne]; omega
    have Hz := hY hz
    have Hx := hY hx
    have Hzn := hY hzn
    have Hstr := hY hstr
    clear hz hx hzn hstr
    go_wp2
    go_roundw
    case rel => exact ⟨k + 1, hlt, by go_num, fun j hj => by
     by_cases e : j = k
     ·subst e; exact Hz.out
     ·exact Hnz.out j (by omega), trivial⟩
    case measure => simp [intOf]; omega
  ·obtain rfl : k = 16 := by omega
   have HF := hY (Fin.out 16 rfl (fun h => absurd h (by omega)))
   go_wp2
   go_ret
   exact ⟨by rw [HF.out]; rfl, rfl⟩
theorem Name5_bad (l : List UInt8) (h : ¬ opE l = 0) (v : Value) (w : World) (rd : byteL.Rd w v l) :
  Calls Tryz.prog 78 #[v] w fun e w' => e = .returned (.tuple #[.string ⟨#[]⟩, .int .i64 3]) ∧ w' = w := by
 have hcm := Cmd5_any l _ w rd
 have hE : opE l = 3 := by
  unfold opE at h ⊢
  split
  ·rfl
  ·split
   ·rfl
   ·rename_i h1 h2; rw [if_neg h1, if_neg h2] at h; exact absurd rfl h
 rw [hE] at hcm
 have HCM := hY hcm
 have H := hY h
 have HE := hY hE
 have RD := hY rd
 clear hcm h hE rd
 go_enter Tryz.func78, Tryz.ntmps78
 go_wp2_with fail
 refine (HCM.out).mono ?_
 rintro e W ⟨rfl, rfl⟩
 go_wp2
 go_ret2
 exact ⟨rfl, rfl⟩
set_option maxHeartbeats 4000000 in
theorem Name5_not (l : List UInt8) (h : opE l = 0) (h2 : namedC (n4 l 0) = false) (v : Value) (w : World) (rd : byteL.Rd w v l) :
  Calls Tryz.prog 78 #[v] w fun e w' => e = .returned (.tuple #[.string ⟨#[]⟩, .int .i64 7]) ∧ w' = w := by
 have hcm := Cmd5_any l _ w rd
 rw [h, show cmdN l = n4 l 0 by unfold cmdN; rw [if_neg (by have := (opE_len h).1; omega)]] at hcm
 obtain ⟨z, hz⟩ : ∃ z : Int, z = (n4 l 0 : Int) := ⟨_, rfl⟩
 rw [← hz] at hcm h2
 have hdp := Dep5_any z w
 have h3 := of_decide_eq_false h2
 have e1 : (z != 13) = true := by rw [bne_iff_ne]; omega
 rw [show depK z = 0 by unfold depK; rw [if_neg (by omega), if_neg (by omega), if_neg (by omega), if_neg (by omega)]] at hdp
 have HCM := hY hcm
 have H := hY h
 have H2 := hY h2
 have Hz := hY hz
 have H3 := hY h3
 have RD := hY rd
 have HDP := hY hdp
 clear hcm h h2 hz h3 rd hdp
 go_enter Tryz.func78, Tryz.ntmps78
 go_wp2_with fail
 refine (HCM.out).mono ?_
 rintro e W ⟨rfl, rfl⟩
 go_wp2_with fail
 refine (HDP.out).mono ?_
 rintro e W ⟨rfl, rfl⟩
 go_wp2
 go_ret2
 exact ⟨rfl, rfl⟩
theorem nm_end {l : List UInt8} {q k : Nat} (_ : q ≤ l.length) (hnz : ∀ j, j < k → l.getD (q + j) 0 ≠ 0) (e : k = l.length - q) : Lib.indexByte (l.drop q) 0 = -1 := by
 refine indexByte_none _ (fun j hj => ?_)
 rw [List.length_drop] at hj
 have := hnz j (by omega)
 simpa [List.getD_eq_getElem?_getD] using this
theorem nm_found {l : List UInt8} {q k : Nat} (_ : q ≤ l.length) (hnz : ∀ j, j < k → l.getD (q + j) 0 ≠ 0) (e : k < l.length - q) (z : l.getD (q + k) 0 = 0) : Lib.indexByte (l.drop q) 0 = k := by
 refine indexByte_at _ k (by rw [List.length_drop]; exact e) (fun j hj => ?_) ?_
 ·have := hnz j hj
  simpa [List.getD_eq_getElem?_getD] using this
 ·simpa [List.getD_eq_getElem?_getD] using z
set_option maxHeartbeats 8000000 in
theorem Name5_far (l : List UInt8) (h : opE l = 0) (h2 : namedC (n4 l 0) = true) (h3 : l.length < n4 l 8) (v : Value) (w : World) (rd : byteL.Rd w v l) :
  Calls Tryz.prog 78 #[v] w fun e w' => e = .returned (.tuple #[.string ⟨#[]⟩, .int .i64 10]) ∧ w' = w := by
 obtain ⟨a, cap, rfl, hc1, hc2⟩ := rd.shape
 have hcm := Cmd5_any l _ w rd
 have h24 : 24 ≤ l.length := by have := (opE_len h).2; rw [named_24 h2] at this; omega
 rw [h, show cmdN l = n4 l 0 by unfold cmdN; rw [if_neg (by omega)]] at hcm
 have hat := at5_any l 8 4 (by decide) (by decide) (by omega) _ w rd
 rw [show leNum ((l.drop 8).take 4) = n4 l 8 from rfl] at hat
 have hq4 := n4_lt l 8
 obtain ⟨z, hz⟩ : ∃ z : Int, z = (n4 l 0 : Int) := ⟨_, rfl⟩
 rw [← hz] at hcm h2
 have hdp := Dep5_any z w
 have hzz : (z != 13) = true → ((depK z) == 0) = false := by
  intro h13
  rw [bne_iff_ne] at h13
  rcases namedC_or h2 with rfl | rfl | rfl | rfl | rfl
  ·exact absurd rfl h13
  ·rfl
  ·rfl
  ·rfl
  ·rfl
 obtain ⟨dk, hdk⟩ : ∃ dk, dk = depK z := ⟨_, rfl⟩
 rw [← hdk] at hdp hzz
 have RD := hY rd
 have HAT := hY hat
 have Hz := hY hz
 have H2 := hY h2
 have H := hY h
 have HDP := hY hdp
 have HCM := hY hcm
 have Hdk := hY hdk
 have H24 := hY h24
 clear rd hat hz h2 h hdp hcm hdk h24
 obtain ⟨q, hq⟩ : ∃ q, q = n4 l 8 := ⟨_, rfl⟩
 rw [← hq] at hq4 h3 HAT
 have d1 : decide (l.length < q) = true := decide_eq_true h3
 have Hq := hY hq
 have Hq4 := hY hq4
 have H3 := hY h3
 clear hq hq4 h3
 by_cases h13 : z = 13
 ·subst h13
  clear hzz
  go_enter Tryz.func78, Tryz.ntmps78
  go_wp2_with fail
  refine (HCM.out).mono ?_
  rintro e W ⟨rfl, rfl⟩
  go_wp2_with fail
  refine (HAT.out).mono ?_
  rintro e W ⟨rfl, rfl⟩
  go_wp2
  go_ret2
  exact ⟨rfl, rfl⟩
 ·have e1 : (z != 13) = true := by rw [bne_iff_ne]; exact h13
  have e2 := hzz e1
  clear hzz h13
  go_enter Tryz.func78, Tryz.ntmps78
  go_wp2_with fail
  refine (HCM.out).mono ?_
  rintro e W ⟨rfl, rfl⟩
  go_wp2_with fail
  refine (HDP.out).mono ?_
  rintro e W ⟨rfl, rfl⟩
  go_wp2_with fail
  refine (HAT.out).mono ?_
  rintro e W ⟨rfl, rfl⟩
  go_wp2
  go_ret2
  exact ⟨rfl, rfl⟩
set_option maxHeartbeats 8000000 in
theorem Name5_in (l : List UInt8) (h : opE l = 0) (h2 : namedC (n4 l 0) = true) (h3 : ¬ l.length < n4 l 8) (S : ByteArray) (E : Int)
  (hse : (0 < nmI l ∧ nmI l ≤ 255 → S = ⟨((l.drop (n4 l 8)).take (nmI l).toNat).toArray⟩ ∧ E = 0) ∧ (¬ (0 < nmI l ∧ nmI l ≤ 255) → S = ⟨#[]⟩ ∧ E = 10)) (v : Value) (w : World) (rd : byteL.Rd w v l) :
  Calls Tryz.prog 78 #[v] w fun e w' => e = .returned (.tuple #[.string S, .int .i64 E]) ∧ w' = w := by
 obtain ⟨a, cap, rfl, hc1, hc2⟩ := rd.shape
 have hne : l.length ≠ 0 := by have := (opE_len h).1; omega
 obtain ⟨b, off, rfl, hbb⟩ := rd.at hne
 clear hbb
 have hcm := Cmd5_any l _ w rd
 have h24 : 24 ≤ l.length := by have := (opE_len h).2; rw [named_24 h2] at this; omega
 rw [h, show cmdN l = n4 l 0 by unfold cmdN; rw [if_neg (by omega)]] at hcm
 have hat := at5_any l 8 4 (by decide) (by decide) (by omega) _ w rd
 rw [show leNum ((l.drop 8).take 4) = n4 l 8 from rfl] at hat
 have hq4 := n4_lt l 8
 obtain ⟨z, hz⟩ : ∃ z : Int, z = (n4 l 0 : Int) := ⟨_, rfl⟩
 rw [← hz] at hcm h2
 have hdp := Dep5_any z w
 have hzz : (z != 13) = true → ((depK z) == 0) = false := by
  intro h13
  rw [bne_iff_ne] at h13
  rcases namedC_or h2 with rfl | rfl | rfl | rfl | rfl
  ·exact absurd rfl h13
  ·rfl
  ·rfl
  ·rfl
  ·rfl
 obtain ⟨dk, hdk⟩ : ∃ dk, dk = depK z := ⟨_, rfl⟩
 rw [← hdk] at hdp hzz
 have RD := hY rd
 have HAT := hY hat
 have Hz := hY hz
 have H2 := hY h2
 have H := hY h
 have HDP := hY hdp
 have HCM := hY hcm
 have Hdk := hY hdk
 have H24 := hY h24
 clear rd hat hz h2 h hdp hcm hdk h24
 unfold nmI at hse
 obtain ⟨q, hq⟩ : ∃ q, q = n4 l 8 := ⟨_, rfl⟩
 rw [← hq] at hq4 h3 HAT hse
 have d1 : decide (l.length < q) = false := decide_eq_false h3
 have hlq : q ≤ l.length := by omega
 have hwa : wrap64 (q : Int) = (q : Int) := by unfold wrap64; omega
 by_cases hcq : cap = q
 ·obtain rfl : q = l.length := by omega
  subst hcq
  have hsz := hse.2 (by rw [List.drop_length]; unfold Lib.indexByte; omega)
  have Hq := hY hq
  have Hq4 := hY hq4
  have H3 := hY h3
  have HSE := hY hse
  have Hne := hY hne
  have HSZ := hY hsz
  clear hq hq4 h3 hse hne hsz
  by_cases h13 : z = 13
  ·subst h13
   clear hzz
   go_enter Tryz.func78, Tryz.ntmps78
   go_wp2_with fail
   refine (HCM.out).mono ?_
   rintro e W ⟨rfl, rfl⟩
   go_wp2_with fail
   refine (HAT.out).mono ?_
   rintro e W ⟨rfl, rfl⟩
   go_wp2_with fail
   go_loopw [8] (fun s8 wr => s8 = .int .i64 0 ∧ wr = W) (fun _ _ => 0)
   case atStart => exact ⟨rfl, rfl⟩
   case round =>
    obtain ⟨rfl, rfl⟩ := hrel
    go_wp2
    go_ret2
    exact ⟨by rw [HSZ.out.1, HSZ.out.2]; rfl, rfl⟩
  ·have e1 : (z != 13) = true := by rw [bne_iff_ne]; exact h13
   have e2 := hzz e1
   clear hzz h13
   go_enter Tryz.func78, Tryz.ntmps78
   go_wp2_with fail
   refine (HCM.out).mono ?_
   rintro e W ⟨rfl, rfl⟩
   go_wp2_with fail
   refine (HDP.out).mono ?_
   rintro e W ⟨rfl, rfl⟩
   go_wp2_with fail
   refine (HAT.out).mono ?_
   rintro e W ⟨rfl, rfl⟩
   go_wp2_with fail
   go_loopw [8] (fun s8 wr => s8 = .int .i64 0 ∧ wr = W) (fun _ _ => 0)
   case atStart => exact ⟨rfl, rfl⟩
   case round =>
    obtain ⟨rfl, rfl⟩ := hrel
    go_wp2
    go_ret2
    exact ⟨by rw [HSZ.out.1, HSZ.out.2]; rfl, rfl⟩
 have Hq := hY hq
 have Hq4 := hY hq4
 have H3 := hY h3
 have HSE := hY hse
 have Hne := hY hne
 clear hq hq4 h3 hse hne
 by_cases h13 : z = 13
 ·subst h13
  clear hzz
  go_enter Tryz.func78, Tryz.ntmps78
  go_wp2_with fail
  refine (HCM.out).mono ?_
  rintro e W ⟨rfl, rfl⟩
  go_wp2_with fail
  refine (HAT.out).mono ?_
  rintro e W ⟨rfl, rfl⟩
  go_wp2_with fail
  go_loopw [8] (fun s8 wr => ∃ k : Nat, k ≤ l.length - q ∧ s8 = .int .i64 (k : Int) ∧ (∀ j, j < k → l.getD (q + j) 0 ≠ 0) ∧ wr = W) (fun s8 _ => (l.length - q) - (intOf s8).toNat)
  case atStart => exact ⟨0, Nat.zero_le _, rfl, fun j hj => absurd hj (Nat.not_lt_zero _), rfl⟩
  case round =>
   obtain ⟨k, hk, rfl, hnz, rfl⟩ := hrel
   have hsub := Rd_sub RD.out q k (cap - q) (by omega) (by omega) (by unfold maxLen; omega)
   have hstr := run_strB hsub
   have HNONE := hY (fun (e : k = l.length - q) => nm_end (l := l) (q := q) hlq hnz e)
   have HAT2 := hY (fun (e : k < l.length - q) (z : l.getD (q + k) 0 = 0) => nm_found (l := l) (q := q) hlq hnz e z)
   have Hnz := hY hnz
   have Hsub := hY hsub
   clear hnz hsub
   by_cases hlt : k < l.length - q
   ·have d1 : decide ((k : Int) < ((l.length - q : Nat) : Int)) = true := decide_eq_true (by omega)
    have d1' : decide (k < l.length - q) = true := decide_eq_true hlt
    have d3 : (((k : Nat) : Int) == ((l.length - q : Nat) : Int)) = false := by rw [beq_eq_false_iff_ne]; omega
    have hc := byte_cell RD.out (q + k) (by omega)
    rw [← Nat.add_assoc] at hc
    by_cases hz : l.getD (q + k) 0 = 0
    ·have HF := hY (HAT2.out hlt hz)
     rw [hz] at hc
     have Hz := hY hz
     clear hz
     by_cases hk0 : k = 0
     ·have e0 : (((k : Nat) : Int) == 0) = true := by rw [hk0]; rfl
      have hse := (HSE.out).2 (by rw [HF.out]; omega)
      have Hse := hY hse
      have Hk0 := hY hk0
      clear hse hk0
      go_wp2
      go_ret2
      exact ⟨by rw [Hse.out.1, Hse.out.2]; rfl, rfl⟩
     ·have e0 : (((k : Nat) : Int) == 0) = false := by rw [beq_eq_false_iff_ne]; omega
      by_cases hk5 : 255 < k
      ·have d5 : decide ((255 : Int) < (k : Int)) = true := decide_eq_true (by omega)
       have d5' : decide (255 < k) = true := decide_eq_true hk5
       have hse := (HSE.out).2 (by rw [HF.out]; omega)
       have Hse := hY hse
       have Hk0 := hY hk0
       have Hk5 := hY hk5
       clear hse hk0 hk5
       go_wp2
       go_ret2
       exact ⟨by rw [Hse.out.1, Hse.out.2]; rfl, rfl⟩
      ·have d5 : decide ((255 : Int) < (k : Int)) = false := decide_eq_false (by omega)
       have d5' : decide (255 < k) = false := decide_eq_false hk5
       have hse := (HSE.out).1 (by rw [HF.out]; omega)
       rw [HF.out] at hse
       have Hse := hY hse
       have Hk0 := hY hk0
       have Hk5 := hY hk5
       clear hse hk0 hk5
       go_wp2
       go_ret2
       exact ⟨by rw [Hse.out.1, Hse.out.2]; rfl, rfl⟩
    ·have hzn : ¬ (l.getD (q + k) 0).toNat = 0 := fun e => hz (toNat_eq0.1 e)
     obtain ⟨x, hx⟩ : ∃ x, x = (l.getD (q + k) 0).toNat := ⟨_, rfl⟩
     rw [← hx] at hc hzn
     have d2 : (((x : Nat) : Int) != 0) = true := by rw [bne_iff_ne]; omega
     have Hz := hY hz
     have Hx := hY hx
     have Hzn := hY hzn
     have Hstr := hY hstr
     clear hz hx hzn hstr
     go_wp2
     go_roundw
     case rel => exact ⟨k + 1, hlt, by go_num, fun j hj => by
      by_cases e : j = k
      ·subst e; exact Hz.out
      ·exact Hnz.out j (by omega), trivial⟩
     case measure => simp [intOf]; omega
   ·have hke : k = l.length - q := by omega
    have d1 : decide ((k : Int) < ((l.length - q : Nat) : Int)) = false := decide_eq_false (by omega)
    have d1' : decide (k < l.length - q) = false := decide_eq_false hlt
    have d3 : (((k : Nat) : Int) == ((l.length - q : Nat) : Int)) = true := by rw [beq_iff_eq]; omega
    have hse := (HSE.out).2 (by rw [HNONE.out hke]; omega)
    have Hse := hY hse
    have Hke := hY hke
    clear hse hke
    go_wp2
    go_ret2
    exact ⟨by rw [Hse.out.1, Hse.out.2]; rfl, rfl⟩
 ·have e1 : (z != 13) = true := by rw [bne_iff_ne]; exact h13
  have e2 := hzz e1
  clear hzz h13
  go_enter Tryz.func78, Tryz.ntmps78
  go_wp2_with fail
  refine (HCM.out).mono ?_
  rintro e W ⟨rfl, rfl⟩
  go_wp2_with fail
  refine (HDP.out).mono ?_
  rintro e W ⟨rfl, rfl⟩
  go_wp2_with fail
  refine (HAT.out).mono ?_
  rintro e W ⟨rfl, rfl⟩
  go_wp2_with fail
  go_loopw [8] (fun s8 wr => ∃ k : Nat, k ≤ l.length - q ∧ s8 = .int .i64 (k : Int) ∧ (∀ j, j < k → l.getD (q + j) 0 ≠ 0) ∧ wr = W) (fun s8 _ => (l.length - q) - (intOf s8).toNat)
  case atStart => exact ⟨0, Nat.zero_le _, rfl, fun j hj => absurd hj (Nat.not_lt_zero _), rfl⟩
  case round =>
   obtain ⟨k, hk, rfl, hnz, rfl⟩ := hrel
   have hsub := Rd_sub RD.out q k (cap - q) (by omega) (by omega) (by unfold maxLen; omega)
   have hstr := run_strB hsub
   have HNONE := hY (fun (e : k = l.length - q) => nm_end (l := l) (q := q) hlq hnz e)
   have HAT2 := hY (fun (e : k < l.length - q) (z : l.getD (q + k) 0 = 0) => nm_found (l := l) (q := q) hlq hnz e z)
   have Hnz := hY hnz
   have Hsub := hY hsub
   clear hnz hsub
   by_cases hlt : k < l.length - q
   ·have d1 : decide ((k : Int) < ((l.length - q : Nat) : Int)) = true := decide_eq_true (by omega)
    have d1' : decide (k < l.length - q) = true := decide_eq_true hlt
    have d3 : (((k : Nat) : Int) == ((l.length - q : Nat) : Int)) = false := by rw [beq_eq_false_iff_ne]; omega
    have hc := byte_cell RD.out (q + k) (by omega)
    rw [← Nat.add_assoc] at hc
    by_cases hz : l.getD (q + k) 0 = 0
    ·have HF := hY (HAT2.out hlt hz)
     rw [hz] at hc
     have Hz := hY hz
     clear hz
     by_cases hk0 : k = 0
     ·have e0 : (((k : Nat) : Int) == 0) = true := by rw [hk0]; rfl
      have hse := (HSE.out).2 (by rw [HF.out]; omega)
      have Hse := hY hse
      have Hk0 := hY hk0
      clear hse hk0
      go_wp2
      go_ret2
      exact ⟨by rw [Hse.out.1, Hse.out.2]; rfl, rfl⟩
     ·have e0 : (((k : Nat) : Int) == 0) = false := by rw [beq_eq_false_iff_ne]; omega
      by_cases hk5 : 255 < k
      ·have d5 : decide ((255 : Int) < (k : Int)) = true := decide_eq_true (by omega)
       have d5' : decide (255 < k) = true := decide_eq_true hk5
       have hse := (HSE.out).2 (by rw [HF.out]; omega)
       have Hse := hY hse
       have Hk0 := hY hk0
       have Hk5 := hY hk5
       clear hse hk0 hk5
       go_wp2
       go_ret2
       exact ⟨by rw [Hse.out.1, Hse.out.2]; rfl, rfl⟩
      ·have d5 : decide ((255 : Int) < (k : Int)) = false := decide_eq_false (by omega)
       have d5' : decide (255 < k) = false := decide_eq_false hk5
       have hse := (HSE.out).1 (by rw [HF.out]; omega)
       rw [HF.out] at hse
       have Hse := hY hse
       have Hk0 := hY hk0
       have Hk5 := hY hk5
       clear hse hk0 hk5
       go_wp2
       go_ret2
       exact ⟨by rw [Hse.out.1, Hse.out.2]; rfl, rfl⟩
    ·have hzn : ¬ (l.getD (q + k) 0).toNat = 0 := fun e => hz (toNat_eq0.1 e)
     obtain ⟨x, hx⟩ : ∃ x, x = (l.getD (q + k) 0).toNat := ⟨_, rfl⟩
     rw [← hx] at hc hzn
     have d2 : (((x : Nat) : Int) != 0) = true := by rw [bne_iff_ne]; omega
     have Hz := hY hz
     have Hx := hY hx
     have Hzn := hY hzn
     have Hstr := hY hstr
     clear hz hx hzn hstr
     go_wp2
     go_roundw
     case rel => exact ⟨k + 1, hlt, by go_num, fun j hj => by
      by_cases e : j = k
      ·subst e; exact Hz.out
      ·exact Hnz.out j (by omega), trivial⟩
     case measure => simp [intOf]; omega
   ·have hke : k = l.length - q := by omega
    have d1 : decide ((k : Int) < ((l.length - q : Nat) : Int)) = false := decide_eq_false (by omega)
    have d1' : decide (k < l.length - q) = false := decide_eq_false hlt
    have d3 : (((k : Nat) : Int) == ((l.length - q : Nat) : Int)) = true := by rw [beq_iff_eq]; omega
    have hse := (HSE.out).2 (by rw [HNONE.out hke]; omega)
    have Hse := hY hse
    have Hke := hY hke
    clear hse hke
    go_wp2
    go_ret2
    exact ⟨by rw [Hse.out.1, Hse.out.2]; rfl, rfl⟩
theorem Name5_any (l : List UInt8) (v : Value) (w : World) (rd : byteL.Rd w v l) :
  Calls Tryz.prog 78 #[v] w fun e w' => e = .returned (.tuple #[.string (nameV l), .int .i64 (nameE l)]) ∧ w' = w := by
 by_cases h : opE l = 0
 ·by_cases h2 : namedC (n4 l 0) = true
  ·by_cases h3 : l.length < n4 l 8
   ·have hE : nameE l = 10 := by unfold nameE; rw [if_neg (by simp [h]), if_neg (by simp [h2]), if_pos h3]
    unfold nameV
    rw [hE, if_neg (by decide)]
    exact Name5_far l h h2 h3 v w rd
   ·refine Name5_in l h h2 h3 _ _ ⟨fun h4 => ?_, fun h4 => ?_⟩ v w rd
    ·have hE : nameE l = 0 := by unfold nameE; rw [if_neg (by simp [h]), if_neg (by simp [h2]), if_neg h3, if_pos h4]
     exact ⟨by unfold nameV; rw [if_pos hE], hE⟩
    ·have hE : nameE l = 10 := by unfold nameE; rw [if_neg (by simp [h]), if_neg (by simp [h2]), if_neg h3, if_neg h4]
     exact ⟨by unfold nameV; rw [hE, if_neg (by decide)], hE⟩
  ·have h2' : namedC (n4 l 0) = false := by simpa using h2
   have hE : nameE l = 7 := by unfold nameE; rw [if_neg (by simp [h]), if_pos h2']
   unfold nameV
   rw [hE, if_neg (by decide)]
   exact Name5_not l h h2' v w rd
 ·have hE : nameE l = 3 := by unfold nameE; rw [if_pos h]
  unfold nameV
  rw [hE, if_neg (by decide)]
  exact Name5_bad l h v w rd
structure SL where
 cpu : Nat
 sub : Nat
 off : Nat
 size : Nat
 align : Int
def SL.val (s : SL) : Value := .agg #[.int .u32 s.cpu, .int .u32 s.sub, .int .u64 s.off, .int .u64 s.size, .int .i64 s.align]
def SL.zero : SL := ⟨0, 0, 0, 0, 0⟩
def SL.ok (s : SL) : Prop := s.cpu < 4294967296 ∧ s.sub < 4294967296 ∧ s.off < 18446744073709551616 ∧ s.size < 18446744073709551616 ∧ -9223372036854775808 ≤ s.align ∧ s.align < 9223372036854775808
def SlRd (w : World) (v : Value) (ls : List SL) : Prop :=
 ∃ a n cap, v = .slice a n cap ∧ n = ls.length ∧ n ≤ cap ∧ cap ≤ maxLen ∧
  (ls ≠ [] → ∃ b off, a = some ⟨b, off, none⟩ ∧ b < w.heap.size ∧ ∀ j, j < ls.length →
   w.cell? ⟨b, off + j * 5, none⟩ = some (.int .u32 (ls.getD j .zero).cpu) ∧
   w.cell? ⟨b, off + j * 5 + 1, none⟩ = some (.int .u32 (ls.getD j .zero).sub) ∧
   w.cell? ⟨b, off + j * 5 + 2, none⟩ = some (.int .u64 (ls.getD j .zero).off) ∧
   w.cell? ⟨b, off + j * 5 + 3, none⟩ = some (.int .u64 (ls.getD j .zero).size) ∧
   w.cell? ⟨b, off + j * 5 + 4, none⟩ = some (.int .i64 (ls.getD j .zero).align))
theorem SlRd.frame {w w' : World} {v : Value} {ls : List SL} (h : SlRd w v ls) (k : Chg [] w w') : SlRd w' v ls := by
 obtain ⟨a, n, cap, rfl, hn, hc, hm, hx⟩ := h
 refine ⟨a, n, cap, rfl, hn, hc, hm, fun hne => ?_⟩
 obtain ⟨b, off, rfl, hb, hcell⟩ := hx hne
 refine ⟨b, off, rfl, Nat.lt_of_lt_of_le hb k.size, fun j hj => ?_⟩
 obtain ⟨h1, h2, h3, h4, h5⟩ := hcell j hj
 exact ⟨k.cell h1 (by simp), k.cell h2 (by simp), k.cell h3 (by simp), k.cell h4 (by simp), k.cell h5 (by simp)⟩
theorem need_ok (b : Nat) (al at_ bg : Value) (w : World) (h : w.heap[b]? = some (.cells #[al, at_, bg, .bool false] 133 (0, 0))) :
  Calls Tryz.prog 97 #[.pointer (some ⟨b, 0, none⟩), .bool true] w fun e w' => e = .returned (.bool false) ∧ w'.heap[b]? = some (.cells #[al, at_, bg, .bool false] 133 (0, 0)) ∧ Chg [b] w w' := by
 have h3 := cell_of_heap h 3
 have f3 := frozen_of_heap h 3
 have H := hY h
 clear h
 simp at h3
 go_enter Tryz.func97, Tryz.ntmps97
 go_wp2
 go_ret
 exact ⟨rfl, heap_setCell H.out 3 _, (Chg.refl _ _).setCell _ _ (.inl (by simp))⟩
set_option maxHeartbeats 1000000 in
theorem RBytes_some (b d off n cap : Nat) (m : Nat) (bg : Value) (w : World)
   (h : w.heap[b]? = some (.cells #[.slice (some ⟨d, off, none⟩) n cap, .int .i64 0, bg, .bool false] 133 (0, 0)))
   (hn : n ≤ 140737488355328) (hc : n ≤ cap) (hc2 : cap ≤ 9223372036854775807) (hm : 0 < m) (hm2 : m ≤ n) :
    Calls Tryz.prog 103 #[.pointer (some ⟨b, 0, none⟩), .int .i64 m] w fun e w' => e = .returned (.slice (some ⟨d, off, none⟩) m cap) ∧
      w'.heap[b]? = some (.cells #[.slice (some ⟨d, off, none⟩) n cap, .int .i64 m, bg, .bool false] 133 (0, 0)) ∧ Chg [b] w w' := by
  have hc0 := cell_of_heap h 0
  have hc1 := cell_of_heap h 1
  simp at hc0 hc1
  have HH := hY h
  clear h
  have k1 : decide ((m : Int) ≤ (n : Int)) = true := by simp; omega
  go_enter Tryz.func103, Tryz.ntmps103
  go_wp2_with fail
  refine wp_region_still_tail 17 (by kernel_rfl) (by kernel_rfl) ?_
  simp only [List.take_succ_cons, List.take_zero, List.drop_succ_cons, List.drop_zero]
  change wpStill _ _ w.drew _ _ _
  repeat still_step
  refine wpStill_nil ?_
  change wpList _ _ _ _ _ w.drew
  go_wp2_with fail
  rw [k1]
  refine (need_ok b _ _ _ w.drew HH.out).mono ?_
  rintro e w1 ⟨rfl, hb1, hch⟩
  have g0 := cell_of_heap hb1 0
  have g1 := cell_of_heap hb1 1
  have f1 := frozen_of_heap hb1 1
  simp at g0 g1
  have HB1 := hY (hb1)
  have HC1 := hY (((Chg.refl [b] w).drew).same hch)
  clear hb1 hch hc0 hc1
  go_wp2_with fail
  go_quiet (fail)
  go_wp2
  go_ret
  exact ⟨rfl, heap_setCell HB1.out 1 _, (HC1.out.drewN _).setCell _ _ (.inl (by simp))⟩
theorem ref_step (r : List UInt8) (k : Nat) (h : k < r.length) (h8 : r.length ≤ 8) :
  IntKind.u64.wrap (IntKind.u64.wrap ((beNum (r.take k) : Int) * 256) + IntKind.u64.wrap ((r[k]?.getD 0).toNat : Int)) = (beNum (r.take (k + 1)) : Int) := by
 have hb := (r[k]?.getD 0).toNat_lt
 have hk : (r.take k).length = k := by simp; omega
 have hlt := beNum_lt (r.take k)
 rw [hk] at hlt
 have hp : 256 ^ (k + 1) ≤ 18446744073709551616 := pow_le8 (k + 1) (by omega)
 rw [Nat.pow_succ] at hp
 rw [IntKind.wrap_u64, IntKind.wrap_u64, IntKind.wrap_u64, take_snoc8 r k h, beNum_snoc]
 omega
def way (big : Bool) (l : List UInt8) : List UInt8 := if big then l else l.reverse
theorem beNum_way (big : Bool) (l : List UInt8) : beNum (way big l) = numOf big l := by
 cases big with
 | true => rfl
 | false => unfold way numOf; simp only [Bool.false_eq_true, if_false]; rw [← leNum_reverse, List.reverse_reverse]
set_option maxHeartbeats 1000000 in
theorem RNumber_some (b d off n cap : Nat) (m : Nat) (big : Bool) (l : List UInt8) (w : World)
   (h : w.heap[b]? = some (.cells #[.slice (some ⟨d, off, none⟩) n cap, .int .i64 0, .bool big, .bool false] 133 (0, 0)))
   (hn : n ≤ 140737488355328) (hc : n ≤ cap) (hc2 : cap ≤ 9223372036854775807) (hm : m = 4 ∨ m = 8) (hm2 : m ≤ n) (hbd : d ≠ b) (hll : l.length = m)
   (hl : ∀ j, j < m → w.cell? ⟨d, off + j, none⟩ = some (.int .u8 (l.getD j 0).toNat)) :
    Calls Tryz.prog 81 #[.pointer (some ⟨b, 0, none⟩), .int .i64 m] w fun e w' => e = .returned (.int .u64 (numOf big l)) ∧ Chg [b] w w' := by
  have HW : Hid (beNum (way big l) = numOf big l) := hY (beNum_way big l)
  have hwl : (way big l).length = m := by unfold way; split <;> simp [hll]
  have HST : Hid (∀ k, k < m → IntKind.u64.wrap (IntKind.u64.wrap ((beNum ((way big l).take k) : Int) * 256) + IntKind.u64.wrap (((way big l)[k]?.getD 0).toNat : Int)) = (beNum ((way big l).take (k + 1)) : Int)) := hY (fun k hk => ref_step _ k (by omega) (by omega))
  have HFULL : Hid ((way big l).take m = way big l) := hY (List.take_of_length_le (by omega))
  have HCELL : Hid (∀ W, Chg [b] w W → ∀ k, k < m → W.cell? ⟨d, off + (if big then k else m - 1 - k), none⟩ = some (.int .u8 ((way big l).getD k 0).toNat)) := by
    refine hY ?_
    intro W hW k hk
    have hd : d ∉ [b] := by simpa using hbd
    cases big with
    | true => exact hW.cell (hl k hk) hd
    | false =>
      have := hW.cell (hl (m - 1 - k) (by omega)) hd
      simp only [Bool.false_eq_true, if_false]
      rw [this]
      unfold way
      simp only [Bool.false_eq_true, if_false, List.getD_eq_getElem?_getD]
      rw [List.getElem?_reverse (by omega), hll]
  have HH := hY h
  have HWL := hY hwl
  clear h hwl
  clear hl hll hbd
  rcases hm with rfl | rfl
  all_goals
    go_enter Tryz.func81, Tryz.ntmps81
    go_wp2_with fail
    refine (need_ok b _ _ _ w HH.out).mono ?_
    rintro e w1 ⟨rfl, hb1, hch1⟩
    have Hb1 := hY hb1
    have Hch1 := hY hch1
    clear hb1 hch1
    go_wp2_with fail
    refine (RBytes_some b d off n cap _ _ w1 Hb1.out hn hc hc2 (by decide) hm2).mono ?_
    rintro e w2 ⟨rfl, hb2, hch2⟩
    have HC2 := hY (Hch1.out.same hch2)
    have g2 := cell_of_heap hb2 2
    simp at g2
    clear hb2 hch2
    go_wp2_with fail
    go_loop [6, 7] (fun s6 s7 => ∃ k : Nat, k ≤ (way big l).length ∧ s7 = .int .i64 (k : Int) ∧ s6 = .int .u64 (beNum ((way big l).take k))) (fun _ s7 => (way big l).length - (intOf s7).toNat)
    case atStart => exact ⟨0, Nat.zero_le _, rfl, rfl⟩
    case round =>
      obtain ⟨k, hk, rfl, rfl⟩ := hrel
      rw [HWL.out] at hk
      by_cases hlt : k < (way big l).length
      · rw [HWL.out] at hlt
        have HS := hY (HST.out k hlt)
        have hcell := HCELL.out w2 HC2.out k hlt
        cases big
        all_goals
          simp only [Bool.false_eq_true, if_false, if_true] at hcell
          go_wp2
          go_round
          case rel => exact ⟨k + 1, by rw [HWL.out]; exact hlt, by go_num, by rw [HS.out]⟩
          case measure => have := HWL.out; simp [intOf]; omega
      · rw [HWL.out] at hlt
        have e1 := Nat.le_antisymm hk (Nat.le_of_not_lt hlt)
        subst e1
        clear hlt
        rw [HFULL.out, HW.out]
        go_wp2
        go_ret
        exact ⟨rfl, HC2.out⟩
end Go.Proofs.YtiljokmkiolpgaaGreatDoor
