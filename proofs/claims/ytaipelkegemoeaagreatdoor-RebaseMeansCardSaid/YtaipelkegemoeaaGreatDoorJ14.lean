/- Lemmas, laid together: part 14 of 46. Conditions: none but each lemma's own. -/
import Derived.Test.YtaipelkegemoeaaGreatDoorJ9
import Derived.Test.YtaipelkegemoeaaGreatDoorJ3
import Derived.Test.YtaipelkegemoeaaGreatDoorJ8
/- The document's field, Name (of layer 5). -/
namespace Go.Proofs.YtaipelkegemoeaaGreatDoor
open Go.RowKit
set_option maxRecDepth 100000

/-- Where the first 0 stands, found from the left. -/
theorem indexByte_at : ∀ (x : List UInt8) (n : Nat), n < x.length → (∀ j, j < n → x.getD j 0 ≠ 0) → x.getD n 0 = 0 → Lib.indexByte x 0 = n
  | [], n, h, _, _ => absurd h (by simp)
  | b :: r, 0, _, _, h0 => by
    have : b = 0 := by simpa using h0
    subst this
    simp [Lib.indexByte]
  | b :: r, n + 1, hn, hj, h0 => by
    have hb : b ≠ 0 := by simpa using hj 0 (by omega)
    have ih := indexByte_at r n (by simpa using hn) (fun j hjn => by simpa using hj (j + 1) (by omega)) (by simpa using h0)
    unfold Lib.indexByte
    rw [if_neg (by simpa using hb), ih]
    have e : (((n : Nat) : Int) == -1) = false := by rw [beq_eq_false_iff_ne]; omega
    rw [e, if_neg (by decide)]
    rfl
theorem indexByte_none : ∀ (x : List UInt8), (∀ j, j < x.length → x.getD j 0 ≠ 0) → Lib.indexByte x 0 = -1
  | [], _ => rfl
  | b :: r, hj => by
    have hb : b ≠ 0 := by simpa using hj 0 (by simp)
    have ih := indexByte_none r (fun j hjn => by simpa using hj (j + 1) (by simpa using hjn))
    unfold Lib.indexByte
    rw [if_neg (by simpa using hb), ih]
    rfl
theorem cutZ_at (x : List UInt8) (n : Nat) (hn : n ≤ x.length) (hj : ∀ j, j < n → x.getD j 0 ≠ 0) (h0 : n < x.length → x.getD n 0 = 0) : cutZ x = x.take n := by
  unfold cutZ
  by_cases h : n < x.length
  · rw [indexByte_at x n h hj (h0 h), if_pos (by omega)]
    rfl
  · obtain rfl : n = x.length := by omega
    rw [indexByte_none x hj, if_neg (by omega), List.take_length]
theorem toNat_eq0 {x : UInt8} : x.toNat = 0 ↔ x = 0 := by
  constructor
  · intro h; exact UInt8.toNat_inj.1 h
  · rintro rfl; rfl
set_option maxHeartbeats 4000000 in
theorem field5_any (l : List UInt8) (p : Nat) (hp : p + 16 ≤ l.length) (v : Value) (w : World) (rd : byteL.Rd w v l) :
    Calls Tryz.prog 100 #[v, .int .i64 p] w fun e w' => e = .returned (.string (tx l p)) ∧ w' = w := by
  obtain ⟨a, cap, rfl, h1, h2⟩ := rd.shape
  have hne : l.length ≠ 0 := by omega
  obtain ⟨b, off, rfl, _⟩ := rd.at hne
  have HX : Hid (∀ j, j < 16 → ((l.drop p).take 16).getD j 0 = l.getD (p + j) 0) := by
    refine Lib.hid ?_
    intro j hj
    simp [List.getD_eq_getElem?_getD, hj]
  have hl16 : ((l.drop p).take 16).length = 16 := by rw [List.length_take, List.length_drop]; omega
  have RD := Lib.hid rd
  have Hl16 := Lib.hid hl16
  clear rd hl16
  go_enter Tryz.func100, Tryz.ntmps100
  go_wp2_with fail
  go_loopw [5] (fun s5 wr => ∃ k : Nat, k ≤ 16 ∧ s5 = .int .i64 (k : Int) ∧ (∀ j, j < k → l.getD (p + j) 0 ≠ 0) ∧ wr = w) (fun s5 _ => 16 - (intOf s5).toNat)
  case atStart => exact ⟨0, Nat.zero_le _, rfl, fun j hj => absurd hj (Nat.not_lt_zero _), rfl⟩
  case round =>
    obtain ⟨k, hk, rfl, hnz, rfl⟩ := hrel
    have fin : ∀ n, n = k → (n < 16 → l.getD (p + n) 0 = 0) → tx l p = ⟨((l.drop p).take n).toArray⟩ := by
      rintro n rfl hz
      unfold tx
      rw [cutZ_at ((l.drop p).take 16) n (by rw [Hl16.out]; exact hk) (fun j hj => by rw [HX.out j (by omega)]; exact hnz j hj) (fun h => by rw [Hl16.out] at h; rw [HX.out n h]; exact hz h), List.take_take, Nat.min_eq_left hk]
    have hsub := Rd_sub RD.out p k (cap - p) (by omega) (by omega) (by unfold maxLen; omega)
    have hstr := run_strB hsub
    have Hnz := Lib.hid hnz
    have Fin := Lib.hid fin
    have Hsub := Lib.hid hsub
    clear hnz fin hsub
    by_cases hlt : k < 16
    · have d1 : decide ((k : Int) < 16) = true := decide_eq_true (by omega)
      have hc := byte_cell RD.out (p + k) (by omega)
      by_cases hz : l.getD (p + k) 0 = 0
      · have HF := Lib.hid (Fin.out k rfl (fun _ => hz))
        rw [hz] at hc
        have Hz := Lib.hid hz
        clear hz
        go_wp2
        go_ret
        exact ⟨by rw [HF.out]; rfl, rfl⟩
      · have hzn : ¬ (l.getD (p + k) 0).toNat = 0 := fun e => hz (toNat_eq0.1 e)
        obtain ⟨x, hx⟩ : ∃ x, x = (l.getD (p + k) 0).toNat := ⟨_, rfl⟩
        rw [← hx] at hc hzn
        have d2 : (((x : Nat) : Int) != 0) = true := by rw [bne_iff_ne]; omega
        have Hz := Lib.hid hz
        have Hx := Lib.hid hx
        have Hzn := Lib.hid hzn
        have Hstr := Lib.hid hstr
        clear hz hx hzn hstr
        go_wp2
        go_roundw
        case rel => exact ⟨k + 1, hlt, by go_num, fun j hj => by
          by_cases e : j = k
          · subst e; exact Hz.out
          · exact Hnz.out j (by omega), trivial⟩
        case measure => simp [intOf]; omega
    · obtain rfl : k = 16 := by omega
      have HF := Lib.hid (Fin.out 16 rfl (fun h => absurd h (by omega)))
      go_wp2
      go_ret
      exact ⟨by rw [HF.out]; rfl, rfl⟩
theorem Name5_bad (l : List UInt8) (h : ¬ opE l = 0) (v : Value) (w : World) (rd : byteL.Rd w v l) :
    Calls Tryz.prog 57 #[v] w fun e w' => e = .returned (.tuple #[.string ⟨#[]⟩, .int .i64 3]) ∧ w' = w := by
  have hcm := Cmd5_any l _ w rd
  have hE : opE l = 3 := by
    unfold opE at h ⊢
    split
    · rfl
    · split
      · rfl
      · rename_i h1 h2; rw [if_neg h1, if_neg h2] at h; exact absurd rfl h
  rw [hE] at hcm
  have HCM := Lib.hid hcm
  have H := Lib.hid h
  have HE := Lib.hid hE
  have RD := Lib.hid rd
  clear hcm h hE rd
  go_enter Tryz.func57, Tryz.ntmps57
  go_wp2_with fail
  refine (HCM.out).mono ?_
  rintro e W ⟨rfl, rfl⟩
  go_wp2
  go_ret2
  exact ⟨rfl, rfl⟩
set_option maxHeartbeats 4000000 in
theorem Name5_not (l : List UInt8) (h : opE l = 0) (h2 : namedC (n4 l 0) = false) (v : Value) (w : World) (rd : byteL.Rd w v l) :
    Calls Tryz.prog 57 #[v] w fun e w' => e = .returned (.tuple #[.string ⟨#[]⟩, .int .i64 7]) ∧ w' = w := by
  have hcm := Cmd5_any l _ w rd
  rw [h, show cmdN l = n4 l 0 by unfold cmdN; rw [if_neg (by have := (opE_len h).1; omega)]] at hcm
  obtain ⟨z, hz⟩ : ∃ z : Int, z = (n4 l 0 : Int) := ⟨_, rfl⟩
  rw [← hz] at hcm h2
  have hdp := Dep5_any z w
  have h3 := of_decide_eq_false h2
  have e1 : (z != 13) = true := by rw [bne_iff_ne]; omega
  rw [show depK z = 0 by unfold depK; rw [if_neg (by omega), if_neg (by omega), if_neg (by omega), if_neg (by omega)]] at hdp
  have HCM := Lib.hid hcm
  have H := Lib.hid h
  have H2 := Lib.hid h2
  have Hz := Lib.hid hz
  have H3 := Lib.hid h3
  have RD := Lib.hid rd
  have HDP := Lib.hid hdp
  clear hcm h h2 hz h3 rd hdp
  go_enter Tryz.func57, Tryz.ntmps57
  go_wp2_with fail
  refine (HCM.out).mono ?_
  rintro e W ⟨rfl, rfl⟩
  go_wp2_with fail
  refine (HDP.out).mono ?_
  rintro e W ⟨rfl, rfl⟩
  go_wp2
  go_ret2
  exact ⟨rfl, rfl⟩
theorem nm_end {l : List UInt8} {q k : Nat} (_ : q ≤ l.length) (hnz : ∀ j, j < k → l.getD (q + j) 0 ≠ 0) (e : k = l.length - q) : Lib.indexByte (l.drop q) 0 = -1 := by
  refine indexByte_none _ (fun j hj => ?_)
  rw [List.length_drop] at hj
  have := hnz j (by omega)
  simpa [List.getD_eq_getElem?_getD] using this
theorem nm_found {l : List UInt8} {q k : Nat} (_ : q ≤ l.length) (hnz : ∀ j, j < k → l.getD (q + j) 0 ≠ 0) (e : k < l.length - q) (z : l.getD (q + k) 0 = 0) : Lib.indexByte (l.drop q) 0 = k := by
  refine indexByte_at _ k (by rw [List.length_drop]; exact e) (fun j hj => ?_) ?_
  · have := hnz j hj
    simpa [List.getD_eq_getElem?_getD] using this
  · simpa [List.getD_eq_getElem?_getD] using z
set_option maxHeartbeats 8000000 in
theorem Name5_far (l : List UInt8) (h : opE l = 0) (h2 : namedC (n4 l 0) = true) (h3 : l.length < n4 l 8) (v : Value) (w : World) (rd : byteL.Rd w v l) :
    Calls Tryz.prog 57 #[v] w fun e w' => e = .returned (.tuple #[.string ⟨#[]⟩, .int .i64 10]) ∧ w' = w := by
  obtain ⟨a, cap, rfl, hc1, hc2⟩ := rd.shape
  have hcm := Cmd5_any l _ w rd
  have h24 : 24 ≤ l.length := by have := (opE_len h).2; rw [named_24 h2] at this; omega
  rw [h, show cmdN l = n4 l 0 by unfold cmdN; rw [if_neg (by omega)]] at hcm
  have hat := at5_any l 8 4 (by decide) (by decide) (by omega) _ w rd
  rw [show leNum ((l.drop 8).take 4) = n4 l 8 from rfl] at hat
  have hq4 := n4_lt l 8
  obtain ⟨z, hz⟩ : ∃ z : Int, z = (n4 l 0 : Int) := ⟨_, rfl⟩
  rw [← hz] at hcm h2
  have hdp := Dep5_any z w
  have hzz : (z != 13) = true → ((depK z) == 0) = false := by
    intro h13
    rw [bne_iff_ne] at h13
    rcases namedC_or h2 with rfl | rfl | rfl | rfl | rfl
    · exact absurd rfl h13
    · rfl
    · rfl
    · rfl
    · rfl
  obtain ⟨dk, hdk⟩ : ∃ dk, dk = depK z := ⟨_, rfl⟩
  rw [← hdk] at hdp hzz
  have RD := Lib.hid rd
  have HAT := Lib.hid hat
  have Hz := Lib.hid hz
  have H2 := Lib.hid h2
  have H := Lib.hid h
  have HDP := Lib.hid hdp
  have HCM := Lib.hid hcm
  have Hdk := Lib.hid hdk
  have H24 := Lib.hid h24
  clear rd hat hz h2 h hdp hcm hdk h24
  obtain ⟨q, hq⟩ : ∃ q, q = n4 l 8 := ⟨_, rfl⟩
  rw [← hq] at hq4 h3 HAT
  have d1 : decide (l.length < q) = true := decide_eq_true h3
  have Hq := Lib.hid hq
  have Hq4 := Lib.hid hq4
  have H3 := Lib.hid h3
  clear hq hq4 h3
  by_cases h13 : z = 13
  · subst h13
    clear hzz
    go_enter Tryz.func57, Tryz.ntmps57
    go_wp2_with fail
    refine (HCM.out).mono ?_
    rintro e W ⟨rfl, rfl⟩
    go_wp2_with fail
    refine (HAT.out).mono ?_
    rintro e W ⟨rfl, rfl⟩
    go_wp2
    go_ret2
    exact ⟨rfl, rfl⟩
  · have e1 : (z != 13) = true := by rw [bne_iff_ne]; exact h13
    have e2 := hzz e1
    clear hzz h13
    go_enter Tryz.func57, Tryz.ntmps57
    go_wp2_with fail
    refine (HCM.out).mono ?_
    rintro e W ⟨rfl, rfl⟩
    go_wp2_with fail
    refine (HDP.out).mono ?_
    rintro e W ⟨rfl, rfl⟩
    go_wp2_with fail
    refine (HAT.out).mono ?_
    rintro e W ⟨rfl, rfl⟩
    go_wp2
    go_ret2
    exact ⟨rfl, rfl⟩
set_option maxHeartbeats 8000000 in
theorem Name5_in (l : List UInt8) (h : opE l = 0) (h2 : namedC (n4 l 0) = true) (h3 : ¬ l.length < n4 l 8) (S : ByteArray) (E : Int)
    (hse : (0 < nmI l ∧ nmI l ≤ 255 → S = ⟨((l.drop (n4 l 8)).take (nmI l).toNat).toArray⟩ ∧ E = 0) ∧ (¬ (0 < nmI l ∧ nmI l ≤ 255) → S = ⟨#[]⟩ ∧ E = 10)) (v : Value) (w : World) (rd : byteL.Rd w v l) :
    Calls Tryz.prog 57 #[v] w fun e w' => e = .returned (.tuple #[.string S, .int .i64 E]) ∧ w' = w := by
  obtain ⟨a, cap, rfl, hc1, hc2⟩ := rd.shape
  have hne : l.length ≠ 0 := by have := (opE_len h).1; omega
  obtain ⟨b, off, rfl, hbb⟩ := rd.at hne
  clear hbb
  have hcm := Cmd5_any l _ w rd
  have h24 : 24 ≤ l.length := by have := (opE_len h).2; rw [named_24 h2] at this; omega
  rw [h, show cmdN l = n4 l 0 by unfold cmdN; rw [if_neg (by omega)]] at hcm
  have hat := at5_any l 8 4 (by decide) (by decide) (by omega) _ w rd
  rw [show leNum ((l.drop 8).take 4) = n4 l 8 from rfl] at hat
  have hq4 := n4_lt l 8
  obtain ⟨z, hz⟩ : ∃ z : Int, z = (n4 l 0 : Int) := ⟨_, rfl⟩
  rw [← hz] at hcm h2
  have hdp := Dep5_any z w
  have hzz : (z != 13) = true → ((depK z) == 0) = false := by
    intro h13
    rw [bne_iff_ne] at h13
    rcases namedC_or h2 with rfl | rfl | rfl | rfl | rfl
    · exact absurd rfl h13
    · rfl
    · rfl
    · rfl
    · rfl
  obtain ⟨dk, hdk⟩ : ∃ dk, dk = depK z := ⟨_, rfl⟩
  rw [← hdk] at hdp hzz
  have RD := Lib.hid rd
  have HAT := Lib.hid hat
  have Hz := Lib.hid hz
  have H2 := Lib.hid h2
  have H := Lib.hid h
  have HDP := Lib.hid hdp
  have HCM := Lib.hid hcm
  have Hdk := Lib.hid hdk
  have H24 := Lib.hid h24
  clear rd hat hz h2 h hdp hcm hdk h24
  unfold nmI at hse
  obtain ⟨q, hq⟩ : ∃ q, q = n4 l 8 := ⟨_, rfl⟩
  rw [← hq] at hq4 h3 HAT hse
  have d1 : decide (l.length < q) = false := decide_eq_false h3
  have hlq : q ≤ l.length := by omega
  have hwa : wrap64 (q : Int) = (q : Int) := by unfold wrap64; omega
  by_cases hcq : cap = q
  · obtain rfl : q = l.length := by omega
    subst hcq
    have hsz := hse.2 (by rw [List.drop_length]; unfold Lib.indexByte; omega)
    have Hq := Lib.hid hq
    have Hq4 := Lib.hid hq4
    have H3 := Lib.hid h3
    have HSE := Lib.hid hse
    have Hne := Lib.hid hne
    have HSZ := Lib.hid hsz
    clear hq hq4 h3 hse hne hsz
    by_cases h13 : z = 13
    · subst h13
      clear hzz
      go_enter Tryz.func57, Tryz.ntmps57
      go_wp2_with fail
      refine (HCM.out).mono ?_
      rintro e W ⟨rfl, rfl⟩
      go_wp2_with fail
      refine (HAT.out).mono ?_
      rintro e W ⟨rfl, rfl⟩
      go_wp2_with fail
      go_loopw [8] (fun s8 wr => s8 = .int .i64 0 ∧ wr = W) (fun _ _ => 0)
      case atStart => exact ⟨rfl, rfl⟩
      case round =>
        obtain ⟨rfl, rfl⟩ := hrel
        go_wp2
        go_ret2
        exact ⟨by rw [HSZ.out.1, HSZ.out.2]; rfl, rfl⟩
    · have e1 : (z != 13) = true := by rw [bne_iff_ne]; exact h13
      have e2 := hzz e1
      clear hzz h13
      go_enter Tryz.func57, Tryz.ntmps57
      go_wp2_with fail
      refine (HCM.out).mono ?_
      rintro e W ⟨rfl, rfl⟩
      go_wp2_with fail
      refine (HDP.out).mono ?_
      rintro e W ⟨rfl, rfl⟩
      go_wp2_with fail
      refine (HAT.out).mono ?_
      rintro e W ⟨rfl, rfl⟩
      go_wp2_with fail
      go_loopw [8] (fun s8 wr => s8 = .int .i64 0 ∧ wr = W) (fun _ _ => 0)
      case atStart => exact ⟨rfl, rfl⟩
      case round =>
        obtain ⟨rfl, rfl⟩ := hrel
        go_wp2
        go_ret2
        exact ⟨by rw [HSZ.out.1, HSZ.out.2]; rfl, rfl⟩
  have Hq := Lib.hid hq
  have Hq4 := Lib.hid hq4
  have H3 := Lib.hid h3
  have HSE := Lib.hid hse
  have Hne := Lib.hid hne
  clear hq hq4 h3 hse hne
  by_cases h13 : z = 13
  · subst h13
    clear hzz
    go_enter Tryz.func57, Tryz.ntmps57
    go_wp2_with fail
    refine (HCM.out).mono ?_
    rintro e W ⟨rfl, rfl⟩
    go_wp2_with fail
    refine (HAT.out).mono ?_
    rintro e W ⟨rfl, rfl⟩
    go_wp2_with fail
    go_loopw [8] (fun s8 wr => ∃ k : Nat, k ≤ l.length - q ∧ s8 = .int .i64 (k : Int) ∧ (∀ j, j < k → l.getD (q + j) 0 ≠ 0) ∧ wr = W) (fun s8 _ => (l.length - q) - (intOf s8).toNat)
    case atStart => exact ⟨0, Nat.zero_le _, rfl, fun j hj => absurd hj (Nat.not_lt_zero _), rfl⟩
    case round =>
      obtain ⟨k, hk, rfl, hnz, rfl⟩ := hrel
      have hsub := Rd_sub RD.out q k (cap - q) (by omega) (by omega) (by unfold maxLen; omega)
      have hstr := run_strB hsub
      have HNONE := Lib.hid (fun (e : k = l.length - q) => nm_end (l := l) (q := q) hlq hnz e)
      have HAT2 := Lib.hid (fun (e : k < l.length - q) (z : l.getD (q + k) 0 = 0) => nm_found (l := l) (q := q) hlq hnz e z)
      have Hnz := Lib.hid hnz
      have Hsub := Lib.hid hsub
      clear hnz hsub
      by_cases hlt : k < l.length - q
      · have d1 : decide ((k : Int) < ((l.length - q : Nat) : Int)) = true := decide_eq_true (by omega)
        have d1' : decide (k < l.length - q) = true := decide_eq_true hlt
        have d3 : (((k : Nat) : Int) == ((l.length - q : Nat) : Int)) = false := by rw [beq_eq_false_iff_ne]; omega
        have hc := byte_cell RD.out (q + k) (by omega)
        rw [← Nat.add_assoc] at hc
        by_cases hz : l.getD (q + k) 0 = 0
        · have HF := Lib.hid (HAT2.out hlt hz)
          rw [hz] at hc
          have Hz := Lib.hid hz
          clear hz
          by_cases hk0 : k = 0
          · have e0 : (((k : Nat) : Int) == 0) = true := by rw [hk0]; rfl
            have hse := (HSE.out).2 (by rw [HF.out]; omega)
            have Hse := Lib.hid hse
            have Hk0 := Lib.hid hk0
            clear hse hk0
            go_wp2
            go_ret2
            exact ⟨by rw [Hse.out.1, Hse.out.2]; rfl, rfl⟩
          · have e0 : (((k : Nat) : Int) == 0) = false := by rw [beq_eq_false_iff_ne]; omega
            by_cases hk5 : 255 < k
            · have d5 : decide ((255 : Int) < (k : Int)) = true := decide_eq_true (by omega)
              have d5' : decide (255 < k) = true := decide_eq_true hk5
              have hse := (HSE.out).2 (by rw [HF.out]; omega)
              have Hse := Lib.hid hse
              have Hk0 := Lib.hid hk0
              have Hk5 := Lib.hid hk5
              clear hse hk0 hk5
              go_wp2
              go_ret2
              exact ⟨by rw [Hse.out.1, Hse.out.2]; rfl, rfl⟩
            · have d5 : decide ((255 : Int) < (k : Int)) = false := decide_eq_false (by omega)
              have d5' : decide (255 < k) = false := decide_eq_false hk5
              have hse := (HSE.out).1 (by rw [HF.out]; omega)
              rw [HF.out] at hse
              have Hse := Lib.hid hse
              have Hk0 := Lib.hid hk0
              have Hk5 := Lib.hid hk5
              clear hse hk0 hk5
              go_wp2
              go_ret2
              exact ⟨by rw [Hse.out.1, Hse.out.2]; rfl, rfl⟩
        · have hzn : ¬ (l.getD (q + k) 0).toNat = 0 := fun e => hz (toNat_eq0.1 e)
          obtain ⟨x, hx⟩ : ∃ x, x = (l.getD (q + k) 0).toNat := ⟨_, rfl⟩
          rw [← hx] at hc hzn
          have d2 : (((x : Nat) : Int) != 0) = true := by rw [bne_iff_ne]; omega
          have Hz := Lib.hid hz
          have Hx := Lib.hid hx
          have Hzn := Lib.hid hzn
          have Hstr := Lib.hid hstr
          clear hz hx hzn hstr
          go_wp2
          go_roundw
          case rel => exact ⟨k + 1, hlt, by go_num, fun j hj => by
            by_cases e : j = k
            · subst e; exact Hz.out
            · exact Hnz.out j (by omega), trivial⟩
          case measure => simp [intOf]; omega
      · have hke : k = l.length - q := by omega
        have d1 : decide ((k : Int) < ((l.length - q : Nat) : Int)) = false := decide_eq_false (by omega)
        have d1' : decide (k < l.length - q) = false := decide_eq_false hlt
        have d3 : (((k : Nat) : Int) == ((l.length - q : Nat) : Int)) = true := by rw [beq_iff_eq]; omega
        have hse := (HSE.out).2 (by rw [HNONE.out hke]; omega)
        have Hse := Lib.hid hse
        have Hke := Lib.hid hke
        clear hse hke
        go_wp2
        go_ret2
        exact ⟨by rw [Hse.out.1, Hse.out.2]; rfl, rfl⟩
  · have e1 : (z != 13) = true := by rw [bne_iff_ne]; exact h13
    have e2 := hzz e1
    clear hzz h13
    go_enter Tryz.func57, Tryz.ntmps57
    go_wp2_with fail
    refine (HCM.out).mono ?_
    rintro e W ⟨rfl, rfl⟩
    go_wp2_with fail
    refine (HDP.out).mono ?_
    rintro e W ⟨rfl, rfl⟩
    go_wp2_with fail
    refine (HAT.out).mono ?_
    rintro e W ⟨rfl, rfl⟩
    go_wp2_with fail
    go_loopw [8] (fun s8 wr => ∃ k : Nat, k ≤ l.length - q ∧ s8 = .int .i64 (k : Int) ∧ (∀ j, j < k → l.getD (q + j) 0 ≠ 0) ∧ wr = W) (fun s8 _ => (l.length - q) - (intOf s8).toNat)
    case atStart => exact ⟨0, Nat.zero_le _, rfl, fun j hj => absurd hj (Nat.not_lt_zero _), rfl⟩
    case round =>
      obtain ⟨k, hk, rfl, hnz, rfl⟩ := hrel
      have hsub := Rd_sub RD.out q k (cap - q) (by omega) (by omega) (by unfold maxLen; omega)
      have hstr := run_strB hsub
      have HNONE := Lib.hid (fun (e : k = l.length - q) => nm_end (l := l) (q := q) hlq hnz e)
      have HAT2 := Lib.hid (fun (e : k < l.length - q) (z : l.getD (q + k) 0 = 0) => nm_found (l := l) (q := q) hlq hnz e z)
      have Hnz := Lib.hid hnz
      have Hsub := Lib.hid hsub
      clear hnz hsub
      by_cases hlt : k < l.length - q
      · have d1 : decide ((k : Int) < ((l.length - q : Nat) : Int)) = true := decide_eq_true (by omega)
        have d1' : decide (k < l.length - q) = true := decide_eq_true hlt
        have d3 : (((k : Nat) : Int) == ((l.length - q : Nat) : Int)) = false := by rw [beq_eq_false_iff_ne]; omega
        have hc := byte_cell RD.out (q + k) (by omega)
        rw [← Nat.add_assoc] at hc
        by_cases hz : l.getD (q + k) 0 = 0
        · have HF := Lib.hid (HAT2.out hlt hz)
          rw [hz] at hc
          have Hz := Lib.hid hz
          clear hz
          by_cases hk0 : k = 0
          · have e0 : (((k : Nat) : Int) == 0) = true := by rw [hk0]; rfl
            have hse := (HSE.out).2 (by rw [HF.out]; omega)
            have Hse := Lib.hid hse
            have Hk0 := Lib.hid hk0
            clear hse hk0
            go_wp2
            go_ret2
            exact ⟨by rw [Hse.out.1, Hse.out.2]; rfl, rfl⟩
          · have e0 : (((k : Nat) : Int) == 0) = false := by rw [beq_eq_false_iff_ne]; omega
            by_cases hk5 : 255 < k
            · have d5 : decide ((255 : Int) < (k : Int)) = true := decide_eq_true (by omega)
              have d5' : decide (255 < k) = true := decide_eq_true hk5
              have hse := (HSE.out).2 (by rw [HF.out]; omega)
              have Hse := Lib.hid hse
              have Hk0 := Lib.hid hk0
              have Hk5 := Lib.hid hk5
              clear hse hk0 hk5
              go_wp2
              go_ret2
              exact ⟨by rw [Hse.out.1, Hse.out.2]; rfl, rfl⟩
            · have d5 : decide ((255 : Int) < (k : Int)) = false := decide_eq_false (by omega)
              have d5' : decide (255 < k) = false := decide_eq_false hk5
              have hse := (HSE.out).1 (by rw [HF.out]; omega)
              rw [HF.out] at hse
              have Hse := Lib.hid hse
              have Hk0 := Lib.hid hk0
              have Hk5 := Lib.hid hk5
              clear hse hk0 hk5
              go_wp2
              go_ret2
              exact ⟨by rw [Hse.out.1, Hse.out.2]; rfl, rfl⟩
        · have hzn : ¬ (l.getD (q + k) 0).toNat = 0 := fun e => hz (toNat_eq0.1 e)
          obtain ⟨x, hx⟩ : ∃ x, x = (l.getD (q + k) 0).toNat := ⟨_, rfl⟩
          rw [← hx] at hc hzn
          have d2 : (((x : Nat) : Int) != 0) = true := by rw [bne_iff_ne]; omega
          have Hz := Lib.hid hz
          have Hx := Lib.hid hx
          have Hzn := Lib.hid hzn
          have Hstr := Lib.hid hstr
          clear hz hx hzn hstr
          go_wp2
          go_roundw
          case rel => exact ⟨k + 1, hlt, by go_num, fun j hj => by
            by_cases e : j = k
            · subst e; exact Hz.out
            · exact Hnz.out j (by omega), trivial⟩
          case measure => simp [intOf]; omega
      · have hke : k = l.length - q := by omega
        have d1 : decide ((k : Int) < ((l.length - q : Nat) : Int)) = false := decide_eq_false (by omega)
        have d1' : decide (k < l.length - q) = false := decide_eq_false hlt
        have d3 : (((k : Nat) : Int) == ((l.length - q : Nat) : Int)) = true := by rw [beq_iff_eq]; omega
        have hse := (HSE.out).2 (by rw [HNONE.out hke]; omega)
        have Hse := Lib.hid hse
        have Hke := Lib.hid hke
        clear hse hke
        go_wp2
        go_ret2
        exact ⟨by rw [Hse.out.1, Hse.out.2]; rfl, rfl⟩
theorem Name5_any (l : List UInt8) (v : Value) (w : World) (rd : byteL.Rd w v l) :
    Calls Tryz.prog 57 #[v] w fun e w' => e = .returned (.tuple #[.string (nameV l), .int .i64 (nameE l)]) ∧ w' = w := by
  by_cases h : opE l = 0
  · by_cases h2 : namedC (n4 l 0) = true
    · by_cases h3 : l.length < n4 l 8
      · have hE : nameE l = 10 := by unfold nameE; rw [if_neg (by simp [h]), if_neg (by simp [h2]), if_pos h3]
        unfold nameV
        rw [hE, if_neg (by decide)]
        exact Name5_far l h h2 h3 v w rd
      · refine Name5_in l h h2 h3 _ _ ⟨fun h4 => ?_, fun h4 => ?_⟩ v w rd
        · have hE : nameE l = 0 := by unfold nameE; rw [if_neg (by simp [h]), if_neg (by simp [h2]), if_neg h3, if_pos h4]
          exact ⟨by unfold nameV; rw [if_pos hE], hE⟩
        · have hE : nameE l = 10 := by unfold nameE; rw [if_neg (by simp [h]), if_neg (by simp [h2]), if_neg h3, if_neg h4]
          exact ⟨by unfold nameV; rw [hE, if_neg (by decide)], hE⟩
    · have h2' : namedC (n4 l 0) = false := by simpa using h2
      have hE : nameE l = 7 := by unfold nameE; rw [if_neg (by simp [h]), if_pos h2']
      unfold nameV
      rw [hE, if_neg (by decide)]
      exact Name5_not l h h2' v w rd
  · have hE : nameE l = 3 := by unfold nameE; rw [if_pos h]
    unfold nameV
    rw [hE, if_neg (by decide)]
    exact Name5_bad l h v w rd
end Go.Proofs.YtaipelkegemoeaaGreatDoor
/- A record made, a record stored, as steps of a drawn region. No program in sight. -/
namespace Go.Proofs.YtaipelkegemoeaaGreatDoor
open Go.RowKit
set_option maxRecDepth 100000
namespace Lay
variable {α : Type} {L : Lay α} {P : Program} {T : TypeId}
theorem armAl (hT : Ty L P T) {o : Oper} {a : Act} {w : World} {K : Act → World → Prop} {Q : Exit → Act → World → Prop} {tm : Nat → Option Bool} (hgd : o.guard = none) (ho : o.op = .alloc T)
    (h : ∀ W b, b = w.heap.size → Chg [] w W → L.Box W b L.d → K (a.put o.dst (.pointer (some ⟨b, 0, none⟩))) W) : if Region.wanted o tm = true then Oper.wp P o a w K Q else K (a.put o.dst undef) w := by
  rw [if_pos (by simp [Region.wanted, hgd])]
  unfold Oper.wp execOp
  have := h _ _ rfl ((Chg.refl [] w).alloc _) (Box.of_alloc (L := L) w L.d T)
  simp [ho, Instr.alloc, run_zero hT, newVar, newRow, Value.cells]
  exact this
theorem armSt (hT : Ty L P T) {o : Oper} {a : Act} {w : World} {K : Act → World → Prop} {Q : Exit → Act → World → Prop} {tm : Nat → Option Bool} (hgd : o.guard = none) (p s : Operand) (ho : o.op = .store T p s) {b : Nat} {y : α} (hp : a.eval p = .pointer (some ⟨b, 0, none⟩)) (x : α) (hs : a.eval s = .agg (L.f x).toArray) (hb : L.Box w b y)
    (h : ∀ W, Chg [b] w W → L.Box W b x → K (a.put o.dst undef) W) : if Region.wanted o tm = true then Oper.wp P o a w K Q else K (a.put o.dst undef) w := by
  rw [if_pos (by simp [Region.wanted, hgd])]
  unfold Oper.wp execOp
  have := h _ (setW_chg b (L.f x) w 0) (hb.put x)
  have hr := run_storeCells (P := P) (g := b) (L.f x) w 0 0 (L.one x) (fun c hc => by
    have := hb.in c (by rw [← L.len x]; exact hc)
    rw [Nat.zero_add] at this ⊢
    rw [this]
    exact ⟨_, List.getElem?_eq_getElem (by rw [L.len]; rw [L.len] at hc; exact hc)⟩) hb.frozen
  simp [ho, Instr.storeAt, Instr.sureAddr, hp, hs, storeVar, run_size hT, Value.cells, L.len, hr]
  exact this
end Lay
end Go.Proofs.YtaipelkegemoeaaGreatDoor
/- The document's Segment (of layer 5). -/
namespace Go.Proofs.YtaipelkegemoeaaGreatDoor
open Go.RowKit
set_option maxRecDepth 100000

theorem opE_3 {l : List UInt8} (h : ¬ opE l = 0) : opE l = 3 := by
  unfold opE at h ⊢
  split
  · rfl
  · split
    · rfl
    · rename_i h1 h2; rw [if_neg h1, if_neg h2] at h; exact absurd rfl h
set_option maxHeartbeats 4000000 in
theorem Segment5_bad (l : List UInt8) (h : ¬ opE l = 0) (v : Value) (w : World) (rd : byteL.Rd w v l) :
    Calls Tryz.prog 74 #[v] w fun e w' => e = .returned (.tuple #[segL.val segL.d, .int .i64 3]) ∧ Chg [] w w' := by
  have HCM := Lib.hid (fun w rd => (opE_3 h) ▸ Cmd5_any l v w rd)
  have H := Lib.hid h
  have RD := Lib.hid rd
  clear h rd
  go_enter Tryz.func74, Tryz.ntmps74
  go_wp2_with ((with_reducible refine Lay.alL Tryz.tSg ?_); intro Wa ba eba cba xba; replace eba := Lib.hid eba; replace cba := Lib.hid cba; replace xba := Lib.hid xba; refine Hid.out ?_)
  refine Lib.hid ?_
  go_wp2_with fail
  refine (HCM.out _ (RD.out.frame cba.out)).mono ?_
  rintro e W ⟨rfl, rfl⟩
  go_wp2_with ((with_reducible refine Lay.stL Tryz.tSg (segL.d) (xba.out) ?_ ?_ ?_); exact rfl; exact rfl; intro W2 cW2 xW2; replace cW2 := Lib.hid cW2; replace xW2 := Lib.hid xW2; refine Hid.out ?_)
  refine Lib.hid ?_
  go_wp2
  refine Lay.ret2 Tryz.tSg rfl xW2.out rfl rfl ?_
  exact ⟨rfl, cba.out.new cW2.out (by rw [eba.out]; exact Nat.le_refl _)⟩
set_option maxHeartbeats 4000000 in
theorem Segment5_cmd (l : List UInt8) (h : opE l = 0) (h2 : n4 l 0 ≠ 25) (v : Value) (w : World) (rd : byteL.Rd w v l) :
    Calls Tryz.prog 74 #[v] w fun e w' => e = .returned (.tuple #[segL.val segL.d, .int .i64 7]) ∧ Chg [] w w' := by
  have hcm := fun w rd => h ▸ Cmd5_any l v w rd
  rw [show cmdN l = n4 l 0 by unfold cmdN; rw [if_neg (by have := (opE_len h).1; omega)]] at hcm
  have d2 : (((n4 l 0 : Nat) : Int) != 25) = true := by rw [bne_iff_ne]; omega
  have H := Lib.hid h
  have RD := Lib.hid rd
  have HCM := Lib.hid hcm
  have H2 := Lib.hid h2
  clear h rd hcm h2
  go_enter Tryz.func74, Tryz.ntmps74
  go_wp2_with ((with_reducible refine Lay.alL Tryz.tSg ?_); intro Wa ba eba cba xba; replace eba := Lib.hid eba; replace cba := Lib.hid cba; replace xba := Lib.hid xba; refine Hid.out ?_)
  refine Lib.hid ?_
  go_wp2_with fail
  refine (HCM.out _ (RD.out.frame cba.out)).mono ?_
  rintro e W ⟨rfl, rfl⟩
  go_wp2_with ((with_reducible refine Lay.stL Tryz.tSg (segL.d) (xba.out) ?_ ?_ ?_); exact rfl; exact rfl; intro W2 cW2 xW2; replace cW2 := Lib.hid cW2; replace xW2 := Lib.hid xW2; refine Hid.out ?_)
  refine Lib.hid ?_
  go_wp2
  refine Lay.ret2 Tryz.tSg rfl xW2.out rfl rfl ?_
  exact ⟨rfl, cba.out.new cW2.out (by rw [eba.out]; exact Nat.le_refl _)⟩
set_option maxHeartbeats 8000000 in
theorem Segment5_short (l : List UInt8) (h : opE l = 0) (h2 : n4 l 0 = 25) (h3 : l.length < 72 + 80 * n4 l 64) (v : Value) (w : World) (rd : byteL.Rd w v l) (hl : l.length ≤ 140737488355328) :
    Calls Tryz.prog 74 #[v] w fun e w' => e = .returned (.tuple #[segL.val segL.d, .int .i64 3]) ∧ Chg [] w w' := by
  have d3 : decide (((l.length : Int) - 72) / 80 < (n4 l 64 : Int)) = true := decide_eq_true (by omega)
  have H3 := Lib.hid h3
  clear h3
  have h72 : 72 ≤ l.length := by have := (opE_len h).2; rw [h2] at this; have h3 : leastF ((25 : Nat) : Int) = 72 := by decide
                                 omega
  have hcm := fun w rd => h ▸ Cmd5_any l v w rd
  rw [show cmdN l = 25 by unfold cmdN; rw [if_neg (by omega), h2]] at hcm
  have hf8 := fun w rd => field5_any l 8 (by omega) v w rd
  have ha := fun (p : Nat) (hp : p + 8 ≤ l.length) w rd => at5_any l p 8 (by decide) (by decide) hp v w rd
  have ha4 := fun (p : Nat) (hp : p + 4 ≤ l.length) w rd => at5_any l p 4 (by decide) (by decide) hp v w rd
  have A24 := Lib.hid (fun w rd => ha 24 (by omega) w rd)
  have A32 := Lib.hid (fun w rd => ha 32 (by omega) w rd)
  have A40 := Lib.hid (fun w rd => ha 40 (by omega) w rd)
  have A48 := Lib.hid (fun w rd => ha 48 (by omega) w rd)
  have A60 := Lib.hid (fun w rd => ha4 60 (by omega) w rd)
  have A64 := Lib.hid (fun w rd => ha4 64 (by omega) w rd)
  have hm := n4_lt l 64
  have hmp := n4_lt l 60
  obtain ⟨a, cap, rfl, hc1, hc2⟩ := rd.shape
  have H := Lib.hid h
  have RD := Lib.hid rd
  have HCM := Lib.hid hcm
  have H2 := Lib.hid h2
  have F8 := Lib.hid hf8
  have Ha := Lib.hid ha
  have Ha4 := Lib.hid ha4
  clear h rd hcm h2 hf8 ha ha4
  go_enter Tryz.func74, Tryz.ntmps74
  go_wp2_with ((with_reducible refine Lay.alL Tryz.tSg ?_); intro Wa ba eba cba xba; replace eba := Lib.hid eba; replace cba := Lib.hid cba; replace xba := Lib.hid xba; refine Hid.out ?_)
  refine Lib.hid ?_
  go_wp2_with fail
  refine (HCM.out _ (RD.out.frame cba.out)).mono ?_
  rintro e W ⟨rfl, rfl⟩
  go_wp2_with fail
  refine (F8.out _ (RD.out.frame cba.out)).mono ?_
  rintro e W ⟨rfl, rfl⟩
  go_wp2_with fail
  refine (A24.out _ (RD.out.frame cba.out)).mono ?_
  rintro e W ⟨rfl, rfl⟩
  go_wp2_with fail
  refine (A32.out _ (RD.out.frame cba.out)).mono ?_
  rintro e W ⟨rfl, rfl⟩
  go_wp2_with fail
  refine (A40.out _ (RD.out.frame cba.out)).mono ?_
  rintro e W ⟨rfl, rfl⟩
  go_wp2_with fail
  refine (A48.out _ (RD.out.frame cba.out)).mono ?_
  rintro e W ⟨rfl, rfl⟩
  go_wp2_with fail
  refine (A60.out _ (RD.out.frame cba.out)).mono ?_
  rintro e W ⟨rfl, rfl⟩
  rw [show leNum ((l.drop 24).take 8) = n8 l 24 from rfl, show leNum ((l.drop 32).take 8) = n8 l 32 from rfl, show leNum ((l.drop 40).take 8) = n8 l 40 from rfl, show leNum ((l.drop 48).take 8) = n8 l 48 from rfl, show leNum ((l.drop 60).take 4) = n4 l 60 from rfl]
  go_wp2_with ((with_reducible refine Lay.alL Tryz.tSg ?_); intro Wb bs ebs cbs xbs; replace ebs := Lib.hid ebs; replace cbs := Lib.hid cbs; replace xbs := Lib.hid xbs; refine Hid.out ?_)
  refine Lib.hid ?_
  go_wp2_with ((with_reducible refine Lay.stL Tryz.tSg (segX l ⟨none, 0, 0⟩) (xbs.out) ?_ ?_ ?_); exact rfl; exact rfl; intro V5 cV5 xV5; replace cV5 := Lib.hid cV5; replace xV5 := Lib.hid xV5; refine Hid.out ?_)
  refine Lib.hid ?_
  have hbs : ba < bs := by rw [ebs.out]; exact xba.out.lt
  have XA5 := Lib.hid ((xba.out.frame cbs.out).frameS cV5.out (by simp; omega))
  have C5 := Lib.hid ((cba.out.then cbs.out).new cV5.out (by have := cba.out.size; rw [ebs.out]; omega))
  have R5 := Lib.hid (RD.out.frame C5.out)
  go_wp2_with fail
  refine (A64.out _ R5.out).mono ?_
  rintro e W ⟨rfl, rfl⟩
  rw [show leNum ((l.drop 64).take 4) = n4 l 64 from rfl]
  obtain ⟨N, hN⟩ : ∃ N, N = n4 l 64 := ⟨_, rfl⟩
  rw [← hN] at hm ⊢
  rw [← hN] at d3
  have HN := Lib.hid hN
  clear hN
  go_wp2_with ((with_reducible refine Lay.stL Tryz.tSg (segL.d) (XA5.out) ?_ ?_ ?_); exact rfl; exact rfl; intro WE cWE xWE; replace cWE := Lib.hid cWE; replace xWE := Lib.hid xWE; refine Hid.out ?_)
  refine Lib.hid ?_
  go_wp2
  refine Lay.ret2 Tryz.tSg rfl xWE.out rfl rfl ?_
  exact ⟨rfl, C5.out.new cWE.out (by rw [eba.out]; exact Nat.le_refl _)⟩
/-- The state of the document's loop over sections. -/
structure Sg5 (w0 : World) (B ba bs : Nat) (x : Seg) (ks : List Sec) (wr : World) : Prop where
  bx : segL.Box wr bs x
  bf : secL.Buf 123 wr B (.slice x.secs.a x.secs.n x.secs.cap) ks
  ra : segL.Box wr ba segL.d
  sz : B ≤ wr.heap.size
  chg : Chg [] w0 wr
theorem Sg5.pure {w0 : World} {B ba bs : Nat} {x : Seg} {ks : List Sec} {w w' : World} (h : Sg5 w0 B ba bs x ks w) (k : Chg [] w w') : Sg5 w0 B ba bs x ks w' :=
  ⟨h.bx.frame k, h.bf.pure k, h.ra.frame k, Nat.le_trans h.sz k.size, h.chg.then k⟩
structure Sg5G (w0 : World) (B ba bs : Nat) (x : Seg) (wr : World) : Prop where
  bx : segL.Box wr bs x
  ra : segL.Box wr ba segL.d
  sz : B ≤ wr.heap.size
  chg : Chg [] w0 wr
theorem Sg5.grew {w0 : World} {B ba bs : Nat} {x : Seg} {ks : List Sec} {w w' : World} (h : Sg5 w0 B ba bs x ks w) (g : w.grownBy w' (Value.slice x.secs.a x.secs.n x.secs.cap).ownBlock) (h1 : ba < bs) (h3 : bs < B) (h0 : w0.heap.size ≤ ba) : Sg5G w0 B ba bs x w' := by
  have k := Lay.chg_grown g
  have hb : ∀ i ∈ (Value.slice x.secs.a x.secs.n x.secs.cap).ownBlock.toList, B ≤ i := fun i hi => (h.bf.lt i (by simpa using hi)).1
  exact ⟨h.bx.frameS k (fun hm => by have := hb _ hm; omega), h.ra.frameS k (fun hm => by have := hb _ hm; omega), Nat.le_trans h.sz k.size, h.chg.trans k (fun i hi hw => by have := hb i hi; omega)⟩
theorem Sg5.app {w0 : World} {B ba bs : Nat} {l : List UInt8} {sv : SlV} {ks : List Sec} {w : World} {a : Option Addr} {n cap : Nat} (h : Sg5G w0 B ba bs (segX l sv) w) (hv : secL.Buf 123 w B (.slice a n cap) ks) (h1 : ba < bs) (h3 : bs < B) (h0 : w0.heap.size ≤ ba) : Sg5 w0 B ba bs (segX l ⟨a, n, cap⟩) ks (w.setCell ⟨bs, 6, none⟩ (.slice a n cap)) := by
  have k : Chg [bs] w (w.setCell ⟨bs, 6, none⟩ (.slice a n cap)) := (Chg.refl _ _).setCell _ _ (.inl (by simp))
  exact ⟨Seg.set_secs h.bx ⟨a, n, cap⟩, hv.frame k (fun i hi hm => by have := (hv.lt i hi).1; simp at hm; omega), h.ra.frameS k (by simp; omega), Nat.le_trans h.sz k.size, h.chg.new k (by omega)⟩
theorem sub_take (l : List UInt8) (p q m : Nat) (h : q + m ≤ 80) : ((((l.drop p).take 80).drop q).take m) = (l.drop (p + q)).take m := by
  rw [List.drop_take, List.take_take, List.drop_drop, Nat.min_eq_left (by omega)]
theorem low_byte (l : List UInt8) (q : Nat) (h : q + 4 ≤ l.length) : n4 l q % 256 = (l.getD q 0).toNat := by
  unfold n4
  rw [List.drop_eq_getElem_cons (by omega : q < l.length), List.take_succ_cons]
  show (l[q].toNat + 256 * leNum ((l.drop (q + 1)).take 3)) % 256 = _
  have h1 := l[q].toNat_lt
  simp [List.getD_eq_getElem?_getD, (by omega : q < l.length)]
end Go.Proofs.YtaipelkegemoeaaGreatDoor
