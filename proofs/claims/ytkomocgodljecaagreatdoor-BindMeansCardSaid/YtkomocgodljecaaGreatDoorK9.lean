/- Lemmas, laid together: part 9 of 41. Conditions: none but each lemma's own. -/
import Derived.Test.YtkomocgodljecaaGreatDoorK8
import Derived.Laws.CopyRow
import Derived.Shelf.SlSortCmp.NoneTotal
/- slices.Compact of a row of fixups. -/
namespace Go.Proofs.YtkomocgodljecaaGreatDoor
open Go.RowKit
set_option maxRecDepth 100000

theorem compF_cons (a h : Fx) (M : List Fx) (e : M.head? = some h) : compF (a :: M) = if a = h then compF M else a :: compF M := by
  cases M with
  | nil => cases e
  | cons b t =>
    simp only [List.head?_cons, Option.some.injEq] at e
    subst e
    rfl
theorem compF_snoc2 (y x : Fx) : ∀ l : List Fx, compF (l ++ [y] ++ [x]) = if y = x then compF (l ++ [y]) else compF (l ++ [y]) ++ [x]
  | [] => by
    show compF [y, x] = if y = x then [y] else [y] ++ [x]
    unfold compF
    by_cases h : y = x
    · subst h; simp [compF]
    · simp [h, compF]
  | a :: l => by
    have ih := compF_snoc2 y x l
    obtain ⟨h, hh⟩ : ∃ h, (l ++ [y]).head? = some h := by cases l with
      | nil => exact ⟨y, rfl⟩
      | cons b t => exact ⟨b, rfl⟩
    have hh2 : (l ++ [y] ++ [x]).head? = some h := by rw [List.head?_append, hh]; rfl
    show compF (a :: (l ++ [y] ++ [x])) = if y = x then compF (a :: (l ++ [y])) else compF (a :: (l ++ [y])) ++ [x]
    rw [compF_cons a h _ hh, compF_cons a h _ hh2, ih]
    by_cases h1 : a = h <;> by_cases h2 : y = x <;> simp [h1, h2]
theorem compF_take (ls : List Fx) (m : Nat) (h1 : 1 ≤ m) (h2 : m < ls.length) :
    compF (ls.take (m + 1)) = if ls.getD (m - 1) .zero = ls.getD m .zero then compF (ls.take m) else compF (ls.take m) ++ [ls.getD m .zero] := by
  obtain ⟨p, rfl⟩ : ∃ p, m = p + 1 := ⟨m - 1, by omega⟩
  rw [getD_take ls .zero (p + 1) h2, getD_take ls .zero p (by omega)]
  exact compF_snoc2 _ _ _
theorem compF_few (ls : List Fx) (h : ls.length < 2) : compF ls = ls := by
  match ls, h with
  | [], _ => rfl
  | [x], _ => rfl
def zeroV (n : Nat) : List Value := fxV (List.replicate n Fx.zero)
theorem run_clear_fx (w : World) (g o n c : Nat) (cur : Array Value) (ty : TypeId) (hg : w.heap[g]? = some (.cells cur 53 (0, 0))) (hn : 0 < n) (ho : o + n * 7 ≤ cur.size) :
    (Builtin.clear_ #[31] ty #[.slice (some ⟨g, o, none⟩) n c]).run Tryz.prog w = .ok (.tuple #[]) (w.setRow g (cur.toList.take o ++ zeroV n ++ cur.toList.drop (o + n * 7)).toArray) := by
  have hz : (Builtin.zeroCells #[.int .u64 0, .int .i64 0, .int .u64 0, .int .i64 0, .string ⟨#[]⟩, .int .i64 0, .bool false] n).toList = zeroV n := by
    apply List.ext_getElem?
    intro t
    unfold Builtin.zeroCells zeroV
    by_cases ht : t < n * 7
    · have h2 := fxV_get (List.replicate n Fx.zero) (t / 7) (t % 7) (by rw [List.length_replicate]; omega) (Nat.mod_lt _ (by decide))
      rw [show t / 7 * 7 + t % 7 = t by omega] at h2
      have h4 : (List.replicate n Fx.zero).getD (t / 7) Fx.zero = Fx.zero := by
        have : t / 7 < n := by omega
        simp [List.getD_eq_getElem?_getD, this]
      rw [h2, h4]
      have h5 : t % 7 < 7 := Nat.mod_lt _ (by decide)
      simp only [Array.toList_map, Array.toList_range, List.getElem?_map]
      rw [List.getElem?_range (show t < n * #[Value.int .u64 0, .int .i64 0, .int .u64 0, .int .i64 0, .string ⟨#[]⟩, .int .i64 0, .bool false].size from ht)]
      show some (_[t % 7]!) = _
      match hm : t % 7, h5 with
      | 0, _ => rfl
      | 1, _ => rfl
      | 2, _ => rfl
      | 3, _ => rfl
      | 4, _ => rfl
      | 5, _ => rfl
      | 6, _ => rfl
    · rw [List.getElem?_eq_none (by simp; omega), List.getElem?_eq_none (by rw [fxV_len, List.length_replicate]; omega)]
  have hzl : (zeroV n).length = n * 7 := by unfold zeroV; rw [fxV_len, List.length_replicate]
  have hst := run_storeCells_at (P := Tryz.prog) g o 53 (zeroV n) 0 cur w hg (by rw [hzl]; omega) (fx_one _)
  rw [hzl, Nat.add_zero] at hst
  unfold Builtin.clear_
  obtain ⟨k, rfl⟩ : ∃ k, n = k + 1 := ⟨n - 1, by omega⟩
  simp [run_underlying Tryz.uFxsF, Sem.run_bind, Tryz.zeroValue53]
  change (Sem.run Tryz.prog (storeCells ⟨g, o, none⟩ (Builtin.zeroCells #[.int .u64 0, .int .i64 0, .int .u64 0, .int .i64 0, .string ⟨#[]⟩, .int .i64 0, .bool false] (k + 1)).toList) w).andThen _ = _
  rw [hz]
  rw [List.append_assoc] at hst
  erw [hst]
  rfl

set_option maxHeartbeats 8000000 in
theorem Compact_any (ls : List Fx) (v : Value) (w : World) (base : Nat) (hb : FxBuf w base v ls) (hlen : ls.length ≤ 100000) :
    Calls Tryz.prog 65 #[v] w fun e w' => ∃ v', e = .returned v' ∧ FxBuf w' base v' (compF ls) ∧ v'.ownBlock = v.ownBlock ∧ Chg v.ownBlock.toList w w' := by
  obtain ⟨a, n, cap, rfl, hn, hc1, hc2, _⟩ := hb.rd
  subst hn
  unfold maxLen at hc2
  by_cases h2 : ls.length < 2
  · rw [compF_few ls h2]
    have Hb := Lib.hid hb
    clear hb
    go_enter Tryz.func65, Tryz.ntmps65
    go_wp2
    go_ret
    exact ⟨_, rfl, Hb.out, rfl, Chg.refl _ _⟩
  obtain ⟨g, cap', he, hbg, _, _, hob, hfz, hcell⟩ := hb.at (by omega)
  cases he
  rw [hob]
  have Hb := Lib.hid hb
  have Hfz := Lib.hid hfz
  have Hcell := Lib.hid hcell
  have Hob := Lib.hid hob
  clear hb hfz hcell hob
  go_enter Tryz.func65, Tryz.ntmps65
  go_wp2_with fail
  go_loopw [3] (fun s3 wr => ∃ m : Nat, m + 1 ≤ ls.length ∧ s3 = .int .i64 ((m + 1 : Nat) : Int) ∧ compF (ls.take (m + 1)) = ls.take (m + 1) ∧ Chg [] w wr) (fun s3 _ => ls.length - (intOf s3).toNat)
  case atStart => exact ⟨0, by omega, rfl, compF_few _ (by rw [List.length_take]; omega), Chg.refl _ _⟩
  case round =>
    obtain ⟨m, hm, rfl, hpre, hch⟩ := hrel
    have Hpre := Lib.hid hpre
    have Hch := Lib.hid hch
    clear hpre hch
    by_cases hlt : m + 1 < ls.length
    · obtain ⟨f, hf⟩ : ∃ f, f = ls.getD (m + 1) .zero := ⟨_, rfl⟩
      obtain ⟨p, hp⟩ : ∃ p, p = ls.getD m .zero := ⟨_, rfl⟩
      have ck := Hcell.out (m + 1) hlt
      have cp := Hcell.out m (by omega)
      rw [← hf] at ck
      rw [← hp] at cp
      have x0 := Hch.out.cell (ck 0 (by decide)) (by simp)
      have x1 := Hch.out.cell (ck 1 (by decide)) (by simp)
      have x2 := Hch.out.cell (ck 2 (by decide)) (by simp)
      have x3 := Hch.out.cell (ck 3 (by decide)) (by simp)
      have x4 := Hch.out.cell (ck 4 (by decide)) (by simp)
      have x5 := Hch.out.cell (ck 5 (by decide)) (by simp)
      have x6 := Hch.out.cell (ck 6 (by decide)) (by simp)
      have y0 := Hch.out.cell (cp 0 (by decide)) (by simp)
      have y1 := Hch.out.cell (cp 1 (by decide)) (by simp)
      have y2 := Hch.out.cell (cp 2 (by decide)) (by simp)
      have y3 := Hch.out.cell (cp 3 (by decide)) (by simp)
      have y4 := Hch.out.cell (cp 4 (by decide)) (by simp)
      have y5 := Hch.out.cell (cp 5 (by decide)) (by simp)
      have y6 := Hch.out.cell (cp 6 (by decide)) (by simp)
      simp only [Nat.add_zero] at x0 y0
      clear ck cp
      have q := fx_eql f p
      by_cases hfp : f = p
      · have e : decide (f = p) = true := by simpa using hfp
        rw [e] at q
        have Hfp := Lib.hid hfp
        have Hf := Lib.hid hf
        have Hp := Lib.hid hp
        clear hfp hf hp
        clear e
        go_wp2_with fail
        go_quiet (fail)
        obtain ⟨w1, hw1⟩ : ∃ x, x = wr.drewN nq := ⟨_, rfl⟩
        rw [← hw1]
        have HC1 : Hid (Chg [] w w1) := Lib.hid (by rw [hw1]; exact Hch.out.drewN _)
        clear hw1 q x0 x1 x2 x3 x4 x5 x6 y0 y1 y2 y3 y4 y5 y6
        go_wp2_with fail
        obtain ⟨n2, hn2⟩ : ∃ n2, n2 = ls.length - (m + 1) := ⟨_, rfl⟩
        rw [← hn2]
        have hn3 : m + 1 + n2 = ls.length := by omega
        clear hn2
        go_loopw [3, 5] (fun s3 s5 wq => ∃ (kk k2 : Nat) (T : List Fx), s3 = .int .i64 (kk : Int) ∧ s5 = .int .i64 ((k2 + 1 : Nat) : Int) ∧ T.length = ls.length ∧ FxBuf wq base (.slice (some ⟨g, 0, none⟩) ls.length cap) T ∧ T.take kk = compF (ls.take (m + 1 + (k2 + 1))) ∧ kk ≤ m + 1 + k2 ∧ m + 1 + (k2 + 1) ≤ ls.length ∧ (∀ j, m + 1 + k2 ≤ j → T.getD j .zero = ls.getD j .zero) ∧ Chg [g] w wq) (fun _ s5 _ => ls.length - (intOf s5).toNat)
        case atStart =>
          refine ⟨m + 1, 0, ls, rfl, rfl, rfl, Hb.out.pure HC1.out, ?_, Nat.le_refl _, by omega, fun _ _ => rfl, HC1.out.add⟩
          rw [Nat.zero_add, compF_take ls (m + 1) (by omega) hlt, Nat.add_sub_cancel, ← Hp.out, ← Hf.out, if_pos Hfp.out.symm, Hpre.out]
        case round =>
          obtain ⟨kk, k2, T, rfl, rfl, hTl, hTb, hTk, hkk, hk2, hTe, hcq⟩ := hrel
          obtain ⟨wq, rfl⟩ : ∃ x, x = wr := ⟨_, rfl⟩
          obtain ⟨_, _, he, _, _, _, _, hfzT, hcT⟩ := hTb.at (by omega)
          rw [hTl] at he
          cases he
          have HTl := Lib.hid hTl
          have HTb := Lib.hid hTb
          have HTk := Lib.hid hTk
          have HTe := Lib.hid hTe
          have Hcq := Lib.hid hcq
          have HfzT := Lib.hid hfzT
          have HcT := Lib.hid hcT
          clear hTl hTb hTk hTe hcq hfzT hcT
          by_cases hlt3 : k2 + 1 < n2
          · have hlt2 : m + 1 + (k2 + 1) < ls.length := by omega
            have ht1 : ((k2 : Int) + 1).toNat = k2 + 1 := by omega
            have ht2 : (k2 : Int) + 1 < (n2 : Int) := by omega
            have ht3 : (0 : Int) ≤ (k2 : Int) + 1 := by omega
            obtain ⟨f2, hf2⟩ : ∃ x, x = ls.getD (m + 1 + (k2 + 1)) .zero := ⟨_, rfl⟩
            obtain ⟨p2, hp2⟩ : ∃ x, x = ls.getD (m + 1 + k2) .zero := ⟨_, rfl⟩
            have cx := HcT.out (m + 1 + (k2 + 1)) (by have := HTl.out; omega)
            have cy := HcT.out (m + 1 + k2) (by have := HTl.out; omega)
            rw [HTe.out _ (by omega), ← hf2, show (m + 1 + (k2 + 1)) * 7 = (m + 1) * 7 + (k2 + 1) * 7 by omega] at cx
            rw [HTe.out _ (Nat.le_refl _), ← hp2, show (m + 1 + k2) * 7 = (m + 1) * 7 + k2 * 7 by omega] at cy
            have x0 := (Chg.refl [] wq).cell (cx 0 (by decide)) (by simp)
            have x1 := (Chg.refl [] wq).cell (cx 1 (by decide)) (by simp)
            have x2 := (Chg.refl [] wq).cell (cx 2 (by decide)) (by simp)
            have x3 := (Chg.refl [] wq).cell (cx 3 (by decide)) (by simp)
            have x4 := (Chg.refl [] wq).cell (cx 4 (by decide)) (by simp)
            have x5 := (Chg.refl [] wq).cell (cx 5 (by decide)) (by simp)
            have x6 := (Chg.refl [] wq).cell (cx 6 (by decide)) (by simp)
            have y0 := (Chg.refl [] wq).cell (cy 0 (by decide)) (by simp)
            have y1 := (Chg.refl [] wq).cell (cy 1 (by decide)) (by simp)
            have y2 := (Chg.refl [] wq).cell (cy 2 (by decide)) (by simp)
            have y3 := (Chg.refl [] wq).cell (cy 3 (by decide)) (by simp)
            have y4 := (Chg.refl [] wq).cell (cy 4 (by decide)) (by simp)
            have y5 := (Chg.refl [] wq).cell (cy 5 (by decide)) (by simp)
            have y6 := (Chg.refl [] wq).cell (cy 6 (by decide)) (by simp)
            simp only [Nat.add_zero] at x0 y0
            clear cx cy
            have q := fx_neq f2 p2
            by_cases hfp2 : f2 = p2
            · have e : decide (f2 = p2) = true := by simpa using hfp2
              rw [e] at q
              clear e
              have HNEXT : Hid (compF (ls.take (m + 1 + (k2 + 1) + 1)) = compF (ls.take (m + 1 + (k2 + 1)))) := by
                refine Lib.hid ?_
                rw [compF_take ls (m + 1 + (k2 + 1)) (by omega) hlt2, show m + 1 + (k2 + 1) - 1 = m + 1 + k2 by omega, ← hf2, ← hp2, if_pos hfp2.symm]
              have Hfp2 := Lib.hid hfp2
              have Hf2 := Lib.hid hf2
              have Hp2 := Lib.hid hp2
              clear hfp2 hf2 hp2
              go_wp2_with fail
              go_quiet (fail)
              go_wp2
              go_roundw
              case rel =>
                refine ⟨kk, k2 + 1, T, rfl, by go_num, HTl.out, HTb.out.pure ((Chg.refl [] _).drewN _), ?_, by omega, by omega, fun j hj => HTe.out j (by omega), Hcq.out.drewN _⟩
                rw [show m + 1 + (k2 + 1 + 1) = m + 1 + (k2 + 1) + 1 by omega, HNEXT.out]; exact HTk.out
              case measure => simp [intOf]; omega
            · have e : decide (f2 = p2) = false := by simpa using hfp2
              rw [e] at q
              clear e
              have HNEXT : Hid (compF (ls.take (m + 1 + (k2 + 1) + 1)) = compF (ls.take (m + 1 + (k2 + 1))) ++ [f2]) := by
                refine Lib.hid ?_
                rw [compF_take ls (m + 1 + (k2 + 1)) (by omega) hlt2, show m + 1 + (k2 + 1) - 1 = m + 1 + k2 by omega, ← hf2, ← hp2, if_neg (fun e => hfp2 e.symm)]
              have Hfp2 := Lib.hid hfp2
              have Hf2 := Lib.hid hf2
              have Hp2 := Lib.hid hp2
              clear hfp2 hf2 hp2
              go_wp2_with fail
              go_quiet (fail)
              obtain ⟨tk, htk⟩ : ∃ x, x = T.getD kk .zero := ⟨_, rfl⟩
              have ct := HcT.out kk (by have := HTl.out; omega)
              rw [← htk] at ct
              have u0c := (Chg.refl [] wq).cell (ct 0 (by decide)) (by simp)
              have u1c := (Chg.refl [] wq).cell (ct 1 (by decide)) (by simp)
              have u2c := (Chg.refl [] wq).cell (ct 2 (by decide)) (by simp)
              have u3c := (Chg.refl [] wq).cell (ct 3 (by decide)) (by simp)
              have u4c := (Chg.refl [] wq).cell (ct 4 (by decide)) (by simp)
              have u5c := (Chg.refl [] wq).cell (ct 5 (by decide)) (by simp)
              have u6c := (Chg.refl [] wq).cell (ct 6 (by decide)) (by simp)
              simp only [Nat.add_zero] at u0c
              clear ct
              have Htk := Lib.hid htk
              clear htk
              have z0 := HfzT.out (kk * 7)
              have z1 := HfzT.out (kk * 7 + 1)
              have z2 := HfzT.out (kk * 7 + 2)
              have z3 := HfzT.out (kk * 7 + 3)
              have z4 := HfzT.out (kk * 7 + 4)
              have z5 := HfzT.out (kk * 7 + 5)
              have z6 := HfzT.out (kk * 7 + 6)
              go_wp2
              go_roundw
              case rel =>
                have hkl : kk < T.length := by rw [HTl.out]; omega
                refine ⟨kk + 1, k2 + 1, T.set kk f2, by go_num, by go_num, by rw [List.length_set]; exact HTl.out, (HTb.out.pure ((Chg.refl [] _).drewN nq)).set rfl kk hkl f2, ?_, by omega, by omega, fun j hj => ?_, (Hcq.out.drewN nq).same (setW_chg _ _ _ _)⟩
                · rw [show m + 1 + (k2 + 1 + 1) = m + 1 + (k2 + 1) + 1 by omega, HNEXT.out, ← HTk.out, getD_take (T.set kk f2) .zero kk (by rw [List.length_set]; exact hkl)]
                  congr 1
                  · rw [List.take_set, List.set_eq_of_length_le (by rw [List.length_take]; omega)]
                  · simp [List.getD_eq_getElem?_getD, hkl]
                · rw [← HTe.out j (by omega)]
                  simp [List.getD_eq_getElem?_getD, show ¬ kk = j by omega]
              case measure => simp [intOf]; omega
          · have hn4 : m + 1 + (k2 + 1) = ls.length := by omega
            obtain ⟨_, hx⟩ := HTb.out
            rcases hx with ⟨hx, _⟩ | ⟨g', cap', cur, hv', hbg', hg', hnc', hcm', hcs', htake'⟩
            · cases hx
            rw [HTl.out] at hv' htake'
            cases hv'
            have hkl : kk < ls.length := by omega
            have hkc : ¬ (kk : Int) = (cap : Int) := by omega
            have hcl : ∀ ty, (Builtin.clear_ #[31] ty #[.slice (some ⟨g, kk * 7, none⟩) (ls.length - kk) (cap - kk)]).run Tryz.prog wq = .ok (.tuple #[]) (wq.setRow g (cur.toList.take (kk * 7) ++ zeroV (ls.length - kk) ++ cur.toList.drop (kk * 7 + (ls.length - kk) * 7)).toArray) :=
              fun ty => run_clear_fx wq g (kk * 7) (ls.length - kk) (cap - kk) cur ty hg' (by omega) (by rw [hcs']; omega)
            obtain ⟨w9, hw9⟩ : ∃ x, x = wq.setRow g (cur.toList.take (kk * 7) ++ zeroV (ls.length - kk) ++ cur.toList.drop (kk * 7 + (ls.length - kk) * 7)).toArray := ⟨_, rfl⟩
            rw [← hw9] at hcl
            have HTK : Hid (T.take kk = compF ls) := Lib.hid (by rw [HTk.out, hn4, List.take_length])
            have H9 : Hid (FxBuf w9 base (.slice (some ⟨g, 0, none⟩) kk cap) (compF ls)) := by
              refine Lib.hid ?_
              have hkk2 : (compF ls).length = kk := by rw [← HTK.out, List.length_take, HTl.out]; omega
              have hzl : (zeroV (ls.length - kk)).length = (ls.length - kk) * 7 := by unfold zeroV; rw [fxV_len, List.length_replicate]
              refine ⟨by rw [fxV_len], .inr ⟨g, cap, _, by rw [hkk2], hbg', by rw [hw9]; exact setRow_heap wq g cur _ _ _ hg', by omega, hcm', ?_, ?_⟩⟩
              · simp only [List.size_toArray, List.length_append, List.length_take, List.length_drop, Array.length_toList, hzl, hcs']
                omega
              · rw [hkk2]
                show List.take (kk * 7) (cur.toList.take (kk * 7) ++ zeroV (ls.length - kk) ++ cur.toList.drop (kk * 7 + (ls.length - kk) * 7)) = _
                rw [List.append_assoc, List.take_left' (by rw [List.length_take, Array.length_toList, hcs']; omega)]
                have e1 : cur.toList.take (kk * 7) = (fxV T).take (kk * 7) := by rw [← htake', List.take_take, Nat.min_eq_left (by omega)]
                have e2 : fxV T = fxV (T.take kk) ++ fxV (T.drop kk) := by
                  unfold fxV
                  rw [← List.flatMap_append, List.take_append_drop]
                rw [e1, e2, List.take_left' (by rw [fxV_len, List.length_take, HTl.out]; omega), HTK.out]
            have HC9 : Hid (Chg [g] wq w9) := by
              refine Lib.hid ?_
              rw [hw9]
              exact ⟨rfl, rfl, rfl, by rw [size_setRow]; exact Nat.le_refl _, fun i _ hi => setRow_other _ _ _ _ (by simpa using hi)⟩
            clear hw9 hg' hcs' htake' hnc' hcm' hbg'
            go_wp2
            go_ret
            exact ⟨_, rfl, H9.out, rfl, Hcq.out.same HC9.out⟩
      · have e : decide (f = p) = false := by simpa using hfp
        rw [e] at q
        clear e
        have HNEXT : Hid (compF (ls.take (m + 1 + 1)) = ls.take (m + 1 + 1)) := by
          refine Lib.hid ?_
          rw [compF_take ls (m + 1) (by omega) hlt, Nat.add_sub_cancel, ← hf, ← hp, if_neg (fun e => hfp e.symm), Hpre.out, hf, ← getD_take ls .zero (m + 1) hlt]
        have Hfp := Lib.hid hfp
        have Hf := Lib.hid hf
        have Hp := Lib.hid hp
        clear hfp hf hp
        go_wp2_with fail
        go_quiet (fail)
        go_wp2
        go_roundw
        case rel => exact ⟨m + 1, by omega, by go_num, HNEXT.out, Hch.out.drewN _⟩
        case measure => simp [intOf]; omega
    · have hl : ls.length = m + 1 := by omega
      have HALL : Hid (compF ls = ls) := by
        refine Lib.hid ?_
        have := Hpre.out
        rw [← hl, List.take_length] at this
        exact this
      clear hl
      go_wp2
      go_ret
      exact ⟨_, rfl, by rw [HALL.out]; exact Hb.out.pure Hch.out, Hob.out, Hch.out.add⟩
end Go.Proofs.YtkomocgodljecaaGreatDoor
/- fixup.Set. -/
namespace Go.Proofs.YtkomocgodljecaaGreatDoor
open Go.RowKit
set_option maxRecDepth 100000

set_option maxHeartbeats 2000000 in
theorem FSet_any (ls : List Fx) (v : Value) (w : World) (rd : FxRd w v ls) (hlen : ls.length ≤ 100000) :
    Calls Tryz.prog 14 #[v] w fun e w' => ∃ v', e = .returned v' ∧ FxBuf w' w.heap.size v' (setF ls) ∧ Chg [] w w' := by
  have key : Calls Tryz.prog 35 #[v, .func (.func 36) #[] #[]] w fun e w' => ∃ v', e = .returned v' ∧ FxBuf w' w.heap.size v' (setF ls) ∧ Chg [] w w' := by
    have Rd := Lib.hid rd
    clear rd
    go_enter Tryz.func35, Tryz.ntmps35
    go_wp2_with fail
    refine (Clone_anyFx ls v w Rd.out hlen).mono ?_
    rintro e w1 ⟨v1, rfl, hb, hch⟩
    have C1 := Lib.hid (hch)
    clear hch
    obtain ⟨hl0, hx⟩ := id hb
    rcases hx with ⟨rfl, h0⟩ | ⟨g, cap, cur, rfl, hbg, hg, hnc, hcm, hcs, htake⟩
    · have hls : ls = [] := List.eq_nil_of_length_eq_zero h0
      subst hls
      have Hb := Lib.hid hb
      clear hb
      have hs : ∀ W : World, Calls Tryz.prog 64 #[.slice none 0 0, .func (.func 36) #[] #[]] W fun e w' => e = .returned (.tuple #[]) ∧ w' = W := fun W => AnyF.slices_SortFunc_none Tryz.sortFx none 0 (.func (.func 36) #[] #[]) W
      have Hs := Lib.hid hs
      have Hl0 := Lib.hid hl0
      have H0 := Lib.hid h0
      clear hs hl0 h0
      go_wp2_with fail
      refine (Hs.out w1).mono ?_
      rintro e w2 ⟨rfl, rfl⟩
      go_wp2_with fail
      refine (Compact_any [] (.slice none 0 0) w2 w.heap.size Hb.out (by decide)).mono ?_
      rintro e w3 ⟨v3, rfl, hb3, _, hch⟩
      have B3 := Lib.hid (hb3)
      have C3 : Hid (Chg [] w w3) := Lib.hid (C1.out.then hch)
      clear hb3 hch
      go_wp2
      go_ret
      exact ⟨_, rfl, B3.out, C3.out⟩
    · have Hb := Lib.hid hb
      have Hbg := Lib.hid hbg
      clear hb hbg
      clear hl0 hg hcs htake hnc hcm
      go_wp2_with fail
      refine (Sort_any Hb.out (by omega)).mono ?_
      rintro e w2 ⟨rfl, ms, hb2, hml, hmem, hsl, hch⟩
      have B2 := Lib.hid (hb2)
      have C2 : Hid (Chg [] w w2) := Lib.hid (C1.out.trans hch (fun i hi hw => by have := Hbg.out; rw [List.mem_singleton] at hi; omega))
      have HSET : Hid (setF ls = compF ms) := Lib.hid (by rw [compF_set hsl]; exact setF_perm (fun z => (hmem z).symm))
      have hml2 : ms.length ≤ 100000 := by omega
      clear hb2 hml hmem hsl hch
      go_wp2_with fail
      refine (Compact_any ms _ w2 w.heap.size B2.out hml2).mono ?_
      rintro e w3 ⟨v3, rfl, hb3, _, hch⟩
      have B3 := Lib.hid (hb3)
      have C3 : Hid (Chg [] w w3) := Lib.hid (C2.out.trans hch (fun i hi hw => by have := Hbg.out; simp [Value.ownBlock] at hi; omega))
      clear hb3 hch
      go_wp2
      go_ret
      exact ⟨_, rfl, by rw [HSET.out]; exact B3.out, C3.out⟩
  have Key := Lib.hid key
  clear key
  clear rd hlen
  go_enter Tryz.func14, Tryz.ntmps14
  go_wp2_with fail
  refine Key.out.mono ?_
  rintro e w1 ⟨v1, rfl, hb, hch⟩
  have Hb := Lib.hid hb
  have Hch := Lib.hid hch
  clear hb hch
  go_wp2
  go_ret
  exact ⟨_, rfl, Hb.out, Hch.out⟩
end Go.Proofs.YtkomocgodljecaaGreatDoor
/- slices.Equal of rows of fixups; fixup.Same. -/
namespace Go.Proofs.YtkomocgodljecaaGreatDoor
open Go.RowKit
set_option maxRecDepth 100000

end Go.Proofs.YtkomocgodljecaaGreatDoor
