/- Lemmas, laid together: part 13 of 39. Conditions: none but each lemma's own. -/
import Derived.Test.YtppbcgffdpdklaaGreatDoorJ10
import Derived.Test.YtppbcgffdpdklaaGreatDoorJ12
import Derived.Shelf.SlSortCmp.NoneTotal
import Derived.Test.YtppbcgffdpdklaaGreatDoorJ9
import Derived.Test.YtppbcgffdpdklaaGreatDoorJ5
/- fixup.Set. -/
namespace Go.Proofs.YtppbcgffdpdklaaGreatDoor
open Go.RowKit
set_option maxRecDepth 100000

set_option maxHeartbeats 2000000 in
theorem FSet_any (ls : List Fx) (v : Value) (w : World) (rd : FxRd w v ls) (hlen : ls.length ≤ 100000) :
    Calls Tryz.prog 14 #[v] w fun e w' => ∃ v', e = .returned v' ∧ FxBuf w' w.heap.size v' (setF ls) ∧ Chg [] w w' := by
  have key : Calls Tryz.prog 35 #[v, .func (.func 36) #[] #[]] w fun e w' => ∃ v', e = .returned v' ∧ FxBuf w' w.heap.size v' (setF ls) ∧ Chg [] w w' := by
    have Rd := Lib.hid rd
    clear rd
    go_enter Tryz.func35, Tryz.ntmps35
    go_wp2_with fail
    refine (Clone_any ls v w Rd.out hlen).mono ?_
    rintro e w1 ⟨v1, rfl, hb, hch⟩
    have C1 := Lib.hid (hch)
    clear hch
    obtain ⟨hl0, hx⟩ := id hb
    rcases hx with ⟨rfl, h0⟩ | ⟨g, cap, cur, rfl, hbg, hg, hnc, hcm, hcs, htake⟩
    · have hls : ls = [] := List.eq_nil_of_length_eq_zero h0
      subst hls
      have Hb := Lib.hid hb
      clear hb
      have hs : ∀ W : World, Calls Tryz.prog 53 #[.slice none 0 0, .func (.func 36) #[] #[]] W fun e w' => e = .returned (.tuple #[]) ∧ w' = W := fun W => AnyF.slices_SortFunc_none Tryz.sortFx none 0 (.func (.func 36) #[] #[]) W
      have Hs := Lib.hid hs
      have Hl0 := Lib.hid hl0
      have H0 := Lib.hid h0
      clear hs hl0 h0
      go_wp2_with fail
      refine (Hs.out w1).mono ?_
      rintro e w2 ⟨rfl, rfl⟩
      go_wp2_with fail
      refine (Compact_any [] (.slice none 0 0) w2 w.heap.size Hb.out (by decide)).mono ?_
      rintro e w3 ⟨v3, rfl, hb3, _, hch⟩
      have B3 := Lib.hid (hb3)
      have C3 : Hid (Chg [] w w3) := Lib.hid (C1.out.then hch)
      clear hb3 hch
      go_wp2
      go_ret
      exact ⟨_, rfl, B3.out, C3.out⟩
    · have Hb := Lib.hid hb
      have Hbg := Lib.hid hbg
      clear hb hbg
      clear hl0 hg hcs htake hnc hcm
      go_wp2_with fail
      refine (Sort_any Hb.out (by omega)).mono ?_
      rintro e w2 ⟨rfl, ms, hb2, hml, hmem, hsl, hch⟩
      have B2 := Lib.hid (hb2)
      have C2 : Hid (Chg [] w w2) := Lib.hid (C1.out.trans hch (fun i hi hw => by have := Hbg.out; rw [List.mem_singleton] at hi; omega))
      have HSET : Hid (setF ls = compF ms) := Lib.hid (by rw [compF_set hsl]; exact setF_perm (fun z => (hmem z).symm))
      have hml2 : ms.length ≤ 100000 := by omega
      clear hb2 hml hmem hsl hch
      go_wp2_with fail
      refine (Compact_any ms _ w2 w.heap.size B2.out hml2).mono ?_
      rintro e w3 ⟨v3, rfl, hb3, _, hch⟩
      have B3 := Lib.hid (hb3)
      have C3 : Hid (Chg [] w w3) := Lib.hid (C2.out.trans hch (fun i hi hw => by have := Hbg.out; simp [Value.ownBlock] at hi; omega))
      clear hb3 hch
      go_wp2
      go_ret
      exact ⟨_, rfl, by rw [HSET.out]; exact B3.out, C3.out⟩
  have Key := Lib.hid key
  clear key
  clear rd hlen
  go_enter Tryz.func14, Tryz.ntmps14
  go_wp2_with fail
  refine Key.out.mono ?_
  rintro e w1 ⟨v1, rfl, hb, hch⟩
  have Hb := Lib.hid hb
  have Hch := Lib.hid hch
  clear hb hch
  go_wp2
  go_ret
  exact ⟨_, rfl, Hb.out, Hch.out⟩
end Go.Proofs.YtppbcgffdpdklaaGreatDoor
/- slices.Equal of rows of fixups; fixup.Same. -/
namespace Go.Proofs.YtppbcgffdpdklaaGreatDoor
open Go.RowKit
set_option maxRecDepth 100000

end Go.Proofs.YtppbcgffdpdklaaGreatDoor
/- clevisref12.Set. -/
namespace Go.Proofs.YtppbcgffdpdklaaGreatDoor
open Go.RowKit
set_option maxRecDepth 100000

theorem ss_lt {S : List Fx} (h : SS S) {i j : Nat} (hij : i < j) (hj : j < S.length) : ordF (S.getD i .zero) (S.getD j .zero) < 0 := by
  have := List.pairwise_iff_getElem.1 h i j (by omega) hj hij
  simpa [List.getD_eq_getElem?_getD, hj, show i < S.length by omega] using this
theorem ss_low {S : List Fx} (h : SS S) {x : Fx} {m : Nat} (hm : m < S.length) (hx : ordF (S.getD m .zero) x < 0) : ∀ j, j < m + 1 → ordF (S.getD j .zero) x < 0 := by
  intro j hj
  by_cases e : j = m
  · subst e; exact hx
  · exact ord_lt_trans (ss_lt h (by omega) hm) hx
theorem ss_high {S : List Fx} (h : SS S) {x : Fx} {m : Nat} (hx : ¬ ordF (S.getD m .zero) x < 0) : ∀ j, m ≤ j → j < S.length → ¬ ordF (S.getD j .zero) x < 0 := by
  intro j h1 h2 hj
  by_cases e : j = m
  · subst e; exact hx hj
  · exact hx (ord_lt_trans (ss_lt h (by omega) h2) hj)
theorem take_sn (S : List Fx) (z : Fx) (k : Nat) (h : k ≤ S.length) : (S ++ [z]).take k = S.take k := List.take_append_of_le_length h
theorem cur_set (S : List Fx) (z x : Fx) (lo : Nat) (h : lo ≤ S.length) : ((S ++ [z]).take (lo + 1) ++ S.drop lo).set lo x = S.take lo ++ x :: S.drop lo := by
  rw [getD_take (S ++ [z]) .zero lo (by simp; omega), take_sn S z lo h, List.append_assoc, List.set_append_right _ _ (by rw [List.length_take]; omega)]
  have e : lo - (S.take lo).length = 0 := by rw [List.length_take]; omega
  rw [e]
  rfl
theorem shift_set (S : List Fx) (z : Fx) (k : Nat) (h : k < S.length) : ((S ++ [z]).take (k + 2) ++ S.drop (k + 1)).set (k + 1) (S.getD k .zero) = (S ++ [z]).take (k + 1) ++ S.drop k := by
  rw [cur_set S z _ (k + 1) (by omega), take_sn S z (k + 1) (by omega)]
  congr 1
  rw [List.drop_eq_getElem_cons h]
  congr 1
  simp [List.getD_eq_getElem?_getD, h]
theorem cur_len (S : List Fx) (z : Fx) (k : Nat) (h : k ≤ S.length) : ((S ++ [z]).take (k + 1) ++ S.drop k).length = S.length + 1 := by
  rw [List.length_append, List.length_take, List.length_append, List.length_drop, List.length_singleton]; omega
theorem cur_get (S : List Fx) (z : Fx) (k : Nat) (h : k < S.length) : ((S ++ [z]).take (k + 2) ++ S.drop (k + 1)).getD k .zero = S.getD k .zero := by
  rw [List.getD_eq_getElem?_getD, List.getD_eq_getElem?_getD, List.getElem?_append_left (by rw [List.length_take, List.length_append, List.length_singleton]; omega), List.getElem?_take, if_pos (by omega), List.getElem?_append_left h]
end Go.Proofs.YtppbcgffdpdklaaGreatDoor
/- clevisref12.Same. -/
namespace Go.Proofs.YtppbcgffdpdklaaGreatDoor
open Go.RowKit
set_option maxRecDepth 100000

end Go.Proofs.YtppbcgffdpdklaaGreatDoor
/- Do fixups meet? (plain) -/
namespace Go.Proofs.YtppbcgffdpdklaaGreatDoor
set_option maxRecDepth 100000

/-- Two that stand side by side, less than 8 bytes apart. -/
def adjF : List Fx → Bool
  | [] => false
  | [_] => false
  | x :: y :: r => decide (y.at_ - x.at_ < 8) || adjF (y :: r)
theorem ord_at {a b : Fx} (h : ordF a b < 0) : a.at_ ≤ b.at_ := by
  unfold ordF th at h
  have hc : cmpI a.at_ b.at_ = -1 ∨ cmpI a.at_ b.at_ = 0 ∨ cmpI a.at_ b.at_ = 1 := cmpI_is.one _ _
  by_cases h0 : cmpI a.at_ b.at_ = 0
  · have := cmpI_eq.1 h0; omega
  · rw [if_neg h0] at h
    unfold cmpI at h
    split at h
    · omega
    · split at h <;> omega
theorem adj_iff : ∀ {l : List Fx}, SS l → (adjF l = true ↔ ∃ a ∈ l, ∃ b ∈ l, ordF a b < 0 ∧ b.at_ - a.at_ < 8)
  | [], _ => by simp [adjF]
  | [x], _ => by
    simp only [adjF, Bool.false_eq_true, false_iff, List.mem_singleton]
    rintro ⟨a, rfl, b, rfl, h, _⟩
    rw [ord_self] at h
    omega
  | x :: y :: r, h => by
    have h' := List.pairwise_cons.1 h
    have ih := adj_iff (l := y :: r) h'.2
    unfold adjF
    rw [Bool.or_eq_true, ih, decide_eq_true_eq]
    constructor
    · rintro (h1 | ⟨a, ha, b, hb, h1, h2⟩)
      · exact ⟨x, List.mem_cons_self .., y, List.mem_cons_of_mem _ (List.mem_cons_self ..), h'.1 y (List.mem_cons_self ..), h1⟩
      · exact ⟨a, List.mem_cons_of_mem _ ha, b, List.mem_cons_of_mem _ hb, h1, h2⟩
    · rintro ⟨a, ha, b, hb, h1, h2⟩
      rcases List.mem_cons.1 ha with e | ha2
      · subst e
        rcases List.mem_cons.1 hb with e | hb2
        · subst e; rw [ord_self] at h1; omega
        · refine .inl ?_
          have hyb : y.at_ ≤ b.at_ := by
            rcases List.mem_cons.1 hb2 with e | hb3
            · rw [e]; exact Int.le_refl _
            · exact ord_at ((List.pairwise_cons.1 h'.2).1 b hb3)
          omega
      · rcases List.mem_cons.1 hb with e | hb2
        · subst e
          have := h'.1 a ha2
          have := ord_anti a b
          omega
        · exact .inr ⟨a, ha2, b, hb2, h1, h2⟩
theorem adj_meet (l : List Fx) : adjF (setF l) = meetF l := by
  have h1 := adj_iff (ss_setF l)
  have h2 : meetF l = true ↔ ∃ a ∈ l, ∃ b ∈ l, ordF a b < 0 ∧ b.at_ - a.at_ < 8 := by
    unfold meetF
    rw [List.any_eq_true]
    constructor
    · rintro ⟨a, ha, h⟩
      rw [List.any_eq_true] at h
      obtain ⟨b, hb, h⟩ := h
      rw [Bool.and_eq_true, decide_eq_true_eq] at h
      obtain ⟨hne, h8⟩ := h
      unfold apart8 at h8
      rw [decide_eq_true_eq] at h8
      have ho := ordF_is.one a b
      have hn : ordF a b ≠ 0 := fun e => hne (ordF_eq.1 e)
      have ha2 := ord_anti a b
      by_cases hlt : ordF a b < 0
      · have := ord_at hlt
        refine ⟨a, ha, b, hb, hlt, ?_⟩
        split at h8 <;> omega
      · have hlt2 : ordF b a < 0 := by omega
        have := ord_at hlt2
        refine ⟨b, hb, a, ha, hlt2, ?_⟩
        split at h8 <;> omega
    · rintro ⟨a, ha, b, hb, h1, h2⟩
      refine ⟨a, ha, ?_⟩
      rw [List.any_eq_true]
      refine ⟨b, hb, ?_⟩
      rw [Bool.and_eq_true, decide_eq_true_eq]
      refine ⟨fun e => by rw [e, ord_self] at h1; omega, ?_⟩
      unfold apart8
      rw [decide_eq_true_eq]
      have := ord_at h1
      split <;> omega
  have h3 : adjF (setF l) = true ↔ meetF l = true := by
    rw [h1, h2]
    constructor
    · rintro ⟨a, ha, b, hb, h⟩; exact ⟨a, mem_setF.1 ha, b, mem_setF.1 hb, h⟩
    · rintro ⟨a, ha, b, hb, h⟩; exact ⟨a, mem_setF.2 ha, b, mem_setF.2 hb, h⟩
  cases e1 : adjF (setF l) <;> cases e2 : meetF l <;> simp_all
end Go.Proofs.YtppbcgffdpdklaaGreatDoor
/- fixup.Meet. -/
namespace Go.Proofs.YtppbcgffdpdklaaGreatDoor
open Go.RowKit
set_option maxRecDepth 100000

theorem adj_get : ∀ {l : List Fx}, adjF l = true ↔ ∃ j, j + 1 < l.length ∧ (l.getD (j + 1) .zero).at_ - (l.getD j .zero).at_ < 8
  | [] => by simp [adjF]
  | [x] => by simp [adjF]
  | x :: y :: r => by
    have ih := adj_get (l := y :: r)
    unfold adjF
    rw [Bool.or_eq_true, decide_eq_true_eq, ih]
    constructor
    · rintro (h | ⟨j, h1, h2⟩)
      · exact ⟨0, by simp, h⟩
      · exact ⟨j + 1, by simpa using h1, h2⟩
    · rintro ⟨j, h1, h2⟩
      cases j with
      | zero => exact .inl h2
      | succ j => exact .inr ⟨j, by simpa using h1, h2⟩
set_option maxHeartbeats 4000000 in
theorem FMeet_any (ls : List Fx) (v : Value) (w : World) (rd : FxRd w v ls) (hl : ls.length ≤ 100000) (hr : ∀ f ∈ ls, 0 ≤ f.at_ ∧ f.at_ < 18446744073709551616) :
    Calls Tryz.prog 37 #[v] w fun e w' => e = .returned (.bool (meetF ls)) ∧ Chg [] w w' := by
  rw [← adj_meet]
  obtain ⟨S, hS⟩ : ∃ S, S = setF ls := ⟨_, rfl⟩
  have hSl : S.length ≤ 100000 := by have := setF_len ls; rw [← hS] at this; omega
  have HSS : Hid (SS S) := Lib.hid (by rw [hS]; exact ss_setF _)
  have HRG : Hid (∀ j, j < S.length → 0 ≤ (S.getD j .zero).at_ ∧ (S.getD j .zero).at_ < 18446744073709551616) := by
    refine Lib.hid ?_
    intro j hj
    refine hr _ (mem_setF.1 ?_)
    rw [← hS, List.getD_eq_getElem?_getD, List.getElem?_eq_getElem hj]
    exact List.getElem_mem hj
  have HFS : Hid (Calls Tryz.prog 14 #[v] w fun e w' => ∃ v', e = .returned v' ∧ FxBuf w' w.heap.size v' S ∧ Chg [] w w') := Lib.hid (by rw [hS]; exact FSet_any ls v w rd hl)
  rw [← hS]
  clear hS hr rd hl
  go_enter Tryz.func37, Tryz.ntmps37
  go_wp2_with fail
  refine (HFS.out).mono ?_
  rintro e w1 ⟨v1, rfl, hb, hch⟩
  obtain ⟨a1, n1, c1, rfl, rfl, hc1, hc2, _⟩ := hb.rd
  unfold maxLen at hc2
  have Hb := Lib.hid hb
  have Hch := Lib.hid hch
  clear hb hch
  go_wp2_with fail
  go_loopw [4] (fun s4 wr => ∃ m : Nat, m ≤ S.length ∧ s4 = .int .i64 ((m + 1 : Nat) : Int) ∧ (∀ j, j < m → j + 1 < S.length → ¬ (S.getD (j + 1) .zero).at_ - (S.getD j .zero).at_ < 8) ∧ Chg [] w1 wr) (fun s4 _ => S.length + 1 - (intOf s4).toNat)
  case atStart => exact ⟨0, Nat.zero_le _, rfl, fun j h => absurd h (Nat.not_lt_zero _), Chg.refl _ _⟩
  case round =>
    obtain ⟨m, hm, rfl, hno, hcq⟩ := hrel
    have Hno := Lib.hid hno
    have Hcq := Lib.hid hcq
    clear hno hcq
    by_cases hlt : m + 1 < S.length
    · obtain ⟨g, cap, he, _, _, _, _, _, hcell⟩ := Hb.out.at (by omega)
      cases he
      obtain ⟨p, hp⟩ : ∃ q, q = (S.getD (m + 1) .zero).at_ := ⟨_, rfl⟩
      obtain ⟨q, hq⟩ : ∃ q, q = (S.getD m .zero).at_ := ⟨_, rfl⟩
      have x0 : wr.cell? ⟨g, (m + 1) * 7, none⟩ = some (.int .u64 p) := by rw [hp]; exact Hcq.out.cell (hcell (m + 1) hlt 0 (by decide)) (by simp)
      have y0 : wr.cell? ⟨g, m * 7, none⟩ = some (.int .u64 q) := by rw [hq]; exact Hcq.out.cell (hcell m (by omega) 0 (by decide)) (by simp)
      have hle : q ≤ p := by rw [hp, hq]; exact ord_at (ss_lt HSS.out (Nat.lt_succ_self m) hlt)
      have hw : IntKind.u64.wrap (p - q) = p - q := by
        have h1 := HRG.out (m + 1) hlt
        have h2 := HRG.out m (by omega)
        rw [← hp] at h1
        rw [← hq] at h2
        rw [IntKind.wrap_u64]
        omega
      clear hcell
      by_cases h8 : p - q < 8
      · have d8 : decide (p - q < 8) = true := by simpa using h8
        have HT : Hid (adjF S = true) := Lib.hid (adj_get.2 ⟨m, hlt, by rw [← hp, ← hq]; exact h8⟩)
        clear h8 hle hp hq
        go_wp2_with fail
        go_quiet (fail)
        go_wp2
        go_ret
        exact ⟨by rw [HT.out]; rfl, Hch.out.then (Hcq.out.drewN _)⟩
      · have d8 : decide (p - q < 8) = false := by simpa using h8
        have HN : Hid (¬ (S.getD (m + 1) .zero).at_ - (S.getD m .zero).at_ < 8) := Lib.hid (by rw [← hp, ← hq]; exact h8)
        clear h8 hle hp hq
        go_wp2_with fail
        go_quiet (fail)
        go_wp2
        go_roundw
        case rel =>
          refine ⟨m + 1, by omega, by go_num, fun j h1 h2 => ?_, Hcq.out.drewN _⟩
          by_cases e : j = m
          · subst e; have := HN.out; omega
          · have := Hno.out j (by omega) h2; omega
        case measure => simp [intOf]; omega
    · have HF : Hid (adjF S = false) := by
        refine Lib.hid ?_
        cases e : adjF S with
        | false => rfl
        | true =>
          obtain ⟨j, h1, h2⟩ := adj_get.1 e
          have := Hno.out j (by omega) h1; omega
      go_wp2
      go_ret
      exact ⟨by rw [HF.out]; rfl, Hch.out.then Hcq.out⟩
end Go.Proofs.YtppbcgffdpdklaaGreatDoor
/- A whole record, read in a region that draws. No program in sight. -/
namespace Go.Proofs.YtppbcgffdpdklaaGreatDoor
open Go.RowKit
namespace Lay
theorem read_ld {α : Type} {L : Lay α} {P : Program} {T : TypeId} (hT : Ty L P T) {d : Tmp} {s : Operand} {ty : TypeId} {pos : String} {after : Array Edge} {g : Option (Nat × Bool)} {ev : Operand → Value} {y : Nat → Option Bool} {w : World} {b off : Nat} {x : α} (hx : L.In w b off x) (hw : Region.wanted ⟨some d, .load T s, ty, pos, after, g⟩ y = true) (hs : ev s = .pointer (some ⟨b, off, none⟩)) :
    if Region.wanted ⟨some d, .load T s, ty, pos, after, g⟩ y = true then (execOp ev ⟨some d, .load T s, ty, pos, after, g⟩).run P w = .ok (.value (L.val x)) w else L.val x = undef := by
  rw [if_pos hw]
  unfold execOp
  simp only [Instr.loadAt, Instr.sureAddr, Sem.run_bind, Sem.run_pure, hs, Result.andThen_ok, run_load_rec hT hx]
/-- A whole record, loaded under a guard that is met. -/
theorem ldG2 {α : Type} {L : Lay α} {P : Program} {T : TypeId} {ops : Array Oper} {rest : List Oper} {a : Act} {Q : Exit → Act → World → Prop} {w : World} (hT : Ty L P T) {d : Tmp} {s : Operand} {ty : TypeId} {pos : String} {after : Array Edge} {g : Nat × Bool} {b off : Nat} (x : α) (hx : L.In w b off x) (hw : Region.wanted ⟨some d, .load T s, ty, pos, after, some g⟩ (yielded ops a.tmps) = true) (hs : a.eval s = .pointer (some ⟨b, off, none⟩))
    (h : wpList P ops Q rest (a.put (some d) (.agg (L.f x).toArray)) w) : wpList P ops Q (⟨some d, .load T s, ty, pos, after, some g⟩ :: rest) a w := by
  refine wpList_step fun K hK => ?_
  rw [if_pos hw]
  unfold Oper.wp execOp
  simp only [Instr.loadAt, Instr.sureAddr, Sem.run_bind, Sem.run_pure, hs, Result.andThen_ok, run_load_rec hT hx]
  exact hK _ _ h
end Lay
end Go.Proofs.YtppbcgffdpdklaaGreatDoor
