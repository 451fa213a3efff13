/- Lemmas, laid together: part 41 of 46. Conditions: none but each lemma's own. -/
import Derived.Test.YtaipelkegemoeaaGreatDoorJ40
import Derived.Test.YtaipelkegemoeaaGreatDoorJ38
/- Plain: the stream of rebases that is made, and that it is read as them. No program in sight. -/
namespace Go.Proofs.YtaipelkegemoeaaGreatDoor
open Go.RowKit
set_option maxRecDepth 100000

/-- The stream, behind a place of a segment: fuel, the segment (-1: none yet), the place, what is left. -/
def mkB (ls : List Seg) : Nat → Int → Nat → List Fx → List UInt8
  | f + 1, seg, a, x :: r =>
    (if idxI (atS ls x.at_) = seg then 48 :: putU (x.at_ - a).toNat else UInt8.ofNat (32 + (idxI (atS ls x.at_)).toNat) :: putU (x.at_ - (ls.getD (idxI (atS ls x.at_)).toNat .zero).addr).toNat)
    ++ ((if runN ls (x :: r) ≤ 15 then [UInt8.ofNat (80 + runN ls (x :: r))] else 96 :: putU (runN ls (x :: r))) ++ mkB ls f (idxI (atS ls x.at_)) (x.at_.toNat + 8 * runN ls (x :: r)) ((x :: r).drop (runN ls (x :: r))))
  | _, _, _, _ => []
def mkR (ls : List Seg) (sl : List UInt8) : Nat → Int → Nat → List Fx → List Fx → List ItR
  | f + 1, seg, a, x :: r, fs =>
    (if idxI (atS ls x.at_) = seg then ⟨3, 0, putU (x.at_ - a).toNat, x.at_.toNat, true, 1, fs⟩ else ⟨2, (idxI (atS ls x.at_)).toNat, putU (x.at_ - (ls.getD (idxI (atS ls x.at_)).toNat .zero).addr).toNat, x.at_.toNat, true, 1, fs⟩) ::
    (if runN ls (x :: r) ≤ 15 then ⟨5, runN ls (x :: r), [], x.at_.toNat + 8 * runN ls (x :: r), true, 1, fs ++ rebW ls sl x.at_.toNat (runN ls (x :: r))⟩ else ⟨6, 0, putU (runN ls (x :: r)), x.at_.toNat + 8 * runN ls (x :: r), true, 1, fs ++ rebW ls sl x.at_.toNat (runN ls (x :: r))⟩) ::
    mkR ls sl f (idxI (atS ls x.at_)) (x.at_.toNat + 8 * runN ls (x :: r)) ((x :: r).drop (runN ls (x :: r))) (fs ++ rebW ls sl x.at_.toNat (runN ls (x :: r)))
  | _, _, _, _, _ => []
theorem flatR_cons (x : ItR) (L : List ItR) : flatR (x :: L) = x.bytes ++ flatR L := rfl
theorem mk_flat (ls : List Seg) (sl : List UInt8) : ∀ (f : Nat) (seg : Int) (a : Nat) (l fs : List Fx), flatR (mkR ls sl f seg a l fs) = mkB ls f seg a l
  | 0, _, _, _, _ => rfl
  | _ + 1, _, _, [], _ => rfl
  | f + 1, seg, a, x :: r, fs => by
    unfold mkR mkB
    rw [flatR_cons, flatR_cons, mk_flat ls sl f]
    congr 1
    · split <;> rfl
    · congr 1
      split <;> rfl
/-- What holds of a list of which a stream is made. -/
structure GoodR (ls : List Seg) (l : List Fx) : Prop where
  wr : ∀ x ∈ l, writS ls x.at_ 8 = true
  up : ∀ j, j + 1 < l.length → (l.getD j fxl.d).at_ + 8 ≤ (l.getD (j + 1) fxl.d).at_
/-- The segments of an image that may be. -/
structure SegR (ls : List Seg) : Prop where
  b : SegsB ls
  e : ∀ k, k < ls.length → (ls.getD k .zero).addr + (ls.getD k .zero).size ≤ 140737488355328
  n : ls.length ≤ 16
theorem GoodR.drop {ls : List Seg} {l : List Fx} (h : GoodR ls l) (n : Nat) : GoodR ls (l.drop n) := by
  refine ⟨fun x hx => h.wr x (List.mem_of_mem_drop hx), fun j hj => ?_⟩
  have hg : ∀ i, (l.drop n).getD i fxl.d = l.getD (n + i) fxl.d := fun i => by rw [List.getD_eq_getElem?_getD, List.getD_eq_getElem?_getD, List.getElem?_drop]
  rw [List.length_drop] at hj
  rw [hg, hg]
  exact h.up (n + j) (by omega)
/-- Where 8 bytes may be written. -/
theorem wr_facts {ls : List Seg} {A : Int} (h : writS ls A 8 = true) : ∃ k, atS ls A = some k ∧ k < ls.length ∧ holeS (ls.getD k .zero) = false ∧ (ls.getD k .zero).addr ≤ A ∧ A - (ls.getD k .zero).addr + 8 ≤ (ls.getD k .zero).size := by
  unfold writS at h
  cases hk : atS ls A with
  | none => rw [hk] at h; exact absurd (show false = true from h) (by decide)
  | some k =>
    rw [hk] at h
    have h1 := idx_true Seg.zero hk
    unfold inS at h1
    simp only [Bool.and_eq_true, decide_eq_true_eq, Bool.not_eq_true'] at h h1
    exact ⟨k, rfl, idx_lt hk, h1.1, h1.2.1, by omega⟩
theorem runN_pos (ls : List Seg) (x : Fx) (r : List Fx) : 1 ≤ runN ls (x :: r) := Nat.le_add_left _ _
theorem runN_le (ls : List Seg) : ∀ l : List Fx, runN ls l ≤ l.length
  | [] => Nat.le_refl _
  | x :: r => by
    have := runG_le ls (atS ls x.at_) x.at_ r
    show runG ls (atS ls x.at_) x.at_ r + 1 ≤ r.length + 1
    omega
theorem runG_at (ls : List Seg) (hs : SegR ls) (i0 : Option Nat) : ∀ (p : Int) (r : List Fx), 0 ≤ p → p + 8 ≤ 140737488355328 → (∀ y ∈ r, writS ls y.at_ 8 = true) → ∀ j, j < runG ls i0 p r → (r.getD j fxl.d).at_ = p + 8 * ((j : Int) + 1)
  | _, [], _, _, _, _, hj => absurd hj (Nat.not_lt_zero _)
  | p, y :: r, h0, hp, hw, j, hj => by
    unfold runG at hj
    split at hj
    · rename_i hy
      have e1 : IntKind.u64.wrap (p + 8) = p + 8 := by rw [IntKind.wrap_u64]; omega
      rw [e1] at hy
      obtain ⟨k, _, hk, _, h1, h2⟩ := wr_facts (hw y (List.mem_cons_self ..))
      have h3 := hs.e k hk
      cases j with
      | zero => show y.at_ = _; rw [hy.1]; simp
      | succ j =>
        have := runG_at ls hs i0 y.at_ r (by omega) (by omega) (fun z hz => hw z (List.mem_cons_of_mem _ hz)) j (by omega)
        show (r.getD j fxl.d).at_ = _
        rw [this, hy.1]
        push_cast
        omega
    · exact absurd hj (Nat.not_lt_zero _)
theorem runN_at (ls : List Seg) (hs : SegR ls) (x : Fx) (r : List Fx) (hw : ∀ y ∈ x :: r, writS ls y.at_ 8 = true) (j : Nat) (hj : j < runN ls (x :: r)) : ((x :: r).getD j fxl.d).at_ = x.at_ + 8 * (j : Int) := by
  obtain ⟨k, _, hk, _, h1, h2⟩ := wr_facts (hw x (List.mem_cons_self ..))
  have h3 := hs.e k hk
  have h4 := (hs.b k hk).1.1
  cases j with
  | zero => show x.at_ = _; simp
  | succ j =>
    have := runG_at ls hs (atS ls x.at_) x.at_ r (by omega) (by omega) (fun z hz => hw z (List.mem_cons_of_mem _ hz)) j (Nat.lt_of_succ_lt_succ hj)
    show (r.getD j fxl.d).at_ = _
    rw [this]
    push_cast
    omega
/-- The rebases of places, with the words that stand there. -/
def rebL (ls : List Seg) (sl : List UInt8) (l : List Fx) : List Fx := l.map fun x => rebF x.at_ (wordS ls sl x.at_).1
theorem rebW_run (ls : List Seg) (hs : SegR ls) (sl : List UInt8) (x : Fx) (r : List Fx) (hw : ∀ y ∈ x :: r, writS ls y.at_ 8 = true) : rebW ls sl x.at_.toNat (runN ls (x :: r)) = rebL ls sl ((x :: r).take (runN ls (x :: r))) := by
  obtain ⟨k, _, hk, _, h1, h2⟩ := wr_facts (hw x (List.mem_cons_self ..))
  have h4 := (hs.b k hk).1.1
  have hle := runN_le ls (x :: r)
  have hx0 : ((x.at_.toNat : Nat) : Int) = x.at_ := by omega
  apply List.ext_getElem?
  intro j
  unfold rebW rebL
  rw [List.getElem?_map, List.getElem?_map]
  by_cases hj : j < runN ls (x :: r)
  · have h5 := runN_at ls hs x r hw j hj
    rw [List.getD_eq_getElem?_getD, List.getElem?_eq_getElem (by omega)] at h5
    rw [List.getElem?_range hj, List.getElem?_take_of_lt hj, List.getElem?_eq_getElem (by omega)]
    simp only [Option.map_some, Option.getD_some] at h5 ⊢
    rw [h5]
    have : ((x.at_.toNat + 8 * j : Nat) : Int) = x.at_ + 8 * (j : Int) := by push_cast; omega
    rw [this]
  · rw [List.getElem?_eq_none (by simpa using hj), List.getElem?_eq_none (by simp; omega)]
    rfl
/-- Each opcode makes its state of the one ahead of it. -/
def okR (ls : List Seg) (sl : List UInt8) : ItR → List ItR → Prop
  | _, [] => True
  | st, x :: r => StepR ls sl st x ∧ okR ls sl x r
theorem okR_at (ls : List Seg) (sl : List UInt8) : ∀ (L : List ItR) (st : ItR), okR ls sl st L → ∀ i, i < L.length → StepR ls sl (if i = 0 then st else L.getD (i - 1) .zero) (L.getD i .zero)
  | [], _, _, i, hi => absurd hi (Nat.not_lt_zero _)
  | x :: r, st, h, i, hi => by
    cases i with
    | zero => exact h.1
    | succ i =>
      have := okR_at ls sl r x h.2 i (by simpa using hi)
      rw [if_neg (by omega), Nat.add_sub_cancel]
      cases i with
      | zero => exact this
      | succ i => exact this
theorem okR_row {ls : List Seg} {sl : List UInt8} {L : List ItR} (h : okR ls sl .zero L) (i : Nat) (hi : i < L.length) : StepR ls sl (itS L i) (L.getD i .zero) := by
  have := okR_at ls sl L .zero h i hi
  cases i with
  | zero => exact this
  | succ i => exact this
theorem mk_ok (ls : List Seg) (hs : SegR ls) (sl : List UInt8) : ∀ (f : Nat) (seg : Int) (a : Nat) (l fs : List Fx) (st : ItR), GoodR ls l → st.typ = 1 → st.fs = fs → fs.length + l.length ≤ 20000 → (seg ≠ -1 → st.is_ = true ∧ st.A = a ∧ ∀ x ∈ l.head?, (a : Int) ≤ x.at_) → okR ls sl st (mkR ls sl f seg a l fs)
  | 0, _, _, _, _, _, _, _, _, _, _ => trivial
  | _ + 1, _, _, [], _, _, _, _, _, _, _ => trivial
  | f + 1, seg, a, x :: r, fs, st, hg, ht, hf, hlen, hseg => by
    have hw := hg.wr
    obtain ⟨k, hk1, hk, hh, h1, h2⟩ := wr_facts (hw x (List.mem_cons_self ..))
    have h3 := hs.e k hk
    have h4 := (hs.b k hk).1.1
    have h5 := hs.n
    have hle := runN_le ls (x :: r)
    have hpos := runN_pos ls x r
    have hrun := runN_at ls hs x r hw
    have hi : idxI (atS ls x.at_) = (k : Int) := by rw [hk1]; rfl
    have hx0 : ((x.at_.toNat : Nat) : Int) = x.at_ := by omega
    unfold mkR
    rw [hi]
    obtain ⟨n, hn⟩ : ∃ n, n = runN ls (x :: r) := ⟨_, rfl⟩
    rw [← hn] at hle hpos hrun ⊢
    have hwj : ∀ j, j < n → writS ls ((x.at_.toNat + 8 * j : Nat) : Int) 8 = true := fun j hj => by
      have e := hrun j hj
      have e2 : ((x.at_.toNat + 8 * j : Nat) : Int) = ((x :: r).getD j fxl.d).at_ := by rw [e]; push_cast; omega
      rw [e2]
      refine hw _ ?_
      rw [List.getD_eq_getElem?_getD, List.getElem?_eq_getElem (by omega)]
      exact List.getElem_mem _
    have hlast : x.at_.toNat + 8 * n ≤ 140737488355328 := by
      have hw2 := hwj (n - 1) (by omega)
      obtain ⟨k2, _, hk2, _, q1, q2⟩ := wr_facts hw2
      have q3 := hs.e k2 hk2
      omega
    have hlen2 : fs.length + n ≤ 20000 := by omega
    refine ⟨?_, ?_, ?_⟩
    · split
      · rename_i he
        obtain ⟨s1, s2, s3⟩ := hseg (by omega)
        have s4 := s3 x rfl
        refine .inr (.inr (.inl ⟨rfl, rfl, s1, ⟨(x.at_ - a).toNat, by omega, rfl, ?_, ?_⟩, rfl, ht.symm, hf.symm⟩))
        · show x.at_.toNat = st.A + _
          omega
        · omega
      · refine .inr (.inl ⟨rfl, by show (k : Int).toNat < 16; omega, ⟨(x.at_ - (ls.getD (k : Int).toNat .zero).addr).toNat, ?_, rfl, ?_⟩, rfl, ht.symm, hf.symm⟩)
        · rw [Int.toNat_natCast]; omega
        · show placeS ls ((k : Int).toNat : Nat) _ = (((x.at_.toNat : Nat) : Int), 0)
          rw [Int.toNat_natCast]
          unfold placeS
          rw [if_pos (by omega), Int.toNat_natCast, hh, if_neg (by decide), if_neg (by omega)]
          have : IntKind.u64.wrap ((ls.getD k .zero).addr + ((x.at_ - (ls.getD k .zero).addr).toNat : Nat)) = ((x.at_.toNat : Nat) : Int) := by rw [IntKind.wrap_u64]; omega
          rw [this]
    · have e1 : ∀ (p q : ItR) (c : Prop) [Decidable c], (p.A = x.at_.toNat ∧ p.is_ = true ∧ p.typ = 1 ∧ p.fs = fs) → (q.A = x.at_.toNat ∧ q.is_ = true ∧ q.typ = 1 ∧ q.fs = fs) → ((if c then p else q).A = x.at_.toNat ∧ (if c then p else q).is_ = true ∧ (if c then p else q).typ = 1 ∧ (if c then p else q).fs = fs) := fun p q c _ hp hq => by
        split
        · exact hp
        · exact hq
      obtain ⟨a1, a2, a3, a4⟩ := e1 ⟨3, 0, putU (x.at_ - a).toNat, x.at_.toNat, true, 1, fs⟩ ⟨2, ((k : Int)).toNat, putU (x.at_ - (ls.getD ((k : Int)).toNat .zero).addr).toNat, x.at_.toNat, true, 1, fs⟩ ((k : Int) = seg) ⟨rfl, rfl, rfl, rfl⟩ ⟨rfl, rfl, rfl, rfl⟩
      generalize (if (k : Int) = seg then (⟨3, 0, putU (x.at_ - a).toNat, x.at_.toNat, true, 1, fs⟩ : ItR) else ⟨2, ((k : Int)).toNat, putU (x.at_ - (ls.getD ((k : Int)).toNat .zero).addr).toNat, x.at_.toNat, true, 1, fs⟩) = s1 at *
      split
      · rename_i h15
        refine .inr (.inr (.inr (.inl ⟨rfl, by show n < 16; omega, by show n ≠ 0; omega, rfl, a2, a3, rfl, rfl, ?_, ?_, ?_, ?_, ?_⟩)))
        · show x.at_.toNat + 8 * n = s1.A + 8 * n; rw [a1]
        · show s1.A + 8 * n < _; rw [a1]; omega
        · rw [a1]; exact hwj
        · rw [a4]; exact hlen2
        · rw [a1, a4]
      · refine .inr (.inr (.inr (.inr ⟨rfl, rfl, a2, a3, rfl, rfl, n, rfl, ?_, ?_, ?_, ?_, ?_⟩)))
        · show x.at_.toNat + 8 * n = s1.A + 8 * n; rw [a1]
        · rw [a1]; omega
        · rw [a1]; exact hwj
        · rw [a4]; exact hlen2
        · rw [a1, a4]
    · refine mk_ok ls hs sl f (k : Int) (x.at_.toNat + 8 * n) ((x :: r).drop n) _ _ (hg.drop n) ?_ ?_ ?_ ?_
      · split <;> rfl
      · split <;> rfl
      · rw [List.length_append, rebW_len, List.length_drop]
        omega
      · intro _
        refine ⟨by split <;> rfl, by split <;> rfl, fun y hy => ?_⟩
        have hyl : n < (x :: r).length := by
          by_cases h : n < (x :: r).length
          · exact h
          · rw [List.drop_eq_nil_of_le (by omega)] at hy; cases hy
        have hup := hg.up (n - 1) (by omega)
        rw [hrun (n - 1) (by omega), show n - 1 + 1 = n by omega] at hup
        have hyy : (x :: r).getD n fxl.d = y := by
          rw [drop_getR (x :: r) n fxl.d hyl] at hy
          cases hy
          rfl
        rw [hyy] at hup
        omega
/-- A set none of which meet stands 8 apart. -/
theorem good_up {S : List Fx} (hs : SS S) (hm : meetF S = false) (j : Nat) (hj : j + 1 < S.length) : (S.getD j fxl.d).at_ + 8 ≤ (S.getD (j + 1) fxl.d).at_ := by
  have hp := List.pairwise_iff_getElem.1 hs j (j + 1) (by omega) hj (by omega)
  rw [List.getD_eq_getElem?_getD, List.getD_eq_getElem?_getD, List.getElem?_eq_getElem (show j < S.length by omega), List.getElem?_eq_getElem hj]
  simp only [Option.getD_some]
  have ha := List.getElem_mem (show j < S.length by omega)
  have hb := List.getElem_mem hj
  generalize S[j] = a at *
  generalize S[j + 1] = b at *
  have h1 := ord_at hp
  have hne : a ≠ b := by
    rintro rfl
    rw [ord_self] at hp
    exact absurd hp (by decide)
  unfold meetF at hm
  rw [List.any_eq_false] at hm
  have h2 := hm a ha
  rw [Bool.not_eq_true, List.any_eq_false] at h2
  have h3 := h2 b hb
  rw [decide_eq_true hne, Bool.true_and, Bool.not_eq_true] at h3
  unfold apart8 at h3
  rw [decide_eq_false_iff_not] at h3
  split at h3 <;> omega
/-- Behind all opcodes. -/
def endR (st : ItR) : List ItR → ItR
  | [] => st
  | x :: r => endR x r
theorem endR_itS : ∀ (L : List ItR) (st : ItR), endR st L = if L.length = 0 then st else L.getD (L.length - 1) .zero
  | [], _ => rfl
  | [x], _ => rfl
  | x :: y :: r, st => by
    show endR x (y :: r) = _
    rw [endR_itS (y :: r) x, if_neg (by simp), if_neg (by simp)]
    rfl
theorem mk_end (ls : List Seg) (hs : SegR ls) (sl : List UInt8) : ∀ (f : Nat) (seg : Int) (a : Nat) (l fs : List Fx) (st : ItR), l.length ≤ f → (∀ x ∈ l, writS ls x.at_ 8 = true) → st.fs = fs → (endR st (mkR ls sl f seg a l fs)).fs = fs ++ rebL ls sl l
  | 0, _, _, l, fs, st, hl, _, hf => by
    obtain rfl : l = [] := List.length_eq_zero_iff.1 (by omega)
    show st.fs = _
    rw [hf]
    simp [rebL]
  | f + 1, _, _, [], fs, st, _, _, hf => by
    show st.fs = _
    rw [hf]
    simp [rebL]
  | f + 1, seg, a, x :: r, fs, st, hl, hw, hf => by
    unfold mkR
    show (endR _ (mkR ls sl f _ _ _ _)).fs = _
    have hpos := runN_pos ls x r
    rw [mk_end ls hs sl f _ _ _ _ _ (by rw [List.length_drop]; simp only [List.length_cons] at hl ⊢; omega) (fun y hy => hw y (List.mem_of_mem_drop hy)) (by split <;> rfl)]
    rw [rebW_run ls hs sl x r hw, List.append_assoc]
    congr 1
    unfold rebL
    rw [← List.map_append, List.take_append_drop]
/-- The whole stream. -/
def mkL (ls : List Seg) (sl : List UInt8) (l : List Fx) : List ItR := ⟨1, 1, [], 0, false, 1, []⟩ :: mkR ls sl l.length (-1) 0 l []
def mkAll (ls : List Seg) (l : List Fx) : List UInt8 := 17 :: (mkB ls l.length (-1) 0 l ++ [0])
theorem mkL_flat (ls : List Seg) (sl : List UInt8) (l : List Fx) : flatR (mkL ls sl l) ++ [0] = mkAll ls l := by
  unfold mkL mkAll
  rw [flatR_cons, mk_flat]
  rfl
theorem mkL_ok (ls : List Seg) (hs : SegR ls) (sl : List UInt8) (l : List Fx) (hg : GoodR ls l) (hl : l.length ≤ 20000) : okR ls sl .zero (mkL ls sl l) :=
  ⟨.inl ⟨rfl, by decide, rfl, rfl, rfl, rfl, rfl⟩, mk_ok ls hs sl l.length (-1) 0 l [] _ hg rfl rfl (by simpa using hl) (fun h => absurd rfl h)⟩
theorem mkL_end (ls : List Seg) (hs : SegR ls) (sl : List UInt8) (l : List Fx) (hw : ∀ x ∈ l, writS ls x.at_ 8 = true) : (itS (mkL ls sl l) (mkL ls sl l).length).fs = rebL ls sl l := by
  have h1 := mk_end ls hs sl l.length (-1) 0 l [] ⟨1, 1, [], 0, false, 1, []⟩ (Nat.le_refl _) hw rfl
  have h2 := endR_itS (mkL ls sl l) .zero
  rw [if_neg (by unfold mkL; simp)] at h2
  have h3 : itS (mkL ls sl l) (mkL ls sl l).length = (mkL ls sl l).getD ((mkL ls sl l).length - 1) .zero := by
    unfold mkL
    rfl
  rw [h3, ← h2]
  exact h1
/-- rebase.Decode of a stream that was made. -/
theorem Decode_made (ls : List Seg) (hs : SegR ls) (sl : List UInt8) (l : List Fx) (hg : GoodR ls l) (hl : l.length ≤ 20000) (hB : (mkAll ls l).length ≤ 140737488355328) (w : World) (hw : Env w) (slv : SlV) (m : Img) (hd : DIn w { Rdr.zero with sl := slv, m := m } ls sl) (stv : Value) (hst : Rd w stv (bytesV (mkAll ls l))) :
    Calls Tryz.prog 8 #[slv.v, imgL.val m, stv] w fun e w' => ∃ so : SlV, e = .returned (.tuple #[so.v, .int .i64 0]) ∧ Chg [] w w' ∧ FB w' w.heap.size so.v (rebL ls sl l) := by
  have hrow := row_items (mkL ls sl l) w hw slv m ls sl hd (okR_row (mkL_ok ls hs sl l hg hl))
  rw [mkL_flat] at hrow
  refine (Decode_row slv m stv (mkAll ls l) hB w hst _ _ _ _ 0 _ _ hrow).mono ?_
  rintro e w' ⟨so, rfl, hc, _, h2⟩
  obtain ⟨bc, b', W0, _, hk, h3, h4, h5⟩ := h2 rfl
  refine ⟨so, rfl, hc, ?_⟩
  have hk' : FB W0 (b' + 1) so.v (rebL ls sl l) := by rw [← mkL_end ls hs sl l hg.wr]; exact hk
  exact (hk'.frame h5 (fun k hk2 hm => by have := (hk'.lt k hk2).1; simp at hm; omega)).mono (by omega)
end Go.Proofs.YtaipelkegemoeaaGreatDoor
/- Plain: bytes of opcodes; a row's end. -/
namespace Go.Proofs.YtaipelkegemoeaaGreatDoor
open Go.RowKit
set_option maxRecDepth 100000

theorem or32 (i : Nat) (h : i < 16) : bits .or .u8 32 (IntKind.u8.wrap (i : Int)) = ((32 + i : Nat) : Int) := by
  have : i = 0 ∨ i = 1 ∨ i = 2 ∨ i = 3 ∨ i = 4 ∨ i = 5 ∨ i = 6 ∨ i = 7 ∨ i = 8 ∨ i = 9 ∨ i = 10 ∨ i = 11 ∨ i = 12 ∨ i = 13 ∨ i = 14 ∨ i = 15 := by omega
  rcases this with rfl | rfl | rfl | rfl | rfl | rfl | rfl | rfl | rfl | rfl | rfl | rfl | rfl | rfl | rfl | rfl <;> decide
theorem or80 (i : Nat) (h : i < 16) : bits .or .u8 80 (IntKind.u8.wrap (i : Int)) = ((80 + i : Nat) : Int) := by
  have : i = 0 ∨ i = 1 ∨ i = 2 ∨ i = 3 ∨ i = 4 ∨ i = 5 ∨ i = 6 ∨ i = 7 ∨ i = 8 ∨ i = 9 ∨ i = 10 ∨ i = 11 ∨ i = 12 ∨ i = 13 ∨ i = 14 ∨ i = 15 := by omega
  rcases this with rfl | rfl | rfl | rfl | rfl | rfl | rfl | rfl | rfl | rfl | rfl | rfl | rfl | rfl | rfl | rfl <;> decide
theorem rd_drop {α : Type} {L : Lay α} {w : World} {g off n cap : Nat} {ls : List α} (h : L.Rd w (.slice (some ⟨g, off, none⟩) n cap) ls) (k : Nat) (hk : k < ls.length) : L.Rd w (.slice (some ⟨g, off + k * L.n, none⟩) (ls.length - k) (cap - k)) (ls.drop k) := by
  obtain ⟨a', n', cap', he, hn, h1, h2, h3⟩ := h
  cases he
  refine ⟨_, _, _, rfl, by rw [List.length_drop], by omega, by omega, fun _ => ?_⟩
  obtain ⟨b, o, hb, hlt, hc⟩ := h3 (by intro e; rw [e] at hk; exact absurd hk (Nat.not_lt_zero _))
  cases hb
  refine ⟨g, off + k * L.n, rfl, hlt, fun j hj c hcn => ?_⟩
  rw [List.length_drop] at hj
  have := hc (k + j) (by omega) c hcn
  rw [show off + k * L.n + j * L.n = off + (k + j) * L.n by rw [Nat.add_mul]; omega]
  rw [show (ls.drop k).getD j L.d = ls.getD (k + j) L.d by rw [List.getD_eq_getElem?_getD, List.getD_eq_getElem?_getD, List.getElem?_drop]]
  exact this
/-- What a call of Make hands back. -/
def MakeP (ls : List Seg) (S : List Fx) (w : World) (e : Ending) (w' : World) : Prop :=
  ∃ (so : SlV) (E : Int), e = .returned (.tuple #[so.v, .int .i64 E]) ∧ Chg [] w w' ∧ (E = 0 → BB w' w.heap.size so.v (mkAll ls S) ∧ (∀ x ∈ S, x.kind = 1 ∧ mayR x = true ∧ writS ls x.at_ 8 = true) ∧ meetF S = false)
theorem MakeP.no {ls : List Seg} {S : List Fx} {w w' : World} {E : Int} (h : ¬ E = 0) (hc : Chg [] w w') : MakeP ls S w (.returned (.tuple #[.slice none 0 0, .int .i64 E])) w' := ⟨⟨none, 0, 0⟩, E, rfl, hc, fun e => absurd e h⟩
end Go.Proofs.YtaipelkegemoeaaGreatDoor
/- Plain: one group of the stream of rebases. -/
namespace Go.Proofs.YtaipelkegemoeaaGreatDoor
open Go.RowKit
set_option maxRecDepth 100000

/-- A group's place. -/
def headB (ls : List Seg) (x : Fx) (seg : Int) (a : Nat) : List UInt8 :=
  if idxI (atS ls x.at_) = seg then 48 :: putU (x.at_ - a).toNat else UInt8.ofNat (32 + (idxI (atS ls x.at_)).toNat) :: putU (x.at_ - (ls.getD (idxI (atS ls x.at_)).toNat .zero).addr).toNat
/-- A group's number. -/
def lenB (n : Nat) : List UInt8 := if n ≤ 15 then [UInt8.ofNat (80 + n)] else 96 :: putU n
theorem putU_len (n : Nat) : (putU n).length ≤ 10 := (putUf_length 9 n).1
theorem headB_len (ls : List Seg) (x : Fx) (seg : Int) (a : Nat) : (headB ls x seg a).length ≤ 11 := by
  unfold headB
  split <;> simp only [List.length_cons] <;> exact Nat.succ_le_succ (putU_len _)
theorem lenB_len (n : Nat) : (lenB n).length ≤ 11 := by
  unfold lenB
  split
  · simp
  · simp only [List.length_cons]
    exact Nat.succ_le_succ (putU_len _)
theorem mkB_step (ls : List Seg) (f : Nat) (seg : Int) (a : Nat) (x : Fx) (r : List Fx) :
    mkB ls (f + 1) seg a (x :: r) = headB ls x seg a ++ (lenB (runN ls (x :: r)) ++ mkB ls f (idxI (atS ls x.at_)) (x.at_.toNat + 8 * runN ls (x :: r)) ((x :: r).drop (runN ls (x :: r)))) := rfl
/-- Between two groups of the main loop: k fixups are told. -/
structure MkI (ls : List Seg) (S : List Fx) (g C k r : Nat) (A : Option Addr) (c : Nat) (seg : Int) (a : Nat) (out : List UInt8) : Prop where
  len : k + r = S.length
  at_ : k < S.length → A = some ⟨g, k * 7, none⟩ ∧ c + k = C
  eq : ∃ f, r ≤ f ∧ out ++ mkB ls f seg a (S.drop k) = 17 :: mkB ls S.length (-1) 0 S
  up : k < S.length → seg = -1 ∨ (a : Int) ≤ (S.getD k fxl.d).at_
  n : out.length ≤ 1 + 30 * k
theorem MkI.run_le {ls : List Seg} {S : List Fx} {g C k r : Nat} {A : Option Addr} {c : Nat} {seg : Int} {a : Nat} {out : List UInt8} (h : MkI ls S g C k r A c seg a out) (hk : k < S.length) : 1 ≤ runN ls (S.drop k) ∧ runN ls (S.drop k) ≤ r := by
  have h1 := runN_le ls (S.drop k)
  have h2 := h.len
  rw [List.length_drop] at h1
  refine ⟨?_, by omega⟩
  rw [drop_getR S k fxl.d hk]
  exact runN_pos ls _ _
/-- Where the last one of a group stands. -/
theorem run_last {ls : List Seg} {S : List Fx} (hs : SegR ls) (hg : GoodR ls S) {k : Nat} (hk : k < S.length) (j : Nat) (hj : j < runN ls (S.drop k)) :
    0 ≤ (S.getD k fxl.d).at_ ∧ (S.getD (k + j) fxl.d).at_ = (S.getD k fxl.d).at_ + 8 * (j : Int) ∧ (S.getD (k + j) fxl.d).at_ + 8 ≤ 140737488355328 := by
  have hd := drop_getR S k fxl.d hk
  have hw : ∀ y ∈ S.getD k fxl.d :: S.drop (k + 1), writS ls y.at_ 8 = true := fun y hy => hg.wr y (by rw [← hd] at hy; exact List.mem_of_mem_drop hy)
  have h0 := hw _ (List.mem_cons_self ..)
  obtain ⟨k0, _, hk0, _, q1, q2⟩ := wr_facts h0
  have q4 := (hs.b k0 hk0).1.1
  rw [hd] at hj
  have h1 := runN_at ls hs _ _ hw j hj
  have h2 := runN_le ls (S.getD k fxl.d :: S.drop (k + 1))
  rw [← hd] at h1 h2 hj
  rw [List.length_drop] at h2
  rw [show (S.drop k).getD j fxl.d = S.getD (k + j) fxl.d by rw [List.getD_eq_getElem?_getD, List.getD_eq_getElem?_getD, List.getElem?_drop]] at h1
  refine ⟨by omega, h1, ?_⟩
  have hm : S.getD (k + j) fxl.d ∈ S := by
    rw [List.getD_eq_getElem?_getD, List.getElem?_eq_getElem (show k + j < S.length by omega)]
    exact List.getElem_mem _
  obtain ⟨k1, _, hk1, _, p1, p2⟩ := wr_facts (hg.wr _ hm)
  have p3 := hs.e k1 hk1
  omega
theorem MkI.step {ls : List Seg} {S : List Fx} {g C k r : Nat} {A : Option Addr} {c : Nat} {seg : Int} {a : Nat} {out : List UInt8} (h : MkI ls S g C k r A c seg a out) (hk : k < S.length) (hs : SegR ls) (hg : GoodR ls S) {x : Fx} (hx : x = S.getD k fxl.d) {n : Nat} (hn : n = runN ls (S.drop k)) {A2 : Option Addr} {c2 : Nat} (hA : k + n < S.length → A2 = some ⟨g, (k + n) * 7, none⟩ ∧ c2 + (k + n) = C) :
    MkI ls S g C (k + n) (r - n) A2 c2 (idxI (atS ls x.at_)) (x.at_.toNat + 8 * n) (out ++ headB ls x seg a ++ lenB n) := by
  obtain ⟨h1, h2⟩ := h.run_le hk
  have h3 := h.len
  have hd := drop_getR S k fxl.d hk
  rw [← hn] at h1 h2
  refine ⟨by omega, hA, ?_, fun hlt => .inr ?_, ?_⟩
  · obtain ⟨f, hf, he⟩ := h.eq
    obtain ⟨f, rfl⟩ : ∃ q, f = q + 1 := ⟨f - 1, by omega⟩
    refine ⟨f, by omega, ?_⟩
    rw [← he, hd, ← hx, mkB_step, hx, ← hd, ← hn, List.drop_drop, List.append_assoc, List.append_assoc]
  · obtain ⟨l0, l1, _⟩ := run_last hs hg hk (n - 1) (by omega)
    have hu := hg.up (k + (n - 1)) (by omega)
    rw [show k + (n - 1) + 1 = k + n by omega] at hu
    rw [hx]
    omega
  · have := headB_len ls x seg a
    have := lenB_len n
    have := h.n
    rw [List.length_append, List.length_append]
    omega
end Go.Proofs.YtaipelkegemoeaaGreatDoor
