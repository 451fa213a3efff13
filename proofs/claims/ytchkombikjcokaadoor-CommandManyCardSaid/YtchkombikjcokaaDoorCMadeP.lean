/- A made file reads as it was made (plain). -/
import Derived.Test.YtchkombikjcokaaDoorCShort
import Derived.Test.YtchkombikjcokaaDoorCPlain
namespace Go.Proofs.YtchkombikjcokaaDoor
open Go.RowKit
set_option maxRecDepth 100000

section
variable (sub kind fl : Nat) (cs : List Cmd)
theorem made_ok (h : makeE sub kind cs = 0) : (sub = 0 ∨ sub = 2) ∧ (kind = 2 ∨ kind = 6) ∧ kindB sub kind = true ∧ (∀ c ∈ cs, mayB c.1 c.2 = true) ∧ cs.length ≤ 256 ∧ 32 + (catL cs).length ≤ 1048576 := by
  unfold makeE at h
  split at h
  · cases h
  rename_i h1
  split at h
  · cases h
  rename_i h2
  split at h
  · cases h
  rename_i h3
  have hk : kindB sub kind = true := by simpa using h1
  have hk' : (sub = 0 ∨ sub = 2) ∧ (kind = 2 ∨ kind = 6) := by
    have : ((sub : Int) = 0 ∨ (sub : Int) = 2) ∧ ((kind : Int) = 2 ∨ (kind : Int) = 6) := by simpa [kindB] using hk
    omega
  have ha : (cs.all fun c => mayB c.1 c.2) = true := by simpa using h2
  exact ⟨hk'.1, hk'.2, hk, fun c hc => List.all_eq_true.1 ha c hc, by omega, by omega⟩
theorem made_words (hfl : fl < 4294967296) (h : makeE sub kind cs = 0) : hdSub (makeL sub kind fl cs) = sub ∧ nL (makeL sub kind fl cs) 12 = kind ∧ nL (makeL sub kind fl cs) 24 = fl ∧ nL (makeL sub kind fl cs) 16 = cs.length ∧ nL (makeL sub kind fl cs) 20 = (catL cs).length ∧ headE (makeL sub kind fl cs) = 0 := by
  obtain ⟨hs, hk, hkb, _, hc, hl⟩ := made_ok sub kind cs h
  have hw : ∀ m ∈ words sub kind fl cs, m < 4294967296 := by
    intro m hm
    simp only [words, List.mem_cons, List.not_mem_nil, or_false] at hm
    omega
  have key : ∀ i, i < 8 → nL (makeL sub kind fl cs) (4 * i) = (words sub kind fl cs).getD i 0 := fun i hi => nL_words _ _ i hi hw
  have k0 := key 0 (by decide)
  have k1 := key 1 (by decide)
  have k2 := key 2 (by decide)
  have k3 := key 3 (by decide)
  have k4 := key 4 (by decide)
  have k5 := key 5 (by decide)
  have k6 := key 6 (by decide)
  have hsub : hdSub (makeL sub kind fl cs) = sub := by
    unfold hdSub
    rw [show (8 : Nat) = 4 * 2 from rfl, k2]
    show sub % 16777216 = sub
    omega
  refine ⟨hsub, k3, k6, k4, k5, ?_⟩
  unfold headE
  rw [makeL_len, hsub, show nL (makeL sub kind fl cs) 0 = 4277009103 from k0, show nL (makeL sub kind fl cs) 4 = 16777228 from k1, show nL (makeL sub kind fl cs) 12 = kind from k3, show nL (makeL sub kind fl cs) 16 = cs.length from k4, show nL (makeL sub kind fl cs) 20 = (catL cs).length from k5]
  rw [if_neg (by omega), if_neg (by omega), if_neg (by omega), if_neg (by rw [hkb]; decide), if_neg (by omega), if_neg (by omega)]
theorem catL_split (k : Nat) (h : k < cs.length) : catL cs = catL (cs.take k) ++ ((cs.getD k (0, [])).2 ++ catL (cs.drop (k + 1))) := by
  have e : cs = cs.take k ++ (cs.getD k (0, []) :: cs.drop (k + 1)) := by
    rw [List.getD_eq_getElem?_getD, List.getElem?_eq_getElem h, Option.getD_some, List.getElem_cons_drop, List.take_append_drop]
  conv => lhs; rw [e]
  simp [catL]
theorem headW_len : (headL (words sub kind fl cs)).length = 32 := by
  have := makeL_len sub kind fl cs
  unfold makeL at this
  rw [List.length_append] at this
  omega
theorem made_drop (k : Nat) (h : k < cs.length) : (makeL sub kind fl cs).drop (32 + (catL (cs.take k)).length) = (cs.getD k (0, [])).2 ++ catL (cs.drop (k + 1)) := by
  unfold makeL
  rw [catL_split cs k h, ← List.append_assoc, List.drop_left' (by rw [List.length_append, headW_len])]
theorem made_cmd (hok : ∀ c ∈ cs, mayB c.1 c.2 = true) (k : Nat) (h : k < cs.length) :
    nL (makeL sub kind fl cs) (32 + (catL (cs.take k)).length) = (cs.getD k (0, [])).1 ∧ nL (makeL sub kind fl cs) (32 + (catL (cs.take k)).length + 4) = (cs.getD k (0, [])).2.length ∧ 8 ≤ (cs.getD k (0, [])).2.length ∧ (cs.getD k (0, [])).2.length % 8 = 0 := by
  have hm : cs.getD k (0, []) ∈ cs := by rw [List.getD_eq_getElem?_getD, List.getElem?_eq_getElem h]; exact List.getElem_mem h
  obtain ⟨h1, h2, h3, h4⟩ := (mayB_eq _ _).1 (hok _ hm)
  refine ⟨?_, ?_, h1, h4⟩
  · unfold nL
    rw [made_drop sub kind fl cs k h, List.take_append_of_le_length (by omega)]
    exact h2
  · unfold nL
    rw [← List.drop_drop, made_drop sub kind fl cs k h, List.drop_append_of_le_length (by omega), List.take_append_of_le_length (by rw [List.length_drop]; omega)]
    exact h3
theorem made_st (hok : ∀ c ∈ cs, mayB c.1 c.2 = true) : ∀ k, k ≤ cs.length → stC (makeL sub kind fl cs) (catL cs).length k = (32 + (catL (cs.take k)).length, (catL cs).length - (catL (cs.take k)).length) ∧ allC (makeL sub kind fl cs) (catL cs).length k = true
  | 0, _ => ⟨by simp [stC, catL], rfl⟩
  | k + 1, hk => by
    obtain ⟨ih, iha⟩ := made_st hok k (by omega)
    obtain ⟨h1, h2, h3, h4⟩ := made_cmd sub kind fl cs hok k (by omega)
    have hle := catL_get_le cs k (by omega)
    have hsn : (catL (cs.take (k + 1))).length = (catL (cs.take k)).length + (cs.getD k (0, [])).2.length := by rw [catL_snoc cs k (by omega), List.length_append]
    have hsz : szC (makeL sub kind fl cs) (catL cs).length k = (cs.getD k (0, [])).2.length := by unfold szC; rw [ih]; exact h2
    refine ⟨?_, ?_⟩
    · show ((stC _ _ k).1 + nL _ ((stC _ _ k).1 + 4), (stC _ _ k).2 - nL _ ((stC _ _ k).1 + 4)) = _
      rw [ih]
      show (32 + (catL (cs.take k)).length + nL _ (32 + (catL (cs.take k)).length + 4), (catL cs).length - (catL (cs.take k)).length - nL _ (32 + (catL (cs.take k)).length + 4)) = _
      rw [h2, hsn]
      exact Prod.ext (by simp; omega) (by simp; omega)
    · rw [allC_succ, iha, Bool.true_and, okC_eq, hsz, ih]
      exact ⟨by show 8 ≤ _ - _; omega, h3, h4, by show _ ≤ _ - _; omega⟩
theorem made_cmds (hok : ∀ c ∈ cs, mayB c.1 c.2 = true) : cmdsC (makeL sub kind fl cs) (catL cs).length cs.length = cs := by
  refine List.ext_getElem (by rw [cmdsC_len]) (fun k h1 h2 => ?_)
  obtain ⟨e1, e2, e3, e4⟩ := made_cmd sub kind fl cs hok k h2
  obtain ⟨ih, _⟩ := made_st sub kind fl cs hok k (by omega)
  have hg : cs.getD k (0, []) = cs[k] := by rw [List.getD_eq_getElem?_getD, List.getElem?_eq_getElem h2, Option.getD_some]
  have hsz : szC (makeL sub kind fl cs) (catL cs).length k = (cs.getD k (0, [])).2.length := by unfold szC; rw [ih]; exact e2
  have hc : cmdC (makeL sub kind fl cs) (catL cs).length k = cs.getD k (0, []) := by
    unfold cmdC
    rw [hsz, ih]
    show (nL _ (32 + (catL (cs.take k)).length), ((makeL sub kind fl cs).drop (32 + (catL (cs.take k)).length)).take _) = _
    rw [e1, made_drop sub kind fl cs k h2, List.take_left' rfl]
  have e : (cmdsC (makeL sub kind fl cs) (catL cs).length cs.length)[k] = cmdC (makeL sub kind fl cs) (catL cs).length k := by simp [cmdsC]
  rw [e, hc, hg]
/-- What is read of a made file. -/
theorem made_reads (hfl : fl < 4294967296) (h : makeE sub kind cs = 0) :
    readE (makeL sub kind fl cs) = 0 ∧ rN (makeL sub kind fl cs) (hdSub (makeL sub kind fl cs)) = sub ∧ rN (makeL sub kind fl cs) (nL (makeL sub kind fl cs) 12) = kind ∧ rN (makeL sub kind fl cs) (nL (makeL sub kind fl cs) 24) = fl ∧ rN (makeL sub kind fl cs) (32 + nL (makeL sub kind fl cs) 20) = (makeL sub kind fl cs).length ∧ readCs (makeL sub kind fl cs) = cs := by
  obtain ⟨_, _, _, hok, _, _⟩ := made_ok sub kind cs h
  obtain ⟨w1, w2, w3, w4, w5, w6⟩ := made_words sub kind fl cs hfl h
  have hE : readE (makeL sub kind fl cs) = 0 := by
    unfold readE
    rw [if_pos w6, w5, w4, if_pos (made_st sub kind fl cs hok _ (Nat.le_refl _)).2]
  refine ⟨hE, ?_, ?_, ?_, ?_, ?_⟩
  · unfold rN; rw [if_pos hE]; exact w1
  · unfold rN; rw [if_pos hE]; exact w2
  · unfold rN; rw [if_pos hE]; exact w3
  · unfold rN; rw [if_pos hE, w5, makeL_len]
  · unfold readCs; rw [if_pos hE, w5, w4]; exact made_cmds sub kind fl cs hok
end
end Go.Proofs.YtchkombikjcokaaDoor
