/- Plain: what was laid as a head stands in it. No program in sight. -/
import Derived.Test.YtkclmknepbbhnaaDoorCRead
namespace Go.Proofs.YtkclmknepbbhnaaDoor
open Go.RowKit
set_option maxRecDepth 100000

theorem okM_spec {d : Nat} {fm : Int} {l : List Imp} (h : okM d fm l = true) : (fm = 1 ∨ fm = 2 ∨ fm = 3) ∧ l.length ≤ 4096 ∧ ∀ k, k < l.length → okI d fm (l.getD k .zero) = true := by
  unfold okM at h
  simp only [Bool.and_eq_true, Bool.or_eq_true, decide_eq_true_iff] at h
  exact ⟨by omega, h.1.2, all_get.1 h.2⟩
theorem okI_spec {d : Nat} {fm : Int} {x : Imp} (h : okI d fm x = true) : x.sym.size ≠ 0 ∧ x.sym.size ≤ 255 ∧ ¬ 0 ≤ Lib.indexByte x.sym.data.toList 0 ∧ ordB x.ord d = true ∧ fmtN [x] ≤ fm := by
  unfold okI txtB at h
  simp only [Bool.and_eq_true, decide_eq_true_iff, Bool.not_eq_true', decide_eq_false_iff_not] at h
  exact ⟨h.1.1.1.1, h.1.1.1.2, h.1.1.2, h.1.2, h.2⟩
def padB : List UInt8 := laid0 3 ++ List.replicate 4 0
theorem padB_len : padB.length = 20 := by decide
theorem mkB_eq (fm : Int) (l : List Imp) : mkB fm l = hdB (hdW fm l) ++ (padB ++ ((nmAll fm l).out ++ (nmAll fm l).ns)) := by unfold mkB padB; simp only [List.append_assoc]
theorem text_at (B a s r : List UInt8) (hB : B = a ++ (s ++ 0 :: r)) (hs : ¬ 0 ≤ Lib.indexByte s 0) (hl : s.length ≤ 255) : textS (cs B a.length) 255 = cs B (a.length + s.length + 1) ∧ textL (cs B a.length) 255 = s := by
  have hd : B.drop a.length = s ++ 0 :: r := by rw [hB, List.drop_left]
  have hz : zeroAt (cs B a.length) = s.length := by
    unfold zeroAt
    show Lib.indexByte (B.drop a.length) 0 = _
    rw [hd, indexByte_app r s hs]
  have hok : textOk (cs B a.length) 255 = true := by
    unfold textOk
    rw [hz]
    simp only [cs, Bool.not_false, Bool.true_and, Bool.and_eq_true, decide_eq_true_iff]
    omega
  constructor
  · unfold textS
    rw [hok, if_pos rfl, hz]
    rfl
  · unfold textL
    rw [hok, if_pos rfl, hz]
    show (B.drop a.length).take _ = s
    rw [hd]
    simp
theorem head_mk (d : Nat) (hd : d ≤ 64) (fm : Int) (l : List Imp) (ok : okM d fm l = true) (wf : ∀ x ∈ l, x.wf) : Head (mkB fm l) d 3 fm l 28 48 (48 + (nmAll fm l).out.length) ∧ (mkB fm l).length = 48 + (nmAll fm l).out.length + (nmAll fm l).ns.length := by
  obtain ⟨hfm, hm, hok⟩ := okM_spec ok
  have hsz : ∀ x ∈ l, x.sym.size ≤ 300 := by
    intro x hx
    obtain ⟨j, hj, rfl⟩ := List.getElem_of_mem hx
    have := (okI_spec (hok j hj)).2.1
    rw [List.getD_eq_getElem?_getD, List.getElem?_eq_getElem hj] at this
    exact Nat.le_trans this (by decide)
  have hfit := nmAll_fit fm l hsz l.length (Nat.le_refl _)
  rw [List.take_length] at hfit
  have hwell := nm_well fm l l.length (Nat.le_refl _)
  rw [List.take_length] at hwell
  have ho := hfit.out
  have hn := hfit.ns
  have ho2 := hwell.out
  have hpad := padB_len
  have hH : (hdB (hdW fm l)).length = 28 := hdB_len _
  have hlen : (mkB fm l).length = 48 + (nmAll fm l).out.length + (nmAll fm l).ns.length := by
    rw [mkB_eq]
    simp only [List.length_append, hH, hpad]
    omega
  have hw : ∀ k, k < 7 → WN (mkB fm l) (4 * k) 4 = (hdW fm l).getD k 0 % 4294967296 := by
    intro k hk
    rw [mkB_eq]
    exact WN_hd _ k _ hk
  refine ⟨⟨⟨by omega, by omega⟩, hfm, hm, hw 0 (by decide), hw 1 (by decide), hw 2 (by decide), ?_, ?_, ?_, hw 6 (by decide), by omega, ?_, ?_, by omega, ?_⟩, hlen⟩
  · rw [show (12 : Nat) = 4 * 3 from rfl, hw 3 (by decide)]
    show (48 + (nmAll fm l).out.length) % 4294967296 = _
    rw [Nat.mod_eq_of_lt (by omega)]
  · rw [show (16 : Nat) = 4 * 4 from rfl, hw 4 (by decide)]
    show l.length % 4294967296 = _
    rw [Nat.mod_eq_of_lt (by omega)]
  · rw [show (20 : Nat) = 4 * 5 from rfl, hw 5 (by decide)]
    show ((fm.toNat % 4294967296 : Nat) : Int) = fm
    rw [Nat.mod_eq_of_lt (by omega)]
    omega
  · have := WN_mid (hdB (hdW fm l)) (leB 3 4) (List.replicate 12 0 ++ List.replicate 4 0 ++ ((nmAll fm l).out ++ (nmAll fm l).ns)) 4 (leB_len _ _)
    rw [hH, leNum_leB] at this
    rw [mkB_eq]
    have e : padB ++ ((nmAll fm l).out ++ (nmAll fm l).ns) = leB 3 4 ++ (List.replicate 12 0 ++ List.replicate 4 0 ++ ((nmAll fm l).out ++ (nmAll fm l).ns)) := by unfold padB laid0; simp only [List.append_assoc]
    rw [e, this]
  · intro i hi
    have e : padB ++ ((nmAll fm l).out ++ (nmAll fm l).ns) = leB 3 4 ++ (List.replicate 12 0 ++ (List.replicate 4 0 ++ ((nmAll fm l).out ++ (nmAll fm l).ns))) := by unfold padB laid0; simp only [List.append_assoc]
    rw [mkB_eq, e]
    have h1 := WN_app (hdB (hdW fm l)) (leB 3 4 ++ (List.replicate 12 0 ++ (List.replicate 4 0 ++ ((nmAll fm l).out ++ (nmAll fm l).ns)))) (4 + 4 * i) 4
    rw [hH] at h1
    rw [show 28 + 4 + 4 * i = 28 + (4 + 4 * i) by omega, h1]
    have h2 := WN_app (leB 3 4) (List.replicate 12 0 ++ (List.replicate 4 0 ++ ((nmAll fm l).out ++ (nmAll fm l).ns))) (4 * i) 4
    rw [leB_len] at h2
    rw [h2, WN_left _ _ _ _ (by rw [List.length_replicate]; omega)]
    have hi3 : i = 0 ∨ i = 1 ∨ i = 2 := by omega
    rcases hi3 with rfl | rfl | rfl <;> rfl
  · intro k hk
    obtain ⟨p, o1, o2, n1, n2, h1, h2, h3, h4⟩ := nm_back fm l k hk
    obtain ⟨s1, s2, s3, s4, s5⟩ := okI_spec (hok k hk)
    have hx : (l.getD k .zero).wf := by
      refine wf _ ?_
      rw [List.getD_eq_getElem?_getD, List.getElem?_eq_getElem hk]
      exact List.getElem_mem hk
    generalize l.getD k .zero = x at *
    have hns : (nmAll fm l).ns.length = n1.length + (x.sym.size + (1 + n2.length)) := by
      rw [h3]
      simp only [List.length_append, List.length_cons, str_len]
      omega
    have hpl : p < 8388608 := by omega
    refine ⟨p, 48 + (nmAll fm l).out.length + p + x.sym.size + 1, ?_, by omega, ?_, ?_, s1, s4⟩
    · have e : mkB fm l = (hdB (hdW fm l) ++ (padB ++ o1)) ++ (impBB x p fm ++ (o2 ++ (nmAll fm l).ns)) := by rw [mkB_eq, h1]; simp only [List.append_assoc]
      have := read_back x p fm d hfm s4 hd s5 hx hpl (hdB (hdW fm l) ++ (padB ++ o1)) (o2 ++ (nmAll fm l).ns)
      have el : (hdB (hdW fm l) ++ (padB ++ o1)).length = 48 + isz fm * k := by simp only [List.length_append, hH, hpad, h2]; omega
      rw [← e, el] at this
      exact this
    all_goals
      have e : mkB fm l = (hdB (hdW fm l) ++ (padB ++ ((nmAll fm l).out ++ n1))) ++ (x.sym.data.toList ++ 0 :: n2) := by rw [mkB_eq, h3]; simp only [List.append_assoc]
      have el : (hdB (hdW fm l) ++ (padB ++ ((nmAll fm l).out ++ n1))).length = 48 + (nmAll fm l).out.length + p := by simp only [List.length_append, hH, hpad, h4]; omega
      have := text_at (mkB fm l) _ _ _ e s3 (by rw [str_len]; exact s2)
      rw [el, str_len] at this
      first | exact this.1 | exact this.2
end Go.Proofs.YtkclmknepbbhnaaDoor
