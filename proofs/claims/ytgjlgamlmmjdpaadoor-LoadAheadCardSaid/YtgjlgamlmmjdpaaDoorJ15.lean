/- Lemmas, laid together: part 15 of 38. Conditions: none but each lemma's own. -/
import Derived.Test.YtgjlgamlmmjdpaaDoorJ13
import Derived.Test.YtgjlgamlmmjdpaaDoorJ11
/- load.Name. -/
namespace Go.Proofs.YtgjlgamlmmjdpaaDoor
open Go.RowKit
set_option maxRecDepth 100000

/-- Does a command bear a name? -/
def namedC (c : Int) : Bool := decide (c = 13 ∨ c = 12 ∨ c = 2147483672 ∨ c = 2147483679 ∨ c = 2147483683)
/-- Where a command's name ends, from its beginning on. -/
def nmI (l : List UInt8) : Int := Lib.indexByte (l.drop (n4 l 8)) 0
def nameE (l : List UInt8) : Int := if ¬ opE l = 0 then 3 else if namedC (n4 l 0) = false then 7 else if l.length < n4 l 8 then 10 else if 0 < nmI l ∧ nmI l ≤ 255 then 0 else 10
def nameV (l : List UInt8) : ByteArray := if nameE l = 0 then ⟨((l.drop (n4 l 8)).take (nmI l).toNat).toArray⟩ else ⟨#[]⟩
theorem nm_seek (l : List UInt8) (p a : Nat) (h : a ≤ l.length) : seekS (cAt l p) (a : Int) = cAt l a := by
  unfold seekS
  rw [if_pos (by constructor <;> simp <;> omega)]
  simp
theorem nm_text (l : List UInt8) (a : Nat) (h : 0 ≤ Lib.indexByte (l.drop a) 0 ∧ Lib.indexByte (l.drop a) 0 ≤ 255) : textL (cAt l a) 255 = (l.drop a).take (Lib.indexByte (l.drop a) 0).toNat ∧ (textS (cAt l a) 255).failed = false := by
  have hok : textOk (cAt l a) 255 = true := by
    unfold textOk zeroAt
    simp only [Bool.not_false, Bool.true_and, Bool.and_eq_true, decide_eq_true_eq]
    exact h
  unfold textL textS
  rw [hok, if_pos rfl, if_pos rfl]
  exact ⟨rfl, rfl⟩
theorem nm_none (l : List UInt8) (a : Nat) (h : ¬ (0 ≤ Lib.indexByte (l.drop a) 0 ∧ Lib.indexByte (l.drop a) 0 ≤ 255)) : textL (cAt l a) 255 = [] ∧ (textS (cAt l a) 255).failed = true := by
  have hok : textOk (cAt l a) 255 = false := by
    unfold textOk zeroAt
    simp only [Bool.not_false, Bool.true_and, Bool.and_eq_false_iff, decide_eq_false_iff_not]
    by_cases h0 : 0 ≤ Lib.indexByte (l.drop a) 0
    · exact .inr fun h1 => h ⟨h0, h1⟩
    · exact .inl h0
  unfold textL textS
  rw [hok, if_neg (by decide), if_neg (by decide)]
  exact ⟨rfl, rfl⟩
theorem namedC_or {c : Int} (h : namedC c = true) : c = 13 ∨ c = 12 ∨ c = 2147483672 ∨ c = 2147483679 ∨ c = 2147483683 := of_decide_eq_true h
theorem named_24 {c : Int} (h : namedC c = true) : leastF c = 24 := by
  rcases namedC_or h with rfl | rfl | rfl | rfl | rfl <;> decide
theorem Name_bad (l : List UInt8) (h : ¬ opE l = 0) (hl : l.length ≤ 140737488355328) (v : Value) (w : World) (hg : Env w) (rd : byteL.Rd w v l) :
    Calls Tryd.prog 9 #[v] w fun e w' => e = .returned (.tuple #[.string ⟨#[]⟩, .int .i64 3]) ∧ Chg [] w w' := by
  have H := Lib.hid h
  have Hl := Lib.hid hl
  have Hg := Lib.hid hg
  have Rd := Lib.hid rd
  clear h hl hg rd
  go_enter Tryd.func9, Tryd.ntmps9
  go_wp2_with fail
  refine (open_bad l H.out Hl.out v _ Hg.out Rd.out).mono ?_
  rintro e W1 ⟨k, hk, rfl, hch⟩
  have C1 := Lib.hid hch
  clear hch
  go_wp2
  go_ret2
  exact ⟨rfl, C1.out⟩
set_option maxHeartbeats 4000000 in
theorem Name_not (l : List UInt8) (h : opE l = 0) (h2 : namedC (n4 l 0) = false) (hl : l.length ≤ 140737488355328) (v : Value) (w : World) (hg : Env w) (rd : byteL.Rd w v l) :
    Calls Tryd.prog 9 #[v] w fun e w' => e = .returned (.tuple #[.string ⟨#[]⟩, .int .i64 7]) ∧ Chg [] w w' := by
  have hop := fun v w hg rd => open_ok l h hl v w hg rd
  obtain ⟨z, hz⟩ : ∃ z, z = n4 l 0 := ⟨_, rfl⟩
  rw [← hz] at hop h2
  have h3 := of_decide_eq_false h2
  have e1 : (((z : Nat) : Int) == 13) = false := by rw [beq_eq_false_iff_ne]; omega
  have e2 : (((z : Nat) : Int) == 12) = false := by rw [beq_eq_false_iff_ne]; omega
  have e3 : (((z : Nat) : Int) == 2147483672) = false := by rw [beq_eq_false_iff_ne]; omega
  have e4 : (((z : Nat) : Int) == 2147483679) = false := by rw [beq_eq_false_iff_ne]; omega
  have e5 : (((z : Nat) : Int) == 2147483683) = false := by rw [beq_eq_false_iff_ne]; omega
  have H := Lib.hid h
  have Hl := Lib.hid hl
  have Hg := Lib.hid hg
  have Rd := Lib.hid rd
  have Hop := Lib.hid hop
  have H2 := Lib.hid h2
  have Hz := Lib.hid hz
  have H3 := Lib.hid h3
  clear h hl hg rd hop h2 hz h3
  go_enter Tryd.func9, Tryd.ntmps9
  go_wp2_with fail
  refine (Hop.out _ _ Hg.out Rd.out).mono ?_
  rintro e W0 ⟨c, rfl, hlo, hcu, hch⟩
  have CU0 := Lib.hid hcu
  have Hlo := Lib.hid hlo
  have C0 := Lib.hid hch
  clear hcu hlo hch
  go_wp2
  go_ret2
  exact ⟨rfl, C0.out⟩
set_option maxHeartbeats 8000000 in
theorem Name_far (l : List UInt8) (h : opE l = 0) (h2 : namedC (n4 l 0) = true) (h3 : l.length < n4 l 8) (hl : l.length ≤ 140737488355328) (v : Value) (w : World) (hg : Env w) (rd : byteL.Rd w v l) :
    Calls Tryd.prog 9 #[v] w fun e w' => e = .returned (.tuple #[.string ⟨#[]⟩, .int .i64 10]) ∧ Chg [] w w' := by
  have h12 : 12 ≤ l.length := by have := (opE_len h).2; rw [named_24 h2] at this; omega
  have hop := fun v w hg rd => open_ok l h hl v w hg rd
  obtain ⟨z, hz⟩ : ∃ z, z = n4 l 0 := ⟨_, rfl⟩
  rw [← hz] at hop h2
  obtain ⟨q, hq⟩ : ∃ q, q = n4 l 8 := ⟨_, rfl⟩
  have hq4 := n4_lt l 8
  rw [← hq] at hq4 h3
  have d1 : decide (l.length < n4 l 8) = true := decide_eq_true (by omega)
  obtain ⟨a, cap, rfl, hc1, hc2⟩ := rd.shape
  have h13 := namedC_or h2
  have H := Lib.hid h
  have Hl := Lib.hid hl
  have Hg := Lib.hid hg
  have Rd := Lib.hid rd
  have H2 := Lib.hid h2
  have Hz := Lib.hid hz
  have H12 := Lib.hid h12
  have Hq := Lib.hid hq
  have Hq4 := Lib.hid hq4
  have H3 := Lib.hid h3
  clear h hl hg rd h2 hz h12 hq hq4 h3
  rcases h13 with h13 | h13 | h13 | h13 | h13
  · rw [h13] at hop
    have HOP := Lib.hid (hop)
    clear hop
    go_enter Tryd.func9, Tryd.ntmps9
    go_wp2_with fail
    refine (HOP.out _ _ Hg.out Rd.out).mono ?_
    rintro e W0 ⟨c, rfl, hlo, hcu, hch⟩
    have CU0 := Lib.hid hcu
    have Hlo := Lib.hid hlo
    have C0 := Lib.hid hch
    clear hcu hlo hch
    go_wp2_with fail
    refine (num4_at c l 8 12 _ CU0.out (by have := H12.out; omega) rfl).mono ?_
    rintro e W1 ⟨rfl, hcu, hch⟩
    have C1 := Lib.hid (C0.out.new hch Hlo.out)
    have CU1 := Lib.hid hcu
    clear hcu
    clear hch
    go_wp2
    go_ret2
    exact ⟨rfl, C1.out⟩
  · rw [h13] at hop
    have HOP := Lib.hid (hop)
    clear hop
    go_enter Tryd.func9, Tryd.ntmps9
    go_wp2_with fail
    refine (HOP.out _ _ Hg.out Rd.out).mono ?_
    rintro e W0 ⟨c, rfl, hlo, hcu, hch⟩
    have CU0 := Lib.hid hcu
    have Hlo := Lib.hid hlo
    have C0 := Lib.hid hch
    clear hcu hlo hch
    go_wp2_with fail
    refine (num4_at c l 8 12 _ CU0.out (by have := H12.out; omega) rfl).mono ?_
    rintro e W1 ⟨rfl, hcu, hch⟩
    have C1 := Lib.hid (C0.out.new hch Hlo.out)
    have CU1 := Lib.hid hcu
    clear hcu
    clear hch
    go_wp2
    go_ret2
    exact ⟨rfl, C1.out⟩
  · rw [h13] at hop
    have HOP := Lib.hid (hop)
    clear hop
    go_enter Tryd.func9, Tryd.ntmps9
    go_wp2_with fail
    refine (HOP.out _ _ Hg.out Rd.out).mono ?_
    rintro e W0 ⟨c, rfl, hlo, hcu, hch⟩
    have CU0 := Lib.hid hcu
    have Hlo := Lib.hid hlo
    have C0 := Lib.hid hch
    clear hcu hlo hch
    go_wp2_with fail
    refine (num4_at c l 8 12 _ CU0.out (by have := H12.out; omega) rfl).mono ?_
    rintro e W1 ⟨rfl, hcu, hch⟩
    have C1 := Lib.hid (C0.out.new hch Hlo.out)
    have CU1 := Lib.hid hcu
    clear hcu
    clear hch
    go_wp2
    go_ret2
    exact ⟨rfl, C1.out⟩
  · rw [h13] at hop
    have HOP := Lib.hid (hop)
    clear hop
    go_enter Tryd.func9, Tryd.ntmps9
    go_wp2_with fail
    refine (HOP.out _ _ Hg.out Rd.out).mono ?_
    rintro e W0 ⟨c, rfl, hlo, hcu, hch⟩
    have CU0 := Lib.hid hcu
    have Hlo := Lib.hid hlo
    have C0 := Lib.hid hch
    clear hcu hlo hch
    go_wp2_with fail
    refine (num4_at c l 8 12 _ CU0.out (by have := H12.out; omega) rfl).mono ?_
    rintro e W1 ⟨rfl, hcu, hch⟩
    have C1 := Lib.hid (C0.out.new hch Hlo.out)
    have CU1 := Lib.hid hcu
    clear hcu
    clear hch
    go_wp2
    go_ret2
    exact ⟨rfl, C1.out⟩
  · rw [h13] at hop
    have HOP := Lib.hid (hop)
    clear hop
    go_enter Tryd.func9, Tryd.ntmps9
    go_wp2_with fail
    refine (HOP.out _ _ Hg.out Rd.out).mono ?_
    rintro e W0 ⟨c, rfl, hlo, hcu, hch⟩
    have CU0 := Lib.hid hcu
    have Hlo := Lib.hid hlo
    have C0 := Lib.hid hch
    clear hcu hlo hch
    go_wp2_with fail
    refine (num4_at c l 8 12 _ CU0.out (by have := H12.out; omega) rfl).mono ?_
    rintro e W1 ⟨rfl, hcu, hch⟩
    have C1 := Lib.hid (C0.out.new hch Hlo.out)
    have CU1 := Lib.hid hcu
    clear hcu
    clear hch
    go_wp2
    go_ret2
    exact ⟨rfl, C1.out⟩
set_option maxHeartbeats 8000000 in
theorem Name_no (l : List UInt8) (h : opE l = 0) (h2 : namedC (n4 l 0) = true) (h3 : ¬ l.length < n4 l 8) (h4 : ¬ (0 < nmI l ∧ nmI l ≤ 255)) (hl : l.length ≤ 140737488355328) (v : Value) (w : World) (hg : Env w) (rd : byteL.Rd w v l) :
    Calls Tryd.prog 9 #[v] w fun e w' => e = .returned (.tuple #[.string ⟨#[]⟩, .int .i64 10]) ∧ Chg [] w w' := by
  have h12 : 12 ≤ l.length := by have := (opE_len h).2; rw [named_24 h2] at this; omega
  have hop := fun v w hg rd => open_ok l h hl v w hg rd
  obtain ⟨z, hz⟩ : ∃ z, z = n4 l 0 := ⟨_, rfl⟩
  rw [← hz] at hop h2
  have hq4 := n4_lt l 8
  have d1 : decide (l.length < n4 l 8) = false := decide_eq_false (by omega)
  have hsk := nm_seek l 12 (n4 l 8) (by omega)
  have hwa : wrap64 (n4 l 8 : Int) = (n4 l 8 : Int) := by unfold wrap64; omega
  obtain ⟨b, hb, hft⟩ : ∃ b : Bool, (textS (cAt l (n4 l 8)) 255).failed = b ∧ textL (cAt l (n4 l 8)) 255 = [] := by
    by_cases h5 : 0 ≤ Lib.indexByte (l.drop (n4 l 8)) 0 ∧ Lib.indexByte (l.drop (n4 l 8)) 0 ≤ 255
    · have h6 : nmI l = 0 := by unfold nmI at h4 ⊢; omega
      have := nm_text l (n4 l 8) h5
      refine ⟨_, rfl, ?_⟩
      rw [this.1]
      unfold nmI at h6
      rw [h6]
      rfl
    · exact ⟨_, rfl, (nm_none l (n4 l 8) h5).1⟩
  obtain ⟨a, cap, rfl, hc1, hc2⟩ := rd.shape
  have h13 := namedC_or h2
  have hT : ByteArray.mk (textL (cAt l (n4 l 8)) 255).toArray = ⟨#[]⟩ := by rw [hft]
  have H := Lib.hid h
  have Hl := Lib.hid hl
  have Hg := Lib.hid hg
  have Rd := Lib.hid rd
  have H2 := Lib.hid h2
  have Hz := Lib.hid hz
  have H12 := Lib.hid h12
  have Hq4 := Lib.hid hq4
  have H3 := Lib.hid h3
  have H4 := Lib.hid h4
  have Hft := Lib.hid hft
  have HT := Lib.hid hT
  have HF := Lib.hid hb
  have HSK := Lib.hid hsk
  have Hwa := Lib.hid hwa
  clear h hl hg rd h2 hz h12 hq4 h3 h4 hft hT hb hsk hwa
  cases b
  · rcases h13 with h13 | h13 | h13 | h13 | h13
    · rw [h13] at hop
      have HOP := Lib.hid (hop)
      clear hop
      go_enter Tryd.func9, Tryd.ntmps9
      go_wp2_with fail
      refine (HOP.out _ _ Hg.out Rd.out).mono ?_
      rintro e W0 ⟨c, rfl, hlo, hcu, hch⟩
      have CU0 := Lib.hid hcu
      have Hlo := Lib.hid hlo
      have C0 := Lib.hid hch
      clear hcu hlo hch
      go_wp2_with fail
      refine (num4_at c l 8 12 _ CU0.out (by have := H12.out; omega) rfl).mono ?_
      rintro e W1 ⟨rfl, hcu, hch⟩
      have C1 := Lib.hid (C0.out.new hch Hlo.out)
      have CU1 := Lib.hid hcu
      clear hcu
      clear hch
      go_wp2_with fail
      rw [Hwa.out]
      refine (Seek_cur c _ _ _ CU1.out).mono ?_
      rintro e W2 ⟨rfl, hcu, hch⟩
      have C2 := Lib.hid (C1.out.new hch Hlo.out)
      rw [HSK.out] at hcu
      have CU2 := Lib.hid hcu
      clear hcu
      clear hch
      go_wp2_with fail
      refine (Text_cur c _ 255 _ CU2.out).mono ?_
      rintro e W3 ⟨rfl, hcu, hch⟩
      have C3 := Lib.hid (C2.out.new hch Hlo.out)
      have CU3 := Lib.hid hcu
      clear hcu
      clear hch
      rw [HT.out]
      go_wp2_with fail
      refine (Err_cur c _ _ (Hg.out.frame C3.out (by simp)) CU3.out).mono ?_
      rintro e W4 ⟨rfl, hch⟩
      have C4 := Lib.hid (C3.out.then hch)
      clear hch
      rw [HF.out]
      go_wp2
      go_ret2
      exact ⟨rfl, C4.out⟩
    · rw [h13] at hop
      have HOP := Lib.hid (hop)
      clear hop
      go_enter Tryd.func9, Tryd.ntmps9
      go_wp2_with fail
      refine (HOP.out _ _ Hg.out Rd.out).mono ?_
      rintro e W0 ⟨c, rfl, hlo, hcu, hch⟩
      have CU0 := Lib.hid hcu
      have Hlo := Lib.hid hlo
      have C0 := Lib.hid hch
      clear hcu hlo hch
      go_wp2_with fail
      refine (num4_at c l 8 12 _ CU0.out (by have := H12.out; omega) rfl).mono ?_
      rintro e W1 ⟨rfl, hcu, hch⟩
      have C1 := Lib.hid (C0.out.new hch Hlo.out)
      have CU1 := Lib.hid hcu
      clear hcu
      clear hch
      go_wp2_with fail
      rw [Hwa.out]
      refine (Seek_cur c _ _ _ CU1.out).mono ?_
      rintro e W2 ⟨rfl, hcu, hch⟩
      have C2 := Lib.hid (C1.out.new hch Hlo.out)
      rw [HSK.out] at hcu
      have CU2 := Lib.hid hcu
      clear hcu
      clear hch
      go_wp2_with fail
      refine (Text_cur c _ 255 _ CU2.out).mono ?_
      rintro e W3 ⟨rfl, hcu, hch⟩
      have C3 := Lib.hid (C2.out.new hch Hlo.out)
      have CU3 := Lib.hid hcu
      clear hcu
      clear hch
      rw [HT.out]
      go_wp2_with fail
      refine (Err_cur c _ _ (Hg.out.frame C3.out (by simp)) CU3.out).mono ?_
      rintro e W4 ⟨rfl, hch⟩
      have C4 := Lib.hid (C3.out.then hch)
      clear hch
      rw [HF.out]
      go_wp2
      go_ret2
      exact ⟨rfl, C4.out⟩
    · rw [h13] at hop
      have HOP := Lib.hid (hop)
      clear hop
      go_enter Tryd.func9, Tryd.ntmps9
      go_wp2_with fail
      refine (HOP.out _ _ Hg.out Rd.out).mono ?_
      rintro e W0 ⟨c, rfl, hlo, hcu, hch⟩
      have CU0 := Lib.hid hcu
      have Hlo := Lib.hid hlo
      have C0 := Lib.hid hch
      clear hcu hlo hch
      go_wp2_with fail
      refine (num4_at c l 8 12 _ CU0.out (by have := H12.out; omega) rfl).mono ?_
      rintro e W1 ⟨rfl, hcu, hch⟩
      have C1 := Lib.hid (C0.out.new hch Hlo.out)
      have CU1 := Lib.hid hcu
      clear hcu
      clear hch
      go_wp2_with fail
      rw [Hwa.out]
      refine (Seek_cur c _ _ _ CU1.out).mono ?_
      rintro e W2 ⟨rfl, hcu, hch⟩
      have C2 := Lib.hid (C1.out.new hch Hlo.out)
      rw [HSK.out] at hcu
      have CU2 := Lib.hid hcu
      clear hcu
      clear hch
      go_wp2_with fail
      refine (Text_cur c _ 255 _ CU2.out).mono ?_
      rintro e W3 ⟨rfl, hcu, hch⟩
      have C3 := Lib.hid (C2.out.new hch Hlo.out)
      have CU3 := Lib.hid hcu
      clear hcu
      clear hch
      rw [HT.out]
      go_wp2_with fail
      refine (Err_cur c _ _ (Hg.out.frame C3.out (by simp)) CU3.out).mono ?_
      rintro e W4 ⟨rfl, hch⟩
      have C4 := Lib.hid (C3.out.then hch)
      clear hch
      rw [HF.out]
      go_wp2
      go_ret2
      exact ⟨rfl, C4.out⟩
    · rw [h13] at hop
      have HOP := Lib.hid (hop)
      clear hop
      go_enter Tryd.func9, Tryd.ntmps9
      go_wp2_with fail
      refine (HOP.out _ _ Hg.out Rd.out).mono ?_
      rintro e W0 ⟨c, rfl, hlo, hcu, hch⟩
      have CU0 := Lib.hid hcu
      have Hlo := Lib.hid hlo
      have C0 := Lib.hid hch
      clear hcu hlo hch
      go_wp2_with fail
      refine (num4_at c l 8 12 _ CU0.out (by have := H12.out; omega) rfl).mono ?_
      rintro e W1 ⟨rfl, hcu, hch⟩
      have C1 := Lib.hid (C0.out.new hch Hlo.out)
      have CU1 := Lib.hid hcu
      clear hcu
      clear hch
      go_wp2_with fail
      rw [Hwa.out]
      refine (Seek_cur c _ _ _ CU1.out).mono ?_
      rintro e W2 ⟨rfl, hcu, hch⟩
      have C2 := Lib.hid (C1.out.new hch Hlo.out)
      rw [HSK.out] at hcu
      have CU2 := Lib.hid hcu
      clear hcu
      clear hch
      go_wp2_with fail
      refine (Text_cur c _ 255 _ CU2.out).mono ?_
      rintro e W3 ⟨rfl, hcu, hch⟩
      have C3 := Lib.hid (C2.out.new hch Hlo.out)
      have CU3 := Lib.hid hcu
      clear hcu
      clear hch
      rw [HT.out]
      go_wp2_with fail
      refine (Err_cur c _ _ (Hg.out.frame C3.out (by simp)) CU3.out).mono ?_
      rintro e W4 ⟨rfl, hch⟩
      have C4 := Lib.hid (C3.out.then hch)
      clear hch
      rw [HF.out]
      go_wp2
      go_ret2
      exact ⟨rfl, C4.out⟩
    · rw [h13] at hop
      have HOP := Lib.hid (hop)
      clear hop
      go_enter Tryd.func9, Tryd.ntmps9
      go_wp2_with fail
      refine (HOP.out _ _ Hg.out Rd.out).mono ?_
      rintro e W0 ⟨c, rfl, hlo, hcu, hch⟩
      have CU0 := Lib.hid hcu
      have Hlo := Lib.hid hlo
      have C0 := Lib.hid hch
      clear hcu hlo hch
      go_wp2_with fail
      refine (num4_at c l 8 12 _ CU0.out (by have := H12.out; omega) rfl).mono ?_
      rintro e W1 ⟨rfl, hcu, hch⟩
      have C1 := Lib.hid (C0.out.new hch Hlo.out)
      have CU1 := Lib.hid hcu
      clear hcu
      clear hch
      go_wp2_with fail
      rw [Hwa.out]
      refine (Seek_cur c _ _ _ CU1.out).mono ?_
      rintro e W2 ⟨rfl, hcu, hch⟩
      have C2 := Lib.hid (C1.out.new hch Hlo.out)
      rw [HSK.out] at hcu
      have CU2 := Lib.hid hcu
      clear hcu
      clear hch
      go_wp2_with fail
      refine (Text_cur c _ 255 _ CU2.out).mono ?_
      rintro e W3 ⟨rfl, hcu, hch⟩
      have C3 := Lib.hid (C2.out.new hch Hlo.out)
      have CU3 := Lib.hid hcu
      clear hcu
      clear hch
      rw [HT.out]
      go_wp2_with fail
      refine (Err_cur c _ _ (Hg.out.frame C3.out (by simp)) CU3.out).mono ?_
      rintro e W4 ⟨rfl, hch⟩
      have C4 := Lib.hid (C3.out.then hch)
      clear hch
      rw [HF.out]
      go_wp2
      go_ret2
      exact ⟨rfl, C4.out⟩
  · rcases h13 with h13 | h13 | h13 | h13 | h13
    · rw [h13] at hop
      have HOP := Lib.hid (hop)
      clear hop
      go_enter Tryd.func9, Tryd.ntmps9
      go_wp2_with fail
      refine (HOP.out _ _ Hg.out Rd.out).mono ?_
      rintro e W0 ⟨c, rfl, hlo, hcu, hch⟩
      have CU0 := Lib.hid hcu
      have Hlo := Lib.hid hlo
      have C0 := Lib.hid hch
      clear hcu hlo hch
      go_wp2_with fail
      refine (num4_at c l 8 12 _ CU0.out (by have := H12.out; omega) rfl).mono ?_
      rintro e W1 ⟨rfl, hcu, hch⟩
      have C1 := Lib.hid (C0.out.new hch Hlo.out)
      have CU1 := Lib.hid hcu
      clear hcu
      clear hch
      go_wp2_with fail
      rw [Hwa.out]
      refine (Seek_cur c _ _ _ CU1.out).mono ?_
      rintro e W2 ⟨rfl, hcu, hch⟩
      have C2 := Lib.hid (C1.out.new hch Hlo.out)
      rw [HSK.out] at hcu
      have CU2 := Lib.hid hcu
      clear hcu
      clear hch
      go_wp2_with fail
      refine (Text_cur c _ 255 _ CU2.out).mono ?_
      rintro e W3 ⟨rfl, hcu, hch⟩
      have C3 := Lib.hid (C2.out.new hch Hlo.out)
      have CU3 := Lib.hid hcu
      clear hcu
      clear hch
      rw [HT.out]
      go_wp2_with fail
      refine (Err_cur c _ _ (Hg.out.frame C3.out (by simp)) CU3.out).mono ?_
      rintro e W4 ⟨rfl, hch⟩
      have C4 := Lib.hid (C3.out.then hch)
      clear hch
      rw [HF.out]
      go_wp2
      go_ret2
      exact ⟨rfl, C4.out⟩
    · rw [h13] at hop
      have HOP := Lib.hid (hop)
      clear hop
      go_enter Tryd.func9, Tryd.ntmps9
      go_wp2_with fail
      refine (HOP.out _ _ Hg.out Rd.out).mono ?_
      rintro e W0 ⟨c, rfl, hlo, hcu, hch⟩
      have CU0 := Lib.hid hcu
      have Hlo := Lib.hid hlo
      have C0 := Lib.hid hch
      clear hcu hlo hch
      go_wp2_with fail
      refine (num4_at c l 8 12 _ CU0.out (by have := H12.out; omega) rfl).mono ?_
      rintro e W1 ⟨rfl, hcu, hch⟩
      have C1 := Lib.hid (C0.out.new hch Hlo.out)
      have CU1 := Lib.hid hcu
      clear hcu
      clear hch
      go_wp2_with fail
      rw [Hwa.out]
      refine (Seek_cur c _ _ _ CU1.out).mono ?_
      rintro e W2 ⟨rfl, hcu, hch⟩
      have C2 := Lib.hid (C1.out.new hch Hlo.out)
      rw [HSK.out] at hcu
      have CU2 := Lib.hid hcu
      clear hcu
      clear hch
      go_wp2_with fail
      refine (Text_cur c _ 255 _ CU2.out).mono ?_
      rintro e W3 ⟨rfl, hcu, hch⟩
      have C3 := Lib.hid (C2.out.new hch Hlo.out)
      have CU3 := Lib.hid hcu
      clear hcu
      clear hch
      rw [HT.out]
      go_wp2_with fail
      refine (Err_cur c _ _ (Hg.out.frame C3.out (by simp)) CU3.out).mono ?_
      rintro e W4 ⟨rfl, hch⟩
      have C4 := Lib.hid (C3.out.then hch)
      clear hch
      rw [HF.out]
      go_wp2
      go_ret2
      exact ⟨rfl, C4.out⟩
    · rw [h13] at hop
      have HOP := Lib.hid (hop)
      clear hop
      go_enter Tryd.func9, Tryd.ntmps9
      go_wp2_with fail
      refine (HOP.out _ _ Hg.out Rd.out).mono ?_
      rintro e W0 ⟨c, rfl, hlo, hcu, hch⟩
      have CU0 := Lib.hid hcu
      have Hlo := Lib.hid hlo
      have C0 := Lib.hid hch
      clear hcu hlo hch
      go_wp2_with fail
      refine (num4_at c l 8 12 _ CU0.out (by have := H12.out; omega) rfl).mono ?_
      rintro e W1 ⟨rfl, hcu, hch⟩
      have C1 := Lib.hid (C0.out.new hch Hlo.out)
      have CU1 := Lib.hid hcu
      clear hcu
      clear hch
      go_wp2_with fail
      rw [Hwa.out]
      refine (Seek_cur c _ _ _ CU1.out).mono ?_
      rintro e W2 ⟨rfl, hcu, hch⟩
      have C2 := Lib.hid (C1.out.new hch Hlo.out)
      rw [HSK.out] at hcu
      have CU2 := Lib.hid hcu
      clear hcu
      clear hch
      go_wp2_with fail
      refine (Text_cur c _ 255 _ CU2.out).mono ?_
      rintro e W3 ⟨rfl, hcu, hch⟩
      have C3 := Lib.hid (C2.out.new hch Hlo.out)
      have CU3 := Lib.hid hcu
      clear hcu
      clear hch
      rw [HT.out]
      go_wp2_with fail
      refine (Err_cur c _ _ (Hg.out.frame C3.out (by simp)) CU3.out).mono ?_
      rintro e W4 ⟨rfl, hch⟩
      have C4 := Lib.hid (C3.out.then hch)
      clear hch
      rw [HF.out]
      go_wp2
      go_ret2
      exact ⟨rfl, C4.out⟩
    · rw [h13] at hop
      have HOP := Lib.hid (hop)
      clear hop
      go_enter Tryd.func9, Tryd.ntmps9
      go_wp2_with fail
      refine (HOP.out _ _ Hg.out Rd.out).mono ?_
      rintro e W0 ⟨c, rfl, hlo, hcu, hch⟩
      have CU0 := Lib.hid hcu
      have Hlo := Lib.hid hlo
      have C0 := Lib.hid hch
      clear hcu hlo hch
      go_wp2_with fail
      refine (num4_at c l 8 12 _ CU0.out (by have := H12.out; omega) rfl).mono ?_
      rintro e W1 ⟨rfl, hcu, hch⟩
      have C1 := Lib.hid (C0.out.new hch Hlo.out)
      have CU1 := Lib.hid hcu
      clear hcu
      clear hch
      go_wp2_with fail
      rw [Hwa.out]
      refine (Seek_cur c _ _ _ CU1.out).mono ?_
      rintro e W2 ⟨rfl, hcu, hch⟩
      have C2 := Lib.hid (C1.out.new hch Hlo.out)
      rw [HSK.out] at hcu
      have CU2 := Lib.hid hcu
      clear hcu
      clear hch
      go_wp2_with fail
      refine (Text_cur c _ 255 _ CU2.out).mono ?_
      rintro e W3 ⟨rfl, hcu, hch⟩
      have C3 := Lib.hid (C2.out.new hch Hlo.out)
      have CU3 := Lib.hid hcu
      clear hcu
      clear hch
      rw [HT.out]
      go_wp2_with fail
      refine (Err_cur c _ _ (Hg.out.frame C3.out (by simp)) CU3.out).mono ?_
      rintro e W4 ⟨rfl, hch⟩
      have C4 := Lib.hid (C3.out.then hch)
      clear hch
      rw [HF.out]
      go_wp2
      go_ret2
      exact ⟨rfl, C4.out⟩
    · rw [h13] at hop
      have HOP := Lib.hid (hop)
      clear hop
      go_enter Tryd.func9, Tryd.ntmps9
      go_wp2_with fail
      refine (HOP.out _ _ Hg.out Rd.out).mono ?_
      rintro e W0 ⟨c, rfl, hlo, hcu, hch⟩
      have CU0 := Lib.hid hcu
      have Hlo := Lib.hid hlo
      have C0 := Lib.hid hch
      clear hcu hlo hch
      go_wp2_with fail
      refine (num4_at c l 8 12 _ CU0.out (by have := H12.out; omega) rfl).mono ?_
      rintro e W1 ⟨rfl, hcu, hch⟩
      have C1 := Lib.hid (C0.out.new hch Hlo.out)
      have CU1 := Lib.hid hcu
      clear hcu
      clear hch
      go_wp2_with fail
      rw [Hwa.out]
      refine (Seek_cur c _ _ _ CU1.out).mono ?_
      rintro e W2 ⟨rfl, hcu, hch⟩
      have C2 := Lib.hid (C1.out.new hch Hlo.out)
      rw [HSK.out] at hcu
      have CU2 := Lib.hid hcu
      clear hcu
      clear hch
      go_wp2_with fail
      refine (Text_cur c _ 255 _ CU2.out).mono ?_
      rintro e W3 ⟨rfl, hcu, hch⟩
      have C3 := Lib.hid (C2.out.new hch Hlo.out)
      have CU3 := Lib.hid hcu
      clear hcu
      clear hch
      rw [HT.out]
      go_wp2_with fail
      refine (Err_cur c _ _ (Hg.out.frame C3.out (by simp)) CU3.out).mono ?_
      rintro e W4 ⟨rfl, hch⟩
      have C4 := Lib.hid (C3.out.then hch)
      clear hch
      rw [HF.out]
      go_wp2
      go_ret2
      exact ⟨rfl, C4.out⟩
set_option maxHeartbeats 8000000 in
theorem Name_ok (l : List UInt8) (h : opE l = 0) (h2 : namedC (n4 l 0) = true) (h3 : ¬ l.length < n4 l 8) (h4 : 0 < nmI l ∧ nmI l ≤ 255) (hl : l.length ≤ 140737488355328) (v : Value) (w : World) (hg : Env w) (rd : byteL.Rd w v l) :
    Calls Tryd.prog 9 #[v] w fun e w' => e = .returned (.tuple #[.string ⟨((l.drop (n4 l 8)).take (nmI l).toNat).toArray⟩, .int .i64 0]) ∧ Chg [] w w' := by
  have h12 : 12 ≤ l.length := by have := (opE_len h).2; rw [named_24 h2] at this; omega
  have hop := fun v w hg rd => open_ok l h hl v w hg rd
  obtain ⟨z, hz⟩ : ∃ z, z = n4 l 0 := ⟨_, rfl⟩
  rw [← hz] at hop h2
  have hq4 := n4_lt l 8
  have d1 : decide (l.length < n4 l 8) = false := decide_eq_false (by omega)
  have hsk := nm_seek l 12 (n4 l 8) (by omega)
  have hwa : wrap64 (n4 l 8 : Int) = (n4 l 8 : Int) := by unfold wrap64; omega
  have hft := nm_text l (n4 l 8) (by unfold nmI at h4; omega)
  have hT := hft.1
  have hF := hft.2
  have hne : ¬ (l.drop (n4 l 8)).take (nmI l).toNat = [] := by
    intro e
    have h5 := congrArg List.length e
    have h6 := indexByte_lt (l.drop (n4 l 8)) 0
    unfold nmI at h4 h5
    rw [List.length_take, List.length_nil] at h5
    omega
  rw [show Lib.indexByte (l.drop (n4 l 8)) 0 = nmI l from rfl] at hT
  obtain ⟨T, hTT⟩ : ∃ T, T = (l.drop (n4 l 8)).take (nmI l).toNat := ⟨_, rfl⟩
  rw [← hTT] at hT hne ⊢
  have hs2 : ((⟨T.toArray⟩ : ByteArray).toList == []) = false := by rw [Lib.toList_data]; simpa using hne
  have hs3 : decide ((⟨T.toArray⟩ : ByteArray).toList = []) = false := by rw [Lib.toList_data]; simpa using hne
  obtain ⟨a, cap, rfl, hc1, hc2⟩ := rd.shape
  have h13 := namedC_or h2
  obtain ⟨S, hS⟩ : ∃ S : ByteArray, S = ⟨T.toArray⟩ := ⟨_, rfl⟩
  rw [← hS] at hs2 hs3 ⊢
  have H := Lib.hid h
  have Hl := Lib.hid hl
  have Hg := Lib.hid hg
  have Rd := Lib.hid rd
  have H2 := Lib.hid h2
  have Hz := Lib.hid hz
  have H12 := Lib.hid h12
  have Hq4 := Lib.hid hq4
  have H3 := Lib.hid h3
  have H4 := Lib.hid h4
  have HF := Lib.hid hF
  have HSK := Lib.hid hsk
  have Hwa := Lib.hid hwa
  have Hft := Lib.hid hft
  have Hne := Lib.hid hne
  have HTT := Lib.hid hTT
  clear h hl hg rd h2 hz h12 hq4 h3 h4 hF hsk hwa hft hne hTT
  have HT : Hid (ByteArray.mk (textL (cAt l (n4 l 8)) 255).toArray = S) := Lib.hid (by rw [hT, hS])
  clear hT hS
  rcases h13 with h13 | h13 | h13 | h13 | h13
  · rw [h13] at hop
    have HOP := Lib.hid (hop)
    clear hop
    go_enter Tryd.func9, Tryd.ntmps9
    go_wp2_with fail
    refine (HOP.out _ _ Hg.out Rd.out).mono ?_
    rintro e W0 ⟨c, rfl, hlo, hcu, hch⟩
    have CU0 := Lib.hid hcu
    have Hlo := Lib.hid hlo
    have C0 := Lib.hid hch
    clear hcu hlo hch
    go_wp2_with fail
    refine (num4_at c l 8 12 _ CU0.out (by have := H12.out; omega) rfl).mono ?_
    rintro e W1 ⟨rfl, hcu, hch⟩
    have C1 := Lib.hid (C0.out.new hch Hlo.out)
    have CU1 := Lib.hid hcu
    clear hcu
    clear hch
    go_wp2_with fail
    rw [Hwa.out]
    refine (Seek_cur c _ _ _ CU1.out).mono ?_
    rintro e W2 ⟨rfl, hcu, hch⟩
    have C2 := Lib.hid (C1.out.new hch Hlo.out)
    rw [HSK.out] at hcu
    have CU2 := Lib.hid hcu
    clear hcu
    clear hch
    go_wp2_with fail
    refine (Text_cur c _ 255 _ CU2.out).mono ?_
    rintro e W3 ⟨rfl, hcu, hch⟩
    have C3 := Lib.hid (C2.out.new hch Hlo.out)
    have CU3 := Lib.hid hcu
    clear hcu
    clear hch
    rw [HT.out]
    go_wp2_with fail
    refine (Err_cur c _ _ (Hg.out.frame C3.out (by simp)) CU3.out).mono ?_
    rintro e W4 ⟨rfl, hch⟩
    have C4 := Lib.hid (C3.out.then hch)
    clear hch
    rw [HF.out]
    go_wp2
    go_ret2
    exact ⟨rfl, C4.out⟩
  · rw [h13] at hop
    have HOP := Lib.hid (hop)
    clear hop
    go_enter Tryd.func9, Tryd.ntmps9
    go_wp2_with fail
    refine (HOP.out _ _ Hg.out Rd.out).mono ?_
    rintro e W0 ⟨c, rfl, hlo, hcu, hch⟩
    have CU0 := Lib.hid hcu
    have Hlo := Lib.hid hlo
    have C0 := Lib.hid hch
    clear hcu hlo hch
    go_wp2_with fail
    refine (num4_at c l 8 12 _ CU0.out (by have := H12.out; omega) rfl).mono ?_
    rintro e W1 ⟨rfl, hcu, hch⟩
    have C1 := Lib.hid (C0.out.new hch Hlo.out)
    have CU1 := Lib.hid hcu
    clear hcu
    clear hch
    go_wp2_with fail
    rw [Hwa.out]
    refine (Seek_cur c _ _ _ CU1.out).mono ?_
    rintro e W2 ⟨rfl, hcu, hch⟩
    have C2 := Lib.hid (C1.out.new hch Hlo.out)
    rw [HSK.out] at hcu
    have CU2 := Lib.hid hcu
    clear hcu
    clear hch
    go_wp2_with fail
    refine (Text_cur c _ 255 _ CU2.out).mono ?_
    rintro e W3 ⟨rfl, hcu, hch⟩
    have C3 := Lib.hid (C2.out.new hch Hlo.out)
    have CU3 := Lib.hid hcu
    clear hcu
    clear hch
    rw [HT.out]
    go_wp2_with fail
    refine (Err_cur c _ _ (Hg.out.frame C3.out (by simp)) CU3.out).mono ?_
    rintro e W4 ⟨rfl, hch⟩
    have C4 := Lib.hid (C3.out.then hch)
    clear hch
    rw [HF.out]
    go_wp2
    go_ret2
    exact ⟨rfl, C4.out⟩
  · rw [h13] at hop
    have HOP := Lib.hid (hop)
    clear hop
    go_enter Tryd.func9, Tryd.ntmps9
    go_wp2_with fail
    refine (HOP.out _ _ Hg.out Rd.out).mono ?_
    rintro e W0 ⟨c, rfl, hlo, hcu, hch⟩
    have CU0 := Lib.hid hcu
    have Hlo := Lib.hid hlo
    have C0 := Lib.hid hch
    clear hcu hlo hch
    go_wp2_with fail
    refine (num4_at c l 8 12 _ CU0.out (by have := H12.out; omega) rfl).mono ?_
    rintro e W1 ⟨rfl, hcu, hch⟩
    have C1 := Lib.hid (C0.out.new hch Hlo.out)
    have CU1 := Lib.hid hcu
    clear hcu
    clear hch
    go_wp2_with fail
    rw [Hwa.out]
    refine (Seek_cur c _ _ _ CU1.out).mono ?_
    rintro e W2 ⟨rfl, hcu, hch⟩
    have C2 := Lib.hid (C1.out.new hch Hlo.out)
    rw [HSK.out] at hcu
    have CU2 := Lib.hid hcu
    clear hcu
    clear hch
    go_wp2_with fail
    refine (Text_cur c _ 255 _ CU2.out).mono ?_
    rintro e W3 ⟨rfl, hcu, hch⟩
    have C3 := Lib.hid (C2.out.new hch Hlo.out)
    have CU3 := Lib.hid hcu
    clear hcu
    clear hch
    rw [HT.out]
    go_wp2_with fail
    refine (Err_cur c _ _ (Hg.out.frame C3.out (by simp)) CU3.out).mono ?_
    rintro e W4 ⟨rfl, hch⟩
    have C4 := Lib.hid (C3.out.then hch)
    clear hch
    rw [HF.out]
    go_wp2
    go_ret2
    exact ⟨rfl, C4.out⟩
  · rw [h13] at hop
    have HOP := Lib.hid (hop)
    clear hop
    go_enter Tryd.func9, Tryd.ntmps9
    go_wp2_with fail
    refine (HOP.out _ _ Hg.out Rd.out).mono ?_
    rintro e W0 ⟨c, rfl, hlo, hcu, hch⟩
    have CU0 := Lib.hid hcu
    have Hlo := Lib.hid hlo
    have C0 := Lib.hid hch
    clear hcu hlo hch
    go_wp2_with fail
    refine (num4_at c l 8 12 _ CU0.out (by have := H12.out; omega) rfl).mono ?_
    rintro e W1 ⟨rfl, hcu, hch⟩
    have C1 := Lib.hid (C0.out.new hch Hlo.out)
    have CU1 := Lib.hid hcu
    clear hcu
    clear hch
    go_wp2_with fail
    rw [Hwa.out]
    refine (Seek_cur c _ _ _ CU1.out).mono ?_
    rintro e W2 ⟨rfl, hcu, hch⟩
    have C2 := Lib.hid (C1.out.new hch Hlo.out)
    rw [HSK.out] at hcu
    have CU2 := Lib.hid hcu
    clear hcu
    clear hch
    go_wp2_with fail
    refine (Text_cur c _ 255 _ CU2.out).mono ?_
    rintro e W3 ⟨rfl, hcu, hch⟩
    have C3 := Lib.hid (C2.out.new hch Hlo.out)
    have CU3 := Lib.hid hcu
    clear hcu
    clear hch
    rw [HT.out]
    go_wp2_with fail
    refine (Err_cur c _ _ (Hg.out.frame C3.out (by simp)) CU3.out).mono ?_
    rintro e W4 ⟨rfl, hch⟩
    have C4 := Lib.hid (C3.out.then hch)
    clear hch
    rw [HF.out]
    go_wp2
    go_ret2
    exact ⟨rfl, C4.out⟩
  · rw [h13] at hop
    have HOP := Lib.hid (hop)
    clear hop
    go_enter Tryd.func9, Tryd.ntmps9
    go_wp2_with fail
    refine (HOP.out _ _ Hg.out Rd.out).mono ?_
    rintro e W0 ⟨c, rfl, hlo, hcu, hch⟩
    have CU0 := Lib.hid hcu
    have Hlo := Lib.hid hlo
    have C0 := Lib.hid hch
    clear hcu hlo hch
    go_wp2_with fail
    refine (num4_at c l 8 12 _ CU0.out (by have := H12.out; omega) rfl).mono ?_
    rintro e W1 ⟨rfl, hcu, hch⟩
    have C1 := Lib.hid (C0.out.new hch Hlo.out)
    have CU1 := Lib.hid hcu
    clear hcu
    clear hch
    go_wp2_with fail
    rw [Hwa.out]
    refine (Seek_cur c _ _ _ CU1.out).mono ?_
    rintro e W2 ⟨rfl, hcu, hch⟩
    have C2 := Lib.hid (C1.out.new hch Hlo.out)
    rw [HSK.out] at hcu
    have CU2 := Lib.hid hcu
    clear hcu
    clear hch
    go_wp2_with fail
    refine (Text_cur c _ 255 _ CU2.out).mono ?_
    rintro e W3 ⟨rfl, hcu, hch⟩
    have C3 := Lib.hid (C2.out.new hch Hlo.out)
    have CU3 := Lib.hid hcu
    clear hcu
    clear hch
    rw [HT.out]
    go_wp2_with fail
    refine (Err_cur c _ _ (Hg.out.frame C3.out (by simp)) CU3.out).mono ?_
    rintro e W4 ⟨rfl, hch⟩
    have C4 := Lib.hid (C3.out.then hch)
    clear hch
    rw [HF.out]
    go_wp2
    go_ret2
    exact ⟨rfl, C4.out⟩
theorem Name_any (l : List UInt8) (hl : l.length ≤ 140737488355328) (v : Value) (w : World) (hg : Env w) (rd : byteL.Rd w v l) :
    Calls Tryd.prog 9 #[v] w fun e w' => e = .returned (.tuple #[.string (nameV l), .int .i64 (nameE l)]) ∧ Chg [] w w' := by
  unfold nameV
  by_cases h : opE l = 0
  · by_cases h2 : namedC (n4 l 0) = true
    · by_cases h3 : l.length < n4 l 8
      · have hE : nameE l = 10 := by unfold nameE; rw [if_neg (by simp [h]), if_neg (by simp [h2]), if_pos h3]
        rw [hE, if_neg (by decide)]
        exact Name_far l h h2 h3 hl v w hg rd
      · by_cases h4 : 0 < nmI l ∧ nmI l ≤ 255
        · have hE : nameE l = 0 := by unfold nameE; rw [if_neg (by simp [h]), if_neg (by simp [h2]), if_neg h3, if_pos h4]
          rw [hE, if_pos rfl]
          exact Name_ok l h h2 h3 h4 hl v w hg rd
        · have hE : nameE l = 10 := by unfold nameE; rw [if_neg (by simp [h]), if_neg (by simp [h2]), if_neg h3, if_neg h4]
          rw [hE, if_neg (by decide)]
          exact Name_no l h h2 h3 h4 hl v w hg rd
    · have h2' : namedC (n4 l 0) = false := by simpa using h2
      have hE : nameE l = 7 := by unfold nameE; rw [if_neg (by simp [h]), if_pos h2']
      rw [hE, if_neg (by decide)]
      exact Name_not l h h2' hl v w hg rd
  · have hE : nameE l = 3 := by unfold nameE; rw [if_pos h]
    rw [hE, if_neg (by decide)]
    exact Name_bad l h hl v w hg rd
end Go.Proofs.YtgjlgamlmmjdpaaDoor
