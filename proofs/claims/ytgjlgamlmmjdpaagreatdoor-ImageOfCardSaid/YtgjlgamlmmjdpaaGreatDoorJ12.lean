/- Lemmas, laid together: part 12 of 43. Conditions: none but each lemma's own. -/
import Derived.Test.YtgjlgamlmmjdpaaGreatDoorJ11
import Derived.Test.YtgjlgamlmmjdpaaGreatDoorJ9
import Derived.Test.YtgjlgamlmmjdpaaGreatDoorJ2
import Derived.Test.YtgjlgamlmmjdpaaGreatDoorProg
import Derived.Lib.Strings
/- load.Name. -/
namespace Go.Proofs.YtgjlgamlmmjdpaaGreatDoor
open Go.RowKit
set_option maxRecDepth 100000

/-- Does a command bear a name? -/
def namedC (c : Int) : Bool := decide (c = 13 ∨ c = 12 ∨ c = 2147483672 ∨ c = 2147483679 ∨ c = 2147483683)
/-- Where a command's name ends, from its beginning on. -/
def nmI (l : List UInt8) : Int := Lib.indexByte (l.drop (n4 l 8)) 0
def nameE (l : List UInt8) : Int := if ¬ opE l = 0 then 3 else if namedC (n4 l 0) = false then 7 else if l.length < n4 l 8 then 10 else if 0 < nmI l ∧ nmI l ≤ 255 then 0 else 10
def nameV (l : List UInt8) : ByteArray := if nameE l = 0 then ⟨((l.drop (n4 l 8)).take (nmI l).toNat).toArray⟩ else ⟨#[]⟩
theorem nm_seek (l : List UInt8) (p a : Nat) (h : a ≤ l.length) : seekS (cAt l p) (a : Int) = cAt l a := by
  unfold seekS
  rw [if_pos (by constructor <;> simp <;> omega)]
  simp
theorem nm_text (l : List UInt8) (a : Nat) (h : 0 ≤ Lib.indexByte (l.drop a) 0 ∧ Lib.indexByte (l.drop a) 0 ≤ 255) : textL (cAt l a) 255 = (l.drop a).take (Lib.indexByte (l.drop a) 0).toNat ∧ (textS (cAt l a) 255).failed = false := by
  have hok : textOk (cAt l a) 255 = true := by
    unfold textOk zeroAt
    simp only [Bool.not_false, Bool.true_and, Bool.and_eq_true, decide_eq_true_eq]
    exact h
  unfold textL textS
  rw [hok, if_pos rfl, if_pos rfl]
  exact ⟨rfl, rfl⟩
theorem nm_none (l : List UInt8) (a : Nat) (h : ¬ (0 ≤ Lib.indexByte (l.drop a) 0 ∧ Lib.indexByte (l.drop a) 0 ≤ 255)) : textL (cAt l a) 255 = [] ∧ (textS (cAt l a) 255).failed = true := by
  have hok : textOk (cAt l a) 255 = false := by
    unfold textOk zeroAt
    simp only [Bool.not_false, Bool.true_and, Bool.and_eq_false_iff, decide_eq_false_iff_not]
    by_cases h0 : 0 ≤ Lib.indexByte (l.drop a) 0
    · exact .inr fun h1 => h ⟨h0, h1⟩
    · exact .inl h0
  unfold textL textS
  rw [hok, if_neg (by decide), if_neg (by decide)]
  exact ⟨rfl, rfl⟩
theorem namedC_or {c : Int} (h : namedC c = true) : c = 13 ∨ c = 12 ∨ c = 2147483672 ∨ c = 2147483679 ∨ c = 2147483683 := of_decide_eq_true h
theorem named_24 {c : Int} (h : namedC c = true) : leastF c = 24 := by
  rcases namedC_or h with rfl | rfl | rfl | rfl | rfl <;> decide
theorem Name_bad (l : List UInt8) (h : ¬ opE l = 0) (hl : l.length ≤ 140737488355328) (v : Value) (w : World) (hg : Env w) (rd : byteL.Rd w v l) :
    Calls Tryz.prog 42 #[v] w fun e w' => e = .returned (.tuple #[.string ⟨#[]⟩, .int .i64 3]) ∧ Chg [] w w' := by
  have H := Lib.hid h
  have Hl := Lib.hid hl
  have Hg := Lib.hid hg
  have Rd := Lib.hid rd
  clear h hl hg rd
  go_enter Tryz.func42, Tryz.ntmps42
  go_wp2_with fail
  refine (open_bad l H.out Hl.out v _ Hg.out Rd.out).mono ?_
  rintro e W1 ⟨k, hk, rfl, hch⟩
  have C1 := Lib.hid hch
  clear hch
  go_wp2
  go_ret2
  exact ⟨rfl, C1.out⟩
set_option maxHeartbeats 4000000 in
theorem Name_not (l : List UInt8) (h : opE l = 0) (h2 : namedC (n4 l 0) = false) (hl : l.length ≤ 140737488355328) (v : Value) (w : World) (hg : Env w) (rd : byteL.Rd w v l) :
    Calls Tryz.prog 42 #[v] w fun e w' => e = .returned (.tuple #[.string ⟨#[]⟩, .int .i64 7]) ∧ Chg [] w w' := by
  have hop := fun v w hg rd => open_ok l h hl v w hg rd
  obtain ⟨z, hz⟩ : ∃ z, z = n4 l 0 := ⟨_, rfl⟩
  rw [← hz] at hop h2
  have h3 := of_decide_eq_false h2
  have e1 : (((z : Nat) : Int) == 13) = false := by rw [beq_eq_false_iff_ne]; omega
  have e2 : (((z : Nat) : Int) == 12) = false := by rw [beq_eq_false_iff_ne]; omega
  have e3 : (((z : Nat) : Int) == 2147483672) = false := by rw [beq_eq_false_iff_ne]; omega
  have e4 : (((z : Nat) : Int) == 2147483679) = false := by rw [beq_eq_false_iff_ne]; omega
  have e5 : (((z : Nat) : Int) == 2147483683) = false := by rw [beq_eq_false_iff_ne]; omega
  have H := Lib.hid h
  have Hl := Lib.hid hl
  have Hg := Lib.hid hg
  have Rd := Lib.hid rd
  have Hop := Lib.hid hop
  have H2 := Lib.hid h2
  have Hz := Lib.hid hz
  have H3 := Lib.hid h3
  clear h hl hg rd hop h2 hz h3
  go_enter Tryz.func42, Tryz.ntmps42
  go_wp2_with fail
  refine (Hop.out _ _ Hg.out Rd.out).mono ?_
  rintro e W0 ⟨c, rfl, hlo, hcu, hch⟩
  have CU0 := Lib.hid hcu
  have Hlo := Lib.hid hlo
  have C0 := Lib.hid hch
  clear hcu hlo hch
  go_wp2
  go_ret2
  exact ⟨rfl, C0.out⟩
set_option maxHeartbeats 8000000 in
theorem Name_far (l : List UInt8) (h : opE l = 0) (h2 : namedC (n4 l 0) = true) (h3 : l.length < n4 l 8) (hl : l.length ≤ 140737488355328) (v : Value) (w : World) (hg : Env w) (rd : byteL.Rd w v l) :
    Calls Tryz.prog 42 #[v] w fun e w' => e = .returned (.tuple #[.string ⟨#[]⟩, .int .i64 10]) ∧ Chg [] w w' := by
  have h12 : 12 ≤ l.length := by have := (opE_len h).2; rw [named_24 h2] at this; omega
  have hop := fun v w hg rd => open_ok l h hl v w hg rd
  obtain ⟨z, hz⟩ : ∃ z, z = n4 l 0 := ⟨_, rfl⟩
  rw [← hz] at hop h2
  obtain ⟨q, hq⟩ : ∃ q, q = n4 l 8 := ⟨_, rfl⟩
  have hq4 := n4_lt l 8
  rw [← hq] at hq4 h3
  have d1 : decide (l.length < n4 l 8) = true := decide_eq_true (by omega)
  obtain ⟨a, cap, rfl, hc1, hc2⟩ := rd.shape
  have h13 := namedC_or h2
  have H := Lib.hid h
  have Hl := Lib.hid hl
  have Hg := Lib.hid hg
  have Rd := Lib.hid rd
  have H2 := Lib.hid h2
  have Hz := Lib.hid hz
  have H12 := Lib.hid h12
  have Hq := Lib.hid hq
  have Hq4 := Lib.hid hq4
  have H3 := Lib.hid h3
  clear h hl hg rd h2 hz h12 hq hq4 h3
  rcases h13 with h13 | h13 | h13 | h13 | h13
  · rw [h13] at hop
    have HOP := Lib.hid (hop)
    clear hop
    go_enter Tryz.func42, Tryz.ntmps42
    go_wp2_with fail
    refine (HOP.out _ _ Hg.out Rd.out).mono ?_
    rintro e W0 ⟨c, rfl, hlo, hcu, hch⟩
    have CU0 := Lib.hid hcu
    have Hlo := Lib.hid hlo
    have C0 := Lib.hid hch
    clear hcu hlo hch
    go_wp2_with fail
    refine (num4_at c l 8 12 _ CU0.out (by have := H12.out; omega) rfl).mono ?_
    rintro e W1 ⟨rfl, hcu, hch⟩
    have C1 := Lib.hid (C0.out.new hch Hlo.out)
    have CU1 := Lib.hid hcu
    clear hcu
    clear hch
    go_wp2
    go_ret2
    exact ⟨rfl, C1.out⟩
  · rw [h13] at hop
    have HOP := Lib.hid (hop)
    clear hop
    go_enter Tryz.func42, Tryz.ntmps42
    go_wp2_with fail
    refine (HOP.out _ _ Hg.out Rd.out).mono ?_
    rintro e W0 ⟨c, rfl, hlo, hcu, hch⟩
    have CU0 := Lib.hid hcu
    have Hlo := Lib.hid hlo
    have C0 := Lib.hid hch
    clear hcu hlo hch
    go_wp2_with fail
    refine (num4_at c l 8 12 _ CU0.out (by have := H12.out; omega) rfl).mono ?_
    rintro e W1 ⟨rfl, hcu, hch⟩
    have C1 := Lib.hid (C0.out.new hch Hlo.out)
    have CU1 := Lib.hid hcu
    clear hcu
    clear hch
    go_wp2
    go_ret2
    exact ⟨rfl, C1.out⟩
  · rw [h13] at hop
    have HOP := Lib.hid (hop)
    clear hop
    go_enter Tryz.func42, Tryz.ntmps42
    go_wp2_with fail
    refine (HOP.out _ _ Hg.out Rd.out).mono ?_
    rintro e W0 ⟨c, rfl, hlo, hcu, hch⟩
    have CU0 := Lib.hid hcu
    have Hlo := Lib.hid hlo
    have C0 := Lib.hid hch
    clear hcu hlo hch
    go_wp2_with fail
    refine (num4_at c l 8 12 _ CU0.out (by have := H12.out; omega) rfl).mono ?_
    rintro e W1 ⟨rfl, hcu, hch⟩
    have C1 := Lib.hid (C0.out.new hch Hlo.out)
    have CU1 := Lib.hid hcu
    clear hcu
    clear hch
    go_wp2
    go_ret2
    exact ⟨rfl, C1.out⟩
  · rw [h13] at hop
    have HOP := Lib.hid (hop)
    clear hop
    go_enter Tryz.func42, Tryz.ntmps42
    go_wp2_with fail
    refine (HOP.out _ _ Hg.out Rd.out).mono ?_
    rintro e W0 ⟨c, rfl, hlo, hcu, hch⟩
    have CU0 := Lib.hid hcu
    have Hlo := Lib.hid hlo
    have C0 := Lib.hid hch
    clear hcu hlo hch
    go_wp2_with fail
    refine (num4_at c l 8 12 _ CU0.out (by have := H12.out; omega) rfl).mono ?_
    rintro e W1 ⟨rfl, hcu, hch⟩
    have C1 := Lib.hid (C0.out.new hch Hlo.out)
    have CU1 := Lib.hid hcu
    clear hcu
    clear hch
    go_wp2
    go_ret2
    exact ⟨rfl, C1.out⟩
  · rw [h13] at hop
    have HOP := Lib.hid (hop)
    clear hop
    go_enter Tryz.func42, Tryz.ntmps42
    go_wp2_with fail
    refine (HOP.out _ _ Hg.out Rd.out).mono ?_
    rintro e W0 ⟨c, rfl, hlo, hcu, hch⟩
    have CU0 := Lib.hid hcu
    have Hlo := Lib.hid hlo
    have C0 := Lib.hid hch
    clear hcu hlo hch
    go_wp2_with fail
    refine (num4_at c l 8 12 _ CU0.out (by have := H12.out; omega) rfl).mono ?_
    rintro e W1 ⟨rfl, hcu, hch⟩
    have C1 := Lib.hid (C0.out.new hch Hlo.out)
    have CU1 := Lib.hid hcu
    clear hcu
    clear hch
    go_wp2
    go_ret2
    exact ⟨rfl, C1.out⟩
set_option maxHeartbeats 8000000 in
theorem Name_no (l : List UInt8) (h : opE l = 0) (h2 : namedC (n4 l 0) = true) (h3 : ¬ l.length < n4 l 8) (h4 : ¬ (0 < nmI l ∧ nmI l ≤ 255)) (hl : l.length ≤ 140737488355328) (v : Value) (w : World) (hg : Env w) (rd : byteL.Rd w v l) :
    Calls Tryz.prog 42 #[v] w fun e w' => e = .returned (.tuple #[.string ⟨#[]⟩, .int .i64 10]) ∧ Chg [] w w' := by
  have h12 : 12 ≤ l.length := by have := (opE_len h).2; rw [named_24 h2] at this; omega
  have hop := fun v w hg rd => open_ok l h hl v w hg rd
  obtain ⟨z, hz⟩ : ∃ z, z = n4 l 0 := ⟨_, rfl⟩
  rw [← hz] at hop h2
  have hq4 := n4_lt l 8
  have d1 : decide (l.length < n4 l 8) = false := decide_eq_false (by omega)
  have hsk := nm_seek l 12 (n4 l 8) (by omega)
  have hwa : wrap64 (n4 l 8 : Int) = (n4 l 8 : Int) := by unfold wrap64; omega
  obtain ⟨b, hb, hft⟩ : ∃ b : Bool, (textS (cAt l (n4 l 8)) 255).failed = b ∧ textL (cAt l (n4 l 8)) 255 = [] := by
    by_cases h5 : 0 ≤ Lib.indexByte (l.drop (n4 l 8)) 0 ∧ Lib.indexByte (l.drop (n4 l 8)) 0 ≤ 255
    · have h6 : nmI l = 0 := by unfold nmI at h4 ⊢; omega
      have := nm_text l (n4 l 8) h5
      refine ⟨_, rfl, ?_⟩
      rw [this.1]
      unfold nmI at h6
      rw [h6]
      rfl
    · exact ⟨_, rfl, (nm_none l (n4 l 8) h5).1⟩
  obtain ⟨a, cap, rfl, hc1, hc2⟩ := rd.shape
  have h13 := namedC_or h2
  have hT : ByteArray.mk (textL (cAt l (n4 l 8)) 255).toArray = ⟨#[]⟩ := by rw [hft]
  have H := Lib.hid h
  have Hl := Lib.hid hl
  have Hg := Lib.hid hg
  have Rd := Lib.hid rd
  have H2 := Lib.hid h2
  have Hz := Lib.hid hz
  have H12 := Lib.hid h12
  have Hq4 := Lib.hid hq4
  have H3 := Lib.hid h3
  have H4 := Lib.hid h4
  have Hft := Lib.hid hft
  have HT := Lib.hid hT
  have HF := Lib.hid hb
  have HSK := Lib.hid hsk
  have Hwa := Lib.hid hwa
  clear h hl hg rd h2 hz h12 hq4 h3 h4 hft hT hb hsk hwa
  cases b
  · rcases h13 with h13 | h13 | h13 | h13 | h13
    · rw [h13] at hop
      have HOP := Lib.hid (hop)
      clear hop
      go_enter Tryz.func42, Tryz.ntmps42
      go_wp2_with fail
      refine (HOP.out _ _ Hg.out Rd.out).mono ?_
      rintro e W0 ⟨c, rfl, hlo, hcu, hch⟩
      have CU0 := Lib.hid hcu
      have Hlo := Lib.hid hlo
      have C0 := Lib.hid hch
      clear hcu hlo hch
      go_wp2_with fail
      refine (num4_at c l 8 12 _ CU0.out (by have := H12.out; omega) rfl).mono ?_
      rintro e W1 ⟨rfl, hcu, hch⟩
      have C1 := Lib.hid (C0.out.new hch Hlo.out)
      have CU1 := Lib.hid hcu
      clear hcu
      clear hch
      go_wp2_with fail
      rw [Hwa.out]
      refine (Seek_cur c _ _ _ CU1.out).mono ?_
      rintro e W2 ⟨rfl, hcu, hch⟩
      have C2 := Lib.hid (C1.out.new hch Hlo.out)
      rw [HSK.out] at hcu
      have CU2 := Lib.hid hcu
      clear hcu
      clear hch
      go_wp2_with fail
      refine (Text_cur c _ 255 _ CU2.out).mono ?_
      rintro e W3 ⟨rfl, hcu, hch⟩
      have C3 := Lib.hid (C2.out.new hch Hlo.out)
      have CU3 := Lib.hid hcu
      clear hcu
      clear hch
      rw [HT.out]
      go_wp2_with fail
      refine (Err_cur c _ _ (Hg.out.frame C3.out (by simp)) CU3.out).mono ?_
      rintro e W4 ⟨rfl, hch⟩
      have C4 := Lib.hid (C3.out.then hch)
      clear hch
      rw [HF.out]
      go_wp2
      go_ret2
      exact ⟨rfl, C4.out⟩
    · rw [h13] at hop
      have HOP := Lib.hid (hop)
      clear hop
      go_enter Tryz.func42, Tryz.ntmps42
      go_wp2_with fail
      refine (HOP.out _ _ Hg.out Rd.out).mono ?_
      rintro e W0 ⟨c, rfl, hlo, hcu, hch⟩
      have CU0 := Lib.hid hcu
      have Hlo := Lib.hid hlo
      have C0 := Lib.hid hch
      clear hcu hlo hch
      go_wp2_with fail
      refine (num4_at c l 8 12 _ CU0.out (by have := H12.out; omega) rfl).mono ?_
      rintro e W1 ⟨rfl, hcu, hch⟩
      have C1 := Lib.hid (C0.out.new hch Hlo.out)
      have CU1 := Lib.hid hcu
      clear hcu
      clear hch
      go_wp2_with fail
      rw [Hwa.out]
      refine (Seek_cur c _ _ _ CU1.out).mono ?_
      rintro e W2 ⟨rfl, hcu, hch⟩
      have C2 := Lib.hid (C1.out.new hch Hlo.out)
      rw [HSK.out] at hcu
      have CU2 := Lib.hid hcu
      clear hcu
      clear hch
      go_wp2_with fail
      refine (Text_cur c _ 255 _ CU2.out).mono ?_
      rintro e W3 ⟨rfl, hcu, hch⟩
      have C3 := Lib.hid (C2.out.new hch Hlo.out)
      have CU3 := Lib.hid hcu
      clear hcu
      clear hch
      rw [HT.out]
      go_wp2_with fail
      refine (Err_cur c _ _ (Hg.out.frame C3.out (by simp)) CU3.out).mono ?_
      rintro e W4 ⟨rfl, hch⟩
      have C4 := Lib.hid (C3.out.then hch)
      clear hch
      rw [HF.out]
      go_wp2
      go_ret2
      exact ⟨rfl, C4.out⟩
    · rw [h13] at hop
      have HOP := Lib.hid (hop)
      clear hop
      go_enter Tryz.func42, Tryz.ntmps42
      go_wp2_with fail
      refine (HOP.out _ _ Hg.out Rd.out).mono ?_
      rintro e W0 ⟨c, rfl, hlo, hcu, hch⟩
      have CU0 := Lib.hid hcu
      have Hlo := Lib.hid hlo
      have C0 := Lib.hid hch
      clear hcu hlo hch
      go_wp2_with fail
      refine (num4_at c l 8 12 _ CU0.out (by have := H12.out; omega) rfl).mono ?_
      rintro e W1 ⟨rfl, hcu, hch⟩
      have C1 := Lib.hid (C0.out.new hch Hlo.out)
      have CU1 := Lib.hid hcu
      clear hcu
      clear hch
      go_wp2_with fail
      rw [Hwa.out]
      refine (Seek_cur c _ _ _ CU1.out).mono ?_
      rintro e W2 ⟨rfl, hcu, hch⟩
      have C2 := Lib.hid (C1.out.new hch Hlo.out)
      rw [HSK.out] at hcu
      have CU2 := Lib.hid hcu
      clear hcu
      clear hch
      go_wp2_with fail
      refine (Text_cur c _ 255 _ CU2.out).mono ?_
      rintro e W3 ⟨rfl, hcu, hch⟩
      have C3 := Lib.hid (C2.out.new hch Hlo.out)
      have CU3 := Lib.hid hcu
      clear hcu
      clear hch
      rw [HT.out]
      go_wp2_with fail
      refine (Err_cur c _ _ (Hg.out.frame C3.out (by simp)) CU3.out).mono ?_
      rintro e W4 ⟨rfl, hch⟩
      have C4 := Lib.hid (C3.out.then hch)
      clear hch
      rw [HF.out]
      go_wp2
      go_ret2
      exact ⟨rfl, C4.out⟩
    · rw [h13] at hop
      have HOP := Lib.hid (hop)
      clear hop
      go_enter Tryz.func42, Tryz.ntmps42
      go_wp2_with fail
      refine (HOP.out _ _ Hg.out Rd.out).mono ?_
      rintro e W0 ⟨c, rfl, hlo, hcu, hch⟩
      have CU0 := Lib.hid hcu
      have Hlo := Lib.hid hlo
      have C0 := Lib.hid hch
      clear hcu hlo hch
      go_wp2_with fail
      refine (num4_at c l 8 12 _ CU0.out (by have := H12.out; omega) rfl).mono ?_
      rintro e W1 ⟨rfl, hcu, hch⟩
      have C1 := Lib.hid (C0.out.new hch Hlo.out)
      have CU1 := Lib.hid hcu
      clear hcu
      clear hch
      go_wp2_with fail
      rw [Hwa.out]
      refine (Seek_cur c _ _ _ CU1.out).mono ?_
      rintro e W2 ⟨rfl, hcu, hch⟩
      have C2 := Lib.hid (C1.out.new hch Hlo.out)
      rw [HSK.out] at hcu
      have CU2 := Lib.hid hcu
      clear hcu
      clear hch
      go_wp2_with fail
      refine (Text_cur c _ 255 _ CU2.out).mono ?_
      rintro e W3 ⟨rfl, hcu, hch⟩
      have C3 := Lib.hid (C2.out.new hch Hlo.out)
      have CU3 := Lib.hid hcu
      clear hcu
      clear hch
      rw [HT.out]
      go_wp2_with fail
      refine (Err_cur c _ _ (Hg.out.frame C3.out (by simp)) CU3.out).mono ?_
      rintro e W4 ⟨rfl, hch⟩
      have C4 := Lib.hid (C3.out.then hch)
      clear hch
      rw [HF.out]
      go_wp2
      go_ret2
      exact ⟨rfl, C4.out⟩
    · rw [h13] at hop
      have HOP := Lib.hid (hop)
      clear hop
      go_enter Tryz.func42, Tryz.ntmps42
      go_wp2_with fail
      refine (HOP.out _ _ Hg.out Rd.out).mono ?_
      rintro e W0 ⟨c, rfl, hlo, hcu, hch⟩
      have CU0 := Lib.hid hcu
      have Hlo := Lib.hid hlo
      have C0 := Lib.hid hch
      clear hcu hlo hch
      go_wp2_with fail
      refine (num4_at c l 8 12 _ CU0.out (by have := H12.out; omega) rfl).mono ?_
      rintro e W1 ⟨rfl, hcu, hch⟩
      have C1 := Lib.hid (C0.out.new hch Hlo.out)
      have CU1 := Lib.hid hcu
      clear hcu
      clear hch
      go_wp2_with fail
      rw [Hwa.out]
      refine (Seek_cur c _ _ _ CU1.out).mono ?_
      rintro e W2 ⟨rfl, hcu, hch⟩
      have C2 := Lib.hid (C1.out.new hch Hlo.out)
      rw [HSK.out] at hcu
      have CU2 := Lib.hid hcu
      clear hcu
      clear hch
      go_wp2_with fail
      refine (Text_cur c _ 255 _ CU2.out).mono ?_
      rintro e W3 ⟨rfl, hcu, hch⟩
      have C3 := Lib.hid (C2.out.new hch Hlo.out)
      have CU3 := Lib.hid hcu
      clear hcu
      clear hch
      rw [HT.out]
      go_wp2_with fail
      refine (Err_cur c _ _ (Hg.out.frame C3.out (by simp)) CU3.out).mono ?_
      rintro e W4 ⟨rfl, hch⟩
      have C4 := Lib.hid (C3.out.then hch)
      clear hch
      rw [HF.out]
      go_wp2
      go_ret2
      exact ⟨rfl, C4.out⟩
  · rcases h13 with h13 | h13 | h13 | h13 | h13
    · rw [h13] at hop
      have HOP := Lib.hid (hop)
      clear hop
      go_enter Tryz.func42, Tryz.ntmps42
      go_wp2_with fail
      refine (HOP.out _ _ Hg.out Rd.out).mono ?_
      rintro e W0 ⟨c, rfl, hlo, hcu, hch⟩
      have CU0 := Lib.hid hcu
      have Hlo := Lib.hid hlo
      have C0 := Lib.hid hch
      clear hcu hlo hch
      go_wp2_with fail
      refine (num4_at c l 8 12 _ CU0.out (by have := H12.out; omega) rfl).mono ?_
      rintro e W1 ⟨rfl, hcu, hch⟩
      have C1 := Lib.hid (C0.out.new hch Hlo.out)
      have CU1 := Lib.hid hcu
      clear hcu
      clear hch
      go_wp2_with fail
      rw [Hwa.out]
      refine (Seek_cur c _ _ _ CU1.out).mono ?_
      rintro e W2 ⟨rfl, hcu, hch⟩
      have C2 := Lib.hid (C1.out.new hch Hlo.out)
      rw [HSK.out] at hcu
      have CU2 := Lib.hid hcu
      clear hcu
      clear hch
      go_wp2_with fail
      refine (Text_cur c _ 255 _ CU2.out).mono ?_
      rintro e W3 ⟨rfl, hcu, hch⟩
      have C3 := Lib.hid (C2.out.new hch Hlo.out)
      have CU3 := Lib.hid hcu
      clear hcu
      clear hch
      rw [HT.out]
      go_wp2_with fail
      refine (Err_cur c _ _ (Hg.out.frame C3.out (by simp)) CU3.out).mono ?_
      rintro e W4 ⟨rfl, hch⟩
      have C4 := Lib.hid (C3.out.then hch)
      clear hch
      rw [HF.out]
      go_wp2
      go_ret2
      exact ⟨rfl, C4.out⟩
    · rw [h13] at hop
      have HOP := Lib.hid (hop)
      clear hop
      go_enter Tryz.func42, Tryz.ntmps42
      go_wp2_with fail
      refine (HOP.out _ _ Hg.out Rd.out).mono ?_
      rintro e W0 ⟨c, rfl, hlo, hcu, hch⟩
      have CU0 := Lib.hid hcu
      have Hlo := Lib.hid hlo
      have C0 := Lib.hid hch
      clear hcu hlo hch
      go_wp2_with fail
      refine (num4_at c l 8 12 _ CU0.out (by have := H12.out; omega) rfl).mono ?_
      rintro e W1 ⟨rfl, hcu, hch⟩
      have C1 := Lib.hid (C0.out.new hch Hlo.out)
      have CU1 := Lib.hid hcu
      clear hcu
      clear hch
      go_wp2_with fail
      rw [Hwa.out]
      refine (Seek_cur c _ _ _ CU1.out).mono ?_
      rintro e W2 ⟨rfl, hcu, hch⟩
      have C2 := Lib.hid (C1.out.new hch Hlo.out)
      rw [HSK.out] at hcu
      have CU2 := Lib.hid hcu
      clear hcu
      clear hch
      go_wp2_with fail
      refine (Text_cur c _ 255 _ CU2.out).mono ?_
      rintro e W3 ⟨rfl, hcu, hch⟩
      have C3 := Lib.hid (C2.out.new hch Hlo.out)
      have CU3 := Lib.hid hcu
      clear hcu
      clear hch
      rw [HT.out]
      go_wp2_with fail
      refine (Err_cur c _ _ (Hg.out.frame C3.out (by simp)) CU3.out).mono ?_
      rintro e W4 ⟨rfl, hch⟩
      have C4 := Lib.hid (C3.out.then hch)
      clear hch
      rw [HF.out]
      go_wp2
      go_ret2
      exact ⟨rfl, C4.out⟩
    · rw [h13] at hop
      have HOP := Lib.hid (hop)
      clear hop
      go_enter Tryz.func42, Tryz.ntmps42
      go_wp2_with fail
      refine (HOP.out _ _ Hg.out Rd.out).mono ?_
      rintro e W0 ⟨c, rfl, hlo, hcu, hch⟩
      have CU0 := Lib.hid hcu
      have Hlo := Lib.hid hlo
      have C0 := Lib.hid hch
      clear hcu hlo hch
      go_wp2_with fail
      refine (num4_at c l 8 12 _ CU0.out (by have := H12.out; omega) rfl).mono ?_
      rintro e W1 ⟨rfl, hcu, hch⟩
      have C1 := Lib.hid (C0.out.new hch Hlo.out)
      have CU1 := Lib.hid hcu
      clear hcu
      clear hch
      go_wp2_with fail
      rw [Hwa.out]
      refine (Seek_cur c _ _ _ CU1.out).mono ?_
      rintro e W2 ⟨rfl, hcu, hch⟩
      have C2 := Lib.hid (C1.out.new hch Hlo.out)
      rw [HSK.out] at hcu
      have CU2 := Lib.hid hcu
      clear hcu
      clear hch
      go_wp2_with fail
      refine (Text_cur c _ 255 _ CU2.out).mono ?_
      rintro e W3 ⟨rfl, hcu, hch⟩
      have C3 := Lib.hid (C2.out.new hch Hlo.out)
      have CU3 := Lib.hid hcu
      clear hcu
      clear hch
      rw [HT.out]
      go_wp2_with fail
      refine (Err_cur c _ _ (Hg.out.frame C3.out (by simp)) CU3.out).mono ?_
      rintro e W4 ⟨rfl, hch⟩
      have C4 := Lib.hid (C3.out.then hch)
      clear hch
      rw [HF.out]
      go_wp2
      go_ret2
      exact ⟨rfl, C4.out⟩
    · rw [h13] at hop
      have HOP := Lib.hid (hop)
      clear hop
      go_enter Tryz.func42, Tryz.ntmps42
      go_wp2_with fail
      refine (HOP.out _ _ Hg.out Rd.out).mono ?_
      rintro e W0 ⟨c, rfl, hlo, hcu, hch⟩
      have CU0 := Lib.hid hcu
      have Hlo := Lib.hid hlo
      have C0 := Lib.hid hch
      clear hcu hlo hch
      go_wp2_with fail
      refine (num4_at c l 8 12 _ CU0.out (by have := H12.out; omega) rfl).mono ?_
      rintro e W1 ⟨rfl, hcu, hch⟩
      have C1 := Lib.hid (C0.out.new hch Hlo.out)
      have CU1 := Lib.hid hcu
      clear hcu
      clear hch
      go_wp2_with fail
      rw [Hwa.out]
      refine (Seek_cur c _ _ _ CU1.out).mono ?_
      rintro e W2 ⟨rfl, hcu, hch⟩
      have C2 := Lib.hid (C1.out.new hch Hlo.out)
      rw [HSK.out] at hcu
      have CU2 := Lib.hid hcu
      clear hcu
      clear hch
      go_wp2_with fail
      refine (Text_cur c _ 255 _ CU2.out).mono ?_
      rintro e W3 ⟨rfl, hcu, hch⟩
      have C3 := Lib.hid (C2.out.new hch Hlo.out)
      have CU3 := Lib.hid hcu
      clear hcu
      clear hch
      rw [HT.out]
      go_wp2_with fail
      refine (Err_cur c _ _ (Hg.out.frame C3.out (by simp)) CU3.out).mono ?_
      rintro e W4 ⟨rfl, hch⟩
      have C4 := Lib.hid (C3.out.then hch)
      clear hch
      rw [HF.out]
      go_wp2
      go_ret2
      exact ⟨rfl, C4.out⟩
    · rw [h13] at hop
      have HOP := Lib.hid (hop)
      clear hop
      go_enter Tryz.func42, Tryz.ntmps42
      go_wp2_with fail
      refine (HOP.out _ _ Hg.out Rd.out).mono ?_
      rintro e W0 ⟨c, rfl, hlo, hcu, hch⟩
      have CU0 := Lib.hid hcu
      have Hlo := Lib.hid hlo
      have C0 := Lib.hid hch
      clear hcu hlo hch
      go_wp2_with fail
      refine (num4_at c l 8 12 _ CU0.out (by have := H12.out; omega) rfl).mono ?_
      rintro e W1 ⟨rfl, hcu, hch⟩
      have C1 := Lib.hid (C0.out.new hch Hlo.out)
      have CU1 := Lib.hid hcu
      clear hcu
      clear hch
      go_wp2_with fail
      rw [Hwa.out]
      refine (Seek_cur c _ _ _ CU1.out).mono ?_
      rintro e W2 ⟨rfl, hcu, hch⟩
      have C2 := Lib.hid (C1.out.new hch Hlo.out)
      rw [HSK.out] at hcu
      have CU2 := Lib.hid hcu
      clear hcu
      clear hch
      go_wp2_with fail
      refine (Text_cur c _ 255 _ CU2.out).mono ?_
      rintro e W3 ⟨rfl, hcu, hch⟩
      have C3 := Lib.hid (C2.out.new hch Hlo.out)
      have CU3 := Lib.hid hcu
      clear hcu
      clear hch
      rw [HT.out]
      go_wp2_with fail
      refine (Err_cur c _ _ (Hg.out.frame C3.out (by simp)) CU3.out).mono ?_
      rintro e W4 ⟨rfl, hch⟩
      have C4 := Lib.hid (C3.out.then hch)
      clear hch
      rw [HF.out]
      go_wp2
      go_ret2
      exact ⟨rfl, C4.out⟩
set_option maxHeartbeats 8000000 in
theorem Name_ok (l : List UInt8) (h : opE l = 0) (h2 : namedC (n4 l 0) = true) (h3 : ¬ l.length < n4 l 8) (h4 : 0 < nmI l ∧ nmI l ≤ 255) (hl : l.length ≤ 140737488355328) (v : Value) (w : World) (hg : Env w) (rd : byteL.Rd w v l) :
    Calls Tryz.prog 42 #[v] w fun e w' => e = .returned (.tuple #[.string ⟨((l.drop (n4 l 8)).take (nmI l).toNat).toArray⟩, .int .i64 0]) ∧ Chg [] w w' := by
  have h12 : 12 ≤ l.length := by have := (opE_len h).2; rw [named_24 h2] at this; omega
  have hop := fun v w hg rd => open_ok l h hl v w hg rd
  obtain ⟨z, hz⟩ : ∃ z, z = n4 l 0 := ⟨_, rfl⟩
  rw [← hz] at hop h2
  have hq4 := n4_lt l 8
  have d1 : decide (l.length < n4 l 8) = false := decide_eq_false (by omega)
  have hsk := nm_seek l 12 (n4 l 8) (by omega)
  have hwa : wrap64 (n4 l 8 : Int) = (n4 l 8 : Int) := by unfold wrap64; omega
  have hft := nm_text l (n4 l 8) (by unfold nmI at h4; omega)
  have hT := hft.1
  have hF := hft.2
  have hne : ¬ (l.drop (n4 l 8)).take (nmI l).toNat = [] := by
    intro e
    have h5 := congrArg List.length e
    have h6 := indexByte_lt (l.drop (n4 l 8)) 0
    unfold nmI at h4 h5
    rw [List.length_take, List.length_nil] at h5
    omega
  rw [show Lib.indexByte (l.drop (n4 l 8)) 0 = nmI l from rfl] at hT
  obtain ⟨T, hTT⟩ : ∃ T, T = (l.drop (n4 l 8)).take (nmI l).toNat := ⟨_, rfl⟩
  rw [← hTT] at hT hne ⊢
  have hs2 : ((⟨T.toArray⟩ : ByteArray).toList == []) = false := by rw [Lib.toList_data]; simpa using hne
  have hs3 : decide ((⟨T.toArray⟩ : ByteArray).toList = []) = false := by rw [Lib.toList_data]; simpa using hne
  obtain ⟨a, cap, rfl, hc1, hc2⟩ := rd.shape
  have h13 := namedC_or h2
  obtain ⟨S, hS⟩ : ∃ S : ByteArray, S = ⟨T.toArray⟩ := ⟨_, rfl⟩
  rw [← hS] at hs2 hs3 ⊢
  have H := Lib.hid h
  have Hl := Lib.hid hl
  have Hg := Lib.hid hg
  have Rd := Lib.hid rd
  have H2 := Lib.hid h2
  have Hz := Lib.hid hz
  have H12 := Lib.hid h12
  have Hq4 := Lib.hid hq4
  have H3 := Lib.hid h3
  have H4 := Lib.hid h4
  have HF := Lib.hid hF
  have HSK := Lib.hid hsk
  have Hwa := Lib.hid hwa
  have Hft := Lib.hid hft
  have Hne := Lib.hid hne
  have HTT := Lib.hid hTT
  clear h hl hg rd h2 hz h12 hq4 h3 h4 hF hsk hwa hft hne hTT
  have HT : Hid (ByteArray.mk (textL (cAt l (n4 l 8)) 255).toArray = S) := Lib.hid (by rw [hT, hS])
  clear hT hS
  rcases h13 with h13 | h13 | h13 | h13 | h13
  · rw [h13] at hop
    have HOP := Lib.hid (hop)
    clear hop
    go_enter Tryz.func42, Tryz.ntmps42
    go_wp2_with fail
    refine (HOP.out _ _ Hg.out Rd.out).mono ?_
    rintro e W0 ⟨c, rfl, hlo, hcu, hch⟩
    have CU0 := Lib.hid hcu
    have Hlo := Lib.hid hlo
    have C0 := Lib.hid hch
    clear hcu hlo hch
    go_wp2_with fail
    refine (num4_at c l 8 12 _ CU0.out (by have := H12.out; omega) rfl).mono ?_
    rintro e W1 ⟨rfl, hcu, hch⟩
    have C1 := Lib.hid (C0.out.new hch Hlo.out)
    have CU1 := Lib.hid hcu
    clear hcu
    clear hch
    go_wp2_with fail
    rw [Hwa.out]
    refine (Seek_cur c _ _ _ CU1.out).mono ?_
    rintro e W2 ⟨rfl, hcu, hch⟩
    have C2 := Lib.hid (C1.out.new hch Hlo.out)
    rw [HSK.out] at hcu
    have CU2 := Lib.hid hcu
    clear hcu
    clear hch
    go_wp2_with fail
    refine (Text_cur c _ 255 _ CU2.out).mono ?_
    rintro e W3 ⟨rfl, hcu, hch⟩
    have C3 := Lib.hid (C2.out.new hch Hlo.out)
    have CU3 := Lib.hid hcu
    clear hcu
    clear hch
    rw [HT.out]
    go_wp2_with fail
    refine (Err_cur c _ _ (Hg.out.frame C3.out (by simp)) CU3.out).mono ?_
    rintro e W4 ⟨rfl, hch⟩
    have C4 := Lib.hid (C3.out.then hch)
    clear hch
    rw [HF.out]
    go_wp2
    go_ret2
    exact ⟨rfl, C4.out⟩
  · rw [h13] at hop
    have HOP := Lib.hid (hop)
    clear hop
    go_enter Tryz.func42, Tryz.ntmps42
    go_wp2_with fail
    refine (HOP.out _ _ Hg.out Rd.out).mono ?_
    rintro e W0 ⟨c, rfl, hlo, hcu, hch⟩
    have CU0 := Lib.hid hcu
    have Hlo := Lib.hid hlo
    have C0 := Lib.hid hch
    clear hcu hlo hch
    go_wp2_with fail
    refine (num4_at c l 8 12 _ CU0.out (by have := H12.out; omega) rfl).mono ?_
    rintro e W1 ⟨rfl, hcu, hch⟩
    have C1 := Lib.hid (C0.out.new hch Hlo.out)
    have CU1 := Lib.hid hcu
    clear hcu
    clear hch
    go_wp2_with fail
    rw [Hwa.out]
    refine (Seek_cur c _ _ _ CU1.out).mono ?_
    rintro e W2 ⟨rfl, hcu, hch⟩
    have C2 := Lib.hid (C1.out.new hch Hlo.out)
    rw [HSK.out] at hcu
    have CU2 := Lib.hid hcu
    clear hcu
    clear hch
    go_wp2_with fail
    refine (Text_cur c _ 255 _ CU2.out).mono ?_
    rintro e W3 ⟨rfl, hcu, hch⟩
    have C3 := Lib.hid (C2.out.new hch Hlo.out)
    have CU3 := Lib.hid hcu
    clear hcu
    clear hch
    rw [HT.out]
    go_wp2_with fail
    refine (Err_cur c _ _ (Hg.out.frame C3.out (by simp)) CU3.out).mono ?_
    rintro e W4 ⟨rfl, hch⟩
    have C4 := Lib.hid (C3.out.then hch)
    clear hch
    rw [HF.out]
    go_wp2
    go_ret2
    exact ⟨rfl, C4.out⟩
  · rw [h13] at hop
    have HOP := Lib.hid (hop)
    clear hop
    go_enter Tryz.func42, Tryz.ntmps42
    go_wp2_with fail
    refine (HOP.out _ _ Hg.out Rd.out).mono ?_
    rintro e W0 ⟨c, rfl, hlo, hcu, hch⟩
    have CU0 := Lib.hid hcu
    have Hlo := Lib.hid hlo
    have C0 := Lib.hid hch
    clear hcu hlo hch
    go_wp2_with fail
    refine (num4_at c l 8 12 _ CU0.out (by have := H12.out; omega) rfl).mono ?_
    rintro e W1 ⟨rfl, hcu, hch⟩
    have C1 := Lib.hid (C0.out.new hch Hlo.out)
    have CU1 := Lib.hid hcu
    clear hcu
    clear hch
    go_wp2_with fail
    rw [Hwa.out]
    refine (Seek_cur c _ _ _ CU1.out).mono ?_
    rintro e W2 ⟨rfl, hcu, hch⟩
    have C2 := Lib.hid (C1.out.new hch Hlo.out)
    rw [HSK.out] at hcu
    have CU2 := Lib.hid hcu
    clear hcu
    clear hch
    go_wp2_with fail
    refine (Text_cur c _ 255 _ CU2.out).mono ?_
    rintro e W3 ⟨rfl, hcu, hch⟩
    have C3 := Lib.hid (C2.out.new hch Hlo.out)
    have CU3 := Lib.hid hcu
    clear hcu
    clear hch
    rw [HT.out]
    go_wp2_with fail
    refine (Err_cur c _ _ (Hg.out.frame C3.out (by simp)) CU3.out).mono ?_
    rintro e W4 ⟨rfl, hch⟩
    have C4 := Lib.hid (C3.out.then hch)
    clear hch
    rw [HF.out]
    go_wp2
    go_ret2
    exact ⟨rfl, C4.out⟩
  · rw [h13] at hop
    have HOP := Lib.hid (hop)
    clear hop
    go_enter Tryz.func42, Tryz.ntmps42
    go_wp2_with fail
    refine (HOP.out _ _ Hg.out Rd.out).mono ?_
    rintro e W0 ⟨c, rfl, hlo, hcu, hch⟩
    have CU0 := Lib.hid hcu
    have Hlo := Lib.hid hlo
    have C0 := Lib.hid hch
    clear hcu hlo hch
    go_wp2_with fail
    refine (num4_at c l 8 12 _ CU0.out (by have := H12.out; omega) rfl).mono ?_
    rintro e W1 ⟨rfl, hcu, hch⟩
    have C1 := Lib.hid (C0.out.new hch Hlo.out)
    have CU1 := Lib.hid hcu
    clear hcu
    clear hch
    go_wp2_with fail
    rw [Hwa.out]
    refine (Seek_cur c _ _ _ CU1.out).mono ?_
    rintro e W2 ⟨rfl, hcu, hch⟩
    have C2 := Lib.hid (C1.out.new hch Hlo.out)
    rw [HSK.out] at hcu
    have CU2 := Lib.hid hcu
    clear hcu
    clear hch
    go_wp2_with fail
    refine (Text_cur c _ 255 _ CU2.out).mono ?_
    rintro e W3 ⟨rfl, hcu, hch⟩
    have C3 := Lib.hid (C2.out.new hch Hlo.out)
    have CU3 := Lib.hid hcu
    clear hcu
    clear hch
    rw [HT.out]
    go_wp2_with fail
    refine (Err_cur c _ _ (Hg.out.frame C3.out (by simp)) CU3.out).mono ?_
    rintro e W4 ⟨rfl, hch⟩
    have C4 := Lib.hid (C3.out.then hch)
    clear hch
    rw [HF.out]
    go_wp2
    go_ret2
    exact ⟨rfl, C4.out⟩
  · rw [h13] at hop
    have HOP := Lib.hid (hop)
    clear hop
    go_enter Tryz.func42, Tryz.ntmps42
    go_wp2_with fail
    refine (HOP.out _ _ Hg.out Rd.out).mono ?_
    rintro e W0 ⟨c, rfl, hlo, hcu, hch⟩
    have CU0 := Lib.hid hcu
    have Hlo := Lib.hid hlo
    have C0 := Lib.hid hch
    clear hcu hlo hch
    go_wp2_with fail
    refine (num4_at c l 8 12 _ CU0.out (by have := H12.out; omega) rfl).mono ?_
    rintro e W1 ⟨rfl, hcu, hch⟩
    have C1 := Lib.hid (C0.out.new hch Hlo.out)
    have CU1 := Lib.hid hcu
    clear hcu
    clear hch
    go_wp2_with fail
    rw [Hwa.out]
    refine (Seek_cur c _ _ _ CU1.out).mono ?_
    rintro e W2 ⟨rfl, hcu, hch⟩
    have C2 := Lib.hid (C1.out.new hch Hlo.out)
    rw [HSK.out] at hcu
    have CU2 := Lib.hid hcu
    clear hcu
    clear hch
    go_wp2_with fail
    refine (Text_cur c _ 255 _ CU2.out).mono ?_
    rintro e W3 ⟨rfl, hcu, hch⟩
    have C3 := Lib.hid (C2.out.new hch Hlo.out)
    have CU3 := Lib.hid hcu
    clear hcu
    clear hch
    rw [HT.out]
    go_wp2_with fail
    refine (Err_cur c _ _ (Hg.out.frame C3.out (by simp)) CU3.out).mono ?_
    rintro e W4 ⟨rfl, hch⟩
    have C4 := Lib.hid (C3.out.then hch)
    clear hch
    rw [HF.out]
    go_wp2
    go_ret2
    exact ⟨rfl, C4.out⟩
theorem Name_any (l : List UInt8) (hl : l.length ≤ 140737488355328) (v : Value) (w : World) (hg : Env w) (rd : byteL.Rd w v l) :
    Calls Tryz.prog 42 #[v] w fun e w' => e = .returned (.tuple #[.string (nameV l), .int .i64 (nameE l)]) ∧ Chg [] w w' := by
  unfold nameV
  by_cases h : opE l = 0
  · by_cases h2 : namedC (n4 l 0) = true
    · by_cases h3 : l.length < n4 l 8
      · have hE : nameE l = 10 := by unfold nameE; rw [if_neg (by simp [h]), if_neg (by simp [h2]), if_pos h3]
        rw [hE, if_neg (by decide)]
        exact Name_far l h h2 h3 hl v w hg rd
      · by_cases h4 : 0 < nmI l ∧ nmI l ≤ 255
        · have hE : nameE l = 0 := by unfold nameE; rw [if_neg (by simp [h]), if_neg (by simp [h2]), if_neg h3, if_pos h4]
          rw [hE, if_pos rfl]
          exact Name_ok l h h2 h3 h4 hl v w hg rd
        · have hE : nameE l = 10 := by unfold nameE; rw [if_neg (by simp [h]), if_neg (by simp [h2]), if_neg h3, if_neg h4]
          rw [hE, if_neg (by decide)]
          exact Name_no l h h2 h3 h4 hl v w hg rd
    · have h2' : namedC (n4 l 0) = false := by simpa using h2
      have hE : nameE l = 7 := by unfold nameE; rw [if_neg (by simp [h]), if_pos h2']
      rw [hE, if_neg (by decide)]
      exact Name_not l h h2' hl v w hg rd
  · have hE : nameE l = 3 := by unfold nameE; rw [if_pos h]
    rw [hE, if_neg (by decide)]
    exact Name_bad l h hl v w hg rd
end Go.Proofs.YtgjlgamlmmjdpaaGreatDoor
/- Records: spans (printed by mkrecs4.sh). -/
namespace Go.Proofs.YtgjlgamlmmjdpaaGreatDoor
open Go.RowKit
set_option maxRecDepth 100000

/-- A record Spn. -/
structure Spn where
  off : Int
  size : Int
def Spn.cells (s : Spn) : List Value := [.int .u64 s.off, .int .u64 s.size]
abbrev Spn.v (s : Spn) : Value := .agg #[.int .u64 s.off, .int .u64 s.size]
/-- Its numbers are of their kinds. -/
def Spn.wf (s : Spn) : Prop := (Lit.int .u64 s.off).wf = true ∧ (Lit.int .u64 s.size).wf = true
def Spn.zero : Spn := ⟨0, 0⟩
def spnL : Lay Spn := ⟨2, Spn.cells, Spn.zero, fun _ => rfl, by decide, fun x u hu => by
  simp only [Spn.cells, List.mem_cons, List.not_mem_nil, or_false] at hu
  rcases hu with rfl | rfl <;> rfl⟩
theorem Spn.at {w : World} {b o : Nat} {s : Spn} (h : spnL.In w b o s) : w.cell? ⟨b, o, none⟩ = some (.int .u64 s.off) ∧ w.cell? ⟨b, o + 1, none⟩ = some (.int .u64 s.size) :=
  ⟨h 0 (by decide), h 1 (by decide)⟩
theorem Spn.at0 {w : World} {b : Nat} {s : Spn} (h : spnL.In w b 0 s) : w.cell? ⟨b, 0, none⟩ = some (.int .u64 s.off) ∧ w.cell? ⟨b, 1, none⟩ = some (.int .u64 s.size) := by
  obtain ⟨h0, h1⟩ := Spn.at h
  simp only [Nat.zero_add] at h1
  exact ⟨h0, h1⟩
theorem Spn.boxed (w : World) (s : Spn) (T : TypeId) : spnL.In (w.alloc (.cells #[.int .u64 s.off, .int .u64 s.size] T)) w.heap.size 0 s := fun c _ => by
  rw [cell_of_heap (heap_alloc_eq w _), Nat.zero_add]
  exact List.getElem?_toArray ..
/-- A record in a block of its own: made, written, a field written. -/
theorem Spn.box (w : World) (s : Spn) (T : TypeId) : spnL.Box (w.alloc (.cells #[.int .u64 s.off, .int .u64 s.size] T)) w.heap.size s := Lay.Box.of_alloc (L := spnL) w s T
theorem Spn.boxAt (w : World) (s : Spn) (T : TypeId) {b : Nat} (hb : b = w.heap.size) : spnL.Box (w.alloc (.cells #[.int .u64 s.off, .int .u64 s.size] T)) b s := by rw [hb]; exact Spn.box w s T
theorem Spn.put0 {w : World} {g : Nat} {y : Spn} (h : spnL.Box w g y) (s : Spn) : spnL.Box ((w.setCell ⟨g, 0, none⟩ (.int .u64 s.off)).setCell ⟨g, 1, none⟩ (.int .u64 s.size)) g s := Lay.Box.put h s
theorem Spn.chg0 (w : World) (g : Nat) (s : Spn) : Chg [g] w ((w.setCell ⟨g, 0, none⟩ (.int .u64 s.off)).setCell ⟨g, 1, none⟩ (.int .u64 s.size)) := Lay.setW_chg g s.cells w 0
theorem Spn.set_off {w : World} {g : Nat} {s : Spn} (h : spnL.Box w g s) (x : Int) : spnL.Box (w.setCell ⟨g, 0, none⟩ (.int .u64 x)) g { s with off := x } := Lay.Box.set h 0 _ _ rfl
theorem Spn.set_size {w : World} {g : Nat} {s : Spn} (h : spnL.Box w g s) (x : Int) : spnL.Box (w.setCell ⟨g, 1, none⟩ (.int .u64 x)) g { s with size := x } := Lay.Box.set h 1 _ _ rfl
theorem Spn.c_off {w : World} {b : Nat} {s : Spn} (h : spnL.Box w b s) : w.cell? ⟨b, 0, none⟩ = some (.int .u64 s.off) := by have := h.in 0 (by decide); rw [Nat.zero_add] at this; exact this
theorem Spn.c_size {w : World} {b : Nat} {s : Spn} (h : spnL.Box w b s) : w.cell? ⟨b, 1, none⟩ = some (.int .u64 s.size) := by have := h.in 1 (by decide); rw [Nat.zero_add] at this; exact this
theorem Spn.at0B {w : World} {b : Nat} {s : Spn} (h : spnL.Box w b s) : w.cell? ⟨b, 0, none⟩ = some (.int .u64 s.off) ∧ w.cell? ⟨b, 1, none⟩ = some (.int .u64 s.size) := Spn.at0 h.in
theorem Spn.ext' {s r : Spn} (h0 : s.off = r.off) (h1 : s.size = r.size) : s = r := by
  cases s; cases r; simp only at h0 h1; subst h0 h1; rfl
instance : DecidableEq Spn := fun s r => decidable_of_iff (s.off = r.off ∧ s.size = r.size) ⟨fun h => Spn.ext' h.1 h.2, fun h => by rw [h]; exact ⟨rfl, rfl⟩⟩
theorem Spn.eqv (s r : Spn) : decide (s = r) = (decide (s.off = r.off) && (decide (s.size = r.size))) := by
  have e : s = r ↔ (s.off = r.off ∧ s.size = r.size) := ⟨fun h => by rw [h]; exact ⟨rfl, rfl⟩, fun h => Spn.ext' h.1 h.2⟩
  simp only [← Bool.decide_and]
  exact decide_eq_decide.2 e
set_option maxHeartbeats 2000000 in
theorem Spn.eql (s r : Spn) (W : World) : (binOp .eql 30 (.agg #[.int .u64 s.off, .int .u64 s.size]) (.agg #[.int .u64 r.off, .int .u64 r.size])).run Tryz.prog W = .ok (.bool (decide (s = r))) W := by
  rw [Spn.eqv]
  go_simp
  (repeat' split) <;> simp [*]
set_option maxHeartbeats 2000000 in
theorem Spn.neq (s r : Spn) (W : World) : (binOp .neq 30 (.agg #[.int .u64 s.off, .int .u64 s.size]) (.agg #[.int .u64 r.off, .int .u64 r.size])).run Tryz.prog W = .ok (.bool (!decide (s = r))) W := by
  rw [Spn.eqv]
  go_simp
  (repeat' split) <;> simp [*]
end Go.Proofs.YtgjlgamlmmjdpaaGreatDoor
