/- The document's Slices and Slice: whatever the bytes. -/
import Derived.Test.YtchkombikjcokaaDoorRSw
import Derived.Test.YtchkombikjcokaaDoorRSa
import Derived.Test.YtchkombikjcokaaDoorSliceF
namespace Go.Proofs.YtchkombikjcokaaDoor
open Go.RowKit
set_option maxRecDepth 100000

theorem RSlices_any (l : List UInt8) (a : Option Addr) (cap : Nat) (w : World) (rd : Rd w (.slice a l.length cap) (bytesV l)) :
    Calls Tryd.prog 18 #[.slice a l.length cap] w fun e w' => ∃ v, e = .returned (.tuple #[v, .int .i64 (sliceE l)]) ∧ (sliceE l = 0 → SlRd w' v (sliceL l)) ∧ (sliceE l ≠ 0 → v = .slice none 0 0) ∧ Chg [] w w' := by
  have hcap : l.length ≤ cap := by obtain ⟨a', n', cap', he, hn, h1, h2, h3⟩ := rd; cases he; rw [bytesV_length] at hn; exact h1
  have hcap2 : cap ≤ 9223372036854775807 := by obtain ⟨a', n', cap', he, hn, h1, h2, h3⟩ := rd; cases he; exact h2
  have no : ∀ E, E ≠ 0 → sliceE l = E → RSaid w (.slice a l.length cap) E → Calls Tryd.prog 18 #[.slice a l.length cap] w fun e w' => ∃ v, e = .returned (.tuple #[v, .int .i64 (sliceE l)]) ∧ (sliceE l = 0 → SlRd w' v (sliceL l)) ∧ (sliceE l ≠ 0 → v = .slice none 0 0) ∧ Chg [] w w' := by
    intro E hE he h
    rw [he]
    exact h.mono fun e w' ⟨h1, h2⟩ => ⟨_, h1, fun h => absurd h hE, fun _ => rfl, h2⟩
  by_cases hbig : 1048576 < l.length
  · exact no 11 (by decide) (by unfold sliceE; rw [if_pos hbig]) (RS_big _ _ _ w hbig)
  by_cases h4 : l.length < 4
  · exact no 3 (by decide) (by unfold sliceE; rw [if_neg hbig, if_pos h4]) (RS_four _ _ _ w h4)
  have hs := run_str (Rd_take rd 4 (by omega))
  have g1 := magic_iff l (by omega) 207 250 237 254
  have g2 := magic_iff l (by omega) 202 254 186 190
  have g3 := magic_iff l (by omega) 202 254 186 191
  rw [show (((UInt8.toNat 207 * 256 + UInt8.toNat 250) * 256 + UInt8.toNat 237) * 256 + UInt8.toNat 254 = 3489328638) from rfl] at g1
  rw [show (((UInt8.toNat 202 * 256 + UInt8.toNat 254) * 256 + UInt8.toNat 186) * 256 + UInt8.toNat 190 = 3405691582) from rfl] at g2
  rw [show (((UInt8.toNat 202 * 256 + UInt8.toNat 254) * 256 + UInt8.toNat 186) * 256 + UInt8.toNat 191 = 3405691583) from rfl] at g3
  by_cases m1 : magic l = 3489328638
  · rw [g1.1 m1] at hs
    by_cases h12 : l.length < 12
    · exact no 3 (by decide) (by unfold sliceE; rw [if_neg hbig, if_neg h4, if_pos m1, if_pos h12]) (RS_thin12 _ _ _ w (by omega) h12 hcap hcap2 hs)
    · have e1 : sliceE l = 0 := by unfold sliceE; rw [if_neg hbig, if_neg h4, if_pos m1, if_neg h12]
      have e2 : sliceL l = [thinSL l] := by unfold sliceL; rw [if_pos m1]
      rw [e1, e2]
      exact (RS_thin l cap a w rd (by omega) (by omega) hcap hcap2 hs).mono fun e w' ⟨v, h1, h2, h3⟩ => ⟨v, h1, fun _ => h2, fun h => absurd rfl h, h3⟩
  by_cases m2 : magic l = 3405691582
  · rw [g2.1 m2] at hs
    have e1 : sliceE l = entE l 20 4 apE := by unfold sliceE; rw [if_neg hbig, if_neg h4, if_neg m1, if_pos m2]
    have e2 : sliceL l = entries l 20 4 (num l 4 4) := by unfold sliceL; rw [if_neg m1, if_pos m2]
    by_cases h8 : l.length < 8
    · exact no 3 (by decide) (by rw [e1]; unfold entE; rw [if_pos h8]) (RS_short20 _ _ _ w (by omega) h8 hcap hcap2 hs)
    by_cases hm : 32 < num l 4 4
    · exact no 11 (by decide) (by rw [e1]; unfold entE; rw [if_neg h8, if_pos hm]) (RS_many20 _ _ _ w rd (by omega) (by omega) hcap hcap2 hm hs)
    by_cases hf : l.length < 8 + num l 4 4 * 20
    · exact no 3 (by decide) (by rw [e1]; unfold entE; rw [if_neg h8, if_neg hm, if_pos hf]) (RS_fit20 _ _ _ w rd (by omega) (by omega) hcap hcap2 (by omega) hf hs)
    rw [e1, e2]
    exact RS20 l a cap w rd (by omega) (by omega) (g2.1 m2) (by omega) (by omega)
  by_cases m3 : magic l = 3405691583
  · rw [g3.1 m3] at hs
    have e1 : sliceE l = entE l 32 8 apE := by unfold sliceE; rw [if_neg hbig, if_neg h4, if_neg m1, if_neg m2, if_pos m3]
    have e2 : sliceL l = entries l 32 8 (num l 4 4) := by unfold sliceL; rw [if_neg m1, if_neg m2]
    by_cases h8 : l.length < 8
    · exact no 3 (by decide) (by rw [e1]; unfold entE; rw [if_pos h8]) (RS_short32 _ _ _ w (by omega) h8 hcap hcap2 hs)
    by_cases hm : 32 < num l 4 4
    · exact no 11 (by decide) (by rw [e1]; unfold entE; rw [if_neg h8, if_pos hm]) (RS_many32 _ _ _ w rd (by omega) (by omega) hcap hcap2 hm hs)
    by_cases hf : l.length < 8 + num l 4 4 * 32
    · exact no 3 (by decide) (by rw [e1]; unfold entE; rw [if_neg h8, if_neg hm, if_pos hf]) (RS_fit32 _ _ _ w rd (by omega) (by omega) hcap hcap2 (by omega) hf hs)
    rw [e1, e2]
    exact RS32 l a cap w rd (by omega) (by omega) (g3.1 m3) (by omega) (by omega)
  · refine no 5 (by decide) (by unfold sliceE; rw [if_neg hbig, if_neg h4, if_neg m1, if_neg m2, if_neg m3]) (RS_five _ _ _ _ w (by omega) (by omega) hcap hcap2 hs ?_ ?_ ?_)
    · rw [toList_mk, beq_eq_false_iff_ne]; exact fun h => m1 (g1.2 h)
    · rw [toList_mk, beq_eq_false_iff_ne]; exact fun h => m3 (g3.2 h)
    · rw [toList_mk, beq_eq_false_iff_ne]; exact fun h => m2 (g2.2 h)
end Go.Proofs.YtchkombikjcokaaDoor
