/- fat.alike, find, Pick and the document's. -/
import Derived.Test.YtchkombikjcokaaDoorMay
import Derived.Laws.BitsLemmas
namespace Go.Proofs.YtchkombikjcokaaDoor
open Go.RowKit
set_option maxRecDepth 100000

/-- A slice of a fat file. -/
structure SL where
  cpu : Nat
  sub : Nat
  off : Nat
  size : Nat
  align : Int
def SL.val (s : SL) : Value := .agg #[.int .u32 s.cpu, .int .u32 s.sub, .int .u64 s.off, .int .u64 s.size, .int .i64 s.align]
def SL.zero : SL := ⟨0, 0, 0, 0, 0⟩
def SL.ok (s : SL) : Prop := s.cpu < 4294967296 ∧ s.sub < 4294967296 ∧ s.off < 18446744073709551616 ∧ s.size < 18446744073709551616 ∧ -9223372036854775808 ≤ s.align ∧ s.align < 9223372036854775808
def likeB (a b : SL) : Bool := decide (a.cpu = b.cpu) && decide (a.sub % 16777216 = b.sub % 16777216)

theorem and24 (s : Nat) (h : s < 4294967296) : bits .and .u32 (s : Int) 16777215 = ((s % 16777216 : Nat) : Int) := by
  have := Go.bits_mask .u32 32 (by decide) (fun n h1 h2 => by rw [IntKind.wrap_u32]; omega) 24 (by decide) (s : Int) (by omega) (by omega)
  simpa using this

theorem alike_any (a b : SL) (w : World) (ha : a.sub < 4294967296) (hb : b.sub < 4294967296) :
    Calls Tryd.prog 69 #[a.val, b.val] w fun e w' => e = .returned (.bool (likeB a b)) ∧ Chg [] w w' := by
  obtain ⟨c1, s1, o1, z1, g1⟩ := a
  obtain ⟨c2, s2, o2, z2, g2⟩ := b
  have e1 := and24 s1 ha
  have e2 := and24 s2 hb
  unfold SL.val
  simp only
  by_cases hc : c1 = c2
  · have k1 : ((c1 : Int) == (c2 : Int)) = true := by rw [beq_iff_eq]; omega
    have HB : Hid (likeB ⟨c1, s1, o1, z1, g1⟩ ⟨c2, s2, o2, z2, g2⟩ = decide (s1 % 16777216 = s2 % 16777216)) := Lib.hid (by unfold likeB; simp [hc])
    rw [HB.out]
    have KE : Hid ((((s1 % 16777216 : Nat) : Int) == ((s2 % 16777216 : Nat) : Int)) = decide (s1 % 16777216 = s2 % 16777216)) := by
      refine Lib.hid ?_
      rw [Bool.eq_iff_iff, beq_iff_eq, decide_eq_true_iff]; omega
    clear hc ha hb
    have E1 := Lib.hid e1
    have E2 := Lib.hid e2
    clear e1 e2
    go_enter Tryd.func69, Tryd.ntmps69
    go_wp2
    go_ret
    rw [E1.out, E2.out]
    exact ⟨congrArg (fun b => Ending.returned (.bool b)) KE.out, ((Chg.refl _ _).alloc _).alloc _⟩
  · have k1 : ((c1 : Int) == (c2 : Int)) = false := by rw [beq_eq_false_iff_ne]; omega
    have HB : Hid (likeB ⟨c1, s1, o1, z1, g1⟩ ⟨c2, s2, o2, z2, g2⟩ = false) := Lib.hid (by unfold likeB; simp [hc])
    rw [HB.out]
    clear hc ha hb
    go_enter Tryd.func69, Tryd.ntmps69
    go_wp2
    go_ret
    exact ⟨rfl, ((Chg.refl _ _).alloc _).alloc _⟩
theorem Alike_any (a b : SL) (w : World) (ha : a.sub < 4294967296) (hb : b.sub < 4294967296) :
    Calls Tryd.prog 47 #[a.val, b.val] w fun e w' => e = .returned (.bool (likeB a b)) ∧ Chg [] w w' := by
  obtain ⟨c1, s1, o1, z1, g1⟩ := a
  obtain ⟨c2, s2, o2, z2, g2⟩ := b
  unfold SL.val
  simp only
  by_cases hc : c1 = c2
  · have k1 : ((c1 : Int) == (c2 : Int)) = true := by rw [beq_iff_eq]; omega
    have HB : Hid (likeB ⟨c1, s1, o1, z1, g1⟩ ⟨c2, s2, o2, z2, g2⟩ = decide (s1 % 16777216 = s2 % 16777216)) := Lib.hid (by unfold likeB; simp [hc])
    rw [HB.out]
    have KE : Hid (((s1 : Int) % 16777216 == (s2 : Int) % 16777216) = decide (s1 % 16777216 = s2 % 16777216)) := by
      refine Lib.hid ?_
      rw [Bool.eq_iff_iff, beq_iff_eq, decide_eq_true_iff]; omega
    clear hc ha hb
    go_enter Tryd.func47, Tryd.ntmps47
    go_wp2
    go_ret
    exact ⟨congrArg (fun b => Ending.returned (.bool b)) KE.out, ((Chg.refl _ _).alloc _).alloc _⟩
  · have k1 : ((c1 : Int) == (c2 : Int)) = false := by rw [beq_eq_false_iff_ne]; omega
    have HB : Hid (likeB ⟨c1, s1, o1, z1, g1⟩ ⟨c2, s2, o2, z2, g2⟩ = false) := Lib.hid (by unfold likeB; simp [hc])
    rw [HB.out]
    clear hc ha hb
    go_enter Tryd.func47, Tryd.ntmps47
    go_wp2
    go_ret
    exact ⟨rfl, ((Chg.refl _ _).alloc _).alloc _⟩
end Go.Proofs.YtchkombikjcokaaDoor
