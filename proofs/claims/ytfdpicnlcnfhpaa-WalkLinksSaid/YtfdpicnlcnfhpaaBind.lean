/- The document's bind of a link. -/
import Derived.Test.YtfdpicnlcnfhpaaReb
namespace Go.Proofs.Ytfdpicnlcnfhpaa
open Go.RowKit
set_option maxRecDepth 100000

/-- The fixup of a bind of an import. -/
def bindF (nth : Nat) (add : Int) (l : List Imp) : Fx := if nth < l.length then ⟨0, 2, 0, (l.getD nth .zero).ord, (l.getD nth .zero).sym, wrap64 ((l.getD nth .zero).add + add), (l.getD nth .zero).weak⟩ else .zero
def bindN (nth : Nat) (l : List Imp) : Int := if nth < l.length then 0 else 16
set_option maxHeartbeats 1000000 in
theorem bind_any (nth : Nat) (hn : nth < 18446744073709551616) (add : Int) (l : List Imp) (v : Value) (w : World) (rd : impL.Rd w v l) :
    Calls Try.prog 12 #[.int .u64 nth, .int .i64 add, v] w fun e w' => e = .returned (.tuple #[(bindF nth add l).v, .int .i64 (bindN nth l)]) ∧ Chg [] w w' := by
  obtain ⟨a, cap, rfl, hc1, hc2⟩ := rd.shape
  have hw : IntKind.u64.wrap (l.length : Int) = (l.length : Int) := by rw [IntKind.wrap_u64]; omega
  by_cases hlt : nth < l.length
  · have hF : bindF nth add l = ⟨0, 2, 0, (l.getD nth .zero).ord, (l.getD nth .zero).sym, wrap64 ((l.getD nth .zero).add + add), (l.getD nth .zero).weak⟩ := if_pos hlt
    have hN : bindN nth l = 0 := if_pos hlt
    rw [hF, hN]
    clear hF hN
    obtain ⟨b, off, rfl, hb, hcell⟩ := rd.at (by omega)
    have hI := hcell nth hlt
    obtain ⟨x, hx⟩ : ∃ x, x = l.getD nth .zero := ⟨_, rfl⟩
    have hI' : impL.In w b (off + nth * 4) x := by rw [hx]; exact hI
    rw [← hx]
    obtain ⟨x0, x1, x2, x3⟩ := Imp.at hI'
    have d0 : decide ((l.length : Int) ≤ (nth : Int)) = false := by simp; omega
    clear hI hI' hcell hx
    have Rd := Lib.hid rd
    clear rd
    go_enter Try.func12, Try.ntmps12
    go_wp2
    obtain ⟨g0, g1, g2, g3, g4, g5, g6⟩ := Fx.at0 ((Fx.boxed w ⟨0, 2, 0, x.ord, x.sym, wrap64 (x.add + add), x.weak⟩ 36).frame ((Chg.refl [] _).alloc (.cells #[.int .i64 x.ord, .bool x.weak, .string x.sym, .int .i64 x.add] 44)))
    refine bodyPost_ret (v := .tuple #[fixV 0 2 0 x.ord x.sym (wrap64 (x.add + add)) x.weak, .int .i64 0]) (by simp [results, Try.results12, go_sem, g0, g1, g2, g3, g4, g5, g6]) rfl ?_
    exact ⟨rfl, ((Chg.refl _ _).alloc _).alloc _⟩
  · have hF : bindF nth add l = .zero := if_neg hlt
    have hN : bindN nth l = 16 := if_neg hlt
    rw [hF, hN]
    clear hF hN
    have d0 : decide ((l.length : Int) ≤ (nth : Int)) = true := by simp; omega
    clear rd
    go_enter Try.func12, Try.ntmps12
    go_wp2
    refine bodyPost_ret (v := .tuple #[fixV 0 0 0 0 ⟨#[]⟩ 0 false, .int .i64 16]) (by simp [results, Try.results12, go_sem]) rfl ?_
    exact ⟨rfl, ((Chg.refl _ _).alloc _)⟩
end Go.Proofs.Ytfdpicnlcnfhpaa
