/- A whole record, read in a region that draws. No program in sight. -/
import Derived.Test.YtgmlcmmphhmogaaOps
namespace Go.Proofs.Ytgmlcmmphhmogaa
open Go.RowKit
namespace Lay
theorem read_ld {α : Type} {L : Lay α} {P : Program} {T : TypeId} (hT : Ty L P T) {d : Tmp} {s : Operand} {ty : TypeId} {pos : String} {after : Array Edge} {g : Option (Nat × Bool)} {ev : Operand → Value} {y : Nat → Option Bool} {w : World} {b off : Nat} {x : α} (hx : L.In w b off x) (hw : Region.wanted ⟨some d, .load T s, ty, pos, after, g⟩ y = true) (hs : ev s = .pointer (some ⟨b, off, none⟩)) :
    if Region.wanted ⟨some d, .load T s, ty, pos, after, g⟩ y = true then (execOp ev ⟨some d, .load T s, ty, pos, after, g⟩).run P w = .ok (.value (L.val x)) w else L.val x = undef := by
  rw [if_pos hw]
  unfold execOp
  simp only [Instr.loadAt, Instr.sureAddr, Sem.run_bind, Sem.run_pure, hs, Result.andThen_ok, run_load_rec hT hx]
/-- A whole record, loaded under a guard that is met. -/
theorem ldG2 {α : Type} {L : Lay α} {P : Program} {T : TypeId} {ops : Array Oper} {rest : List Oper} {a : Act} {Q : Exit → Act → World → Prop} {w : World} (hT : Ty L P T) {d : Tmp} {s : Operand} {ty : TypeId} {pos : String} {after : Array Edge} {g : Nat × Bool} {b off : Nat} (x : α) (hx : L.In w b off x) (hw : Region.wanted ⟨some d, .load T s, ty, pos, after, some g⟩ (yielded ops a.tmps) = true) (hs : a.eval s = .pointer (some ⟨b, off, none⟩))
    (h : wpList P ops Q rest (a.put (some d) (.agg (L.f x).toArray)) w) : wpList P ops Q (⟨some d, .load T s, ty, pos, after, some g⟩ :: rest) a w := by
  refine wpList_step fun K hK => ?_
  rw [if_pos hw]
  unfold Oper.wp execOp
  simp only [Instr.loadAt, Instr.sureAddr, Sem.run_bind, Sem.run_pure, hs, Result.andThen_ok, run_load_rec hT hx]
  exact hK _ _ h
end Lay
end Go.Proofs.Ytgmlcmmphhmogaa
