/- Plain: a region that draws its order, gone through in the order of its text: the steps of such a walk. No program in sight. -/
import Derived.Test.YtgmlcmmphhmogaaF
import Derived.Deep.RegionHeld3
namespace Go.Proofs.Ytgmlcmmphhmogaa
open Go.RowKit

section
variable {P : Program} {ops : Array Oper} {Q : Exit → Act → World → Prop} {md : Region.Mode} {S S' : World → Prop}
/-- What is held may grow on the way. -/
theorem wpAnyH_mono (hs : ∀ w, S' w → S w) : ∀ (fuel : Nat) (listed : Array Bool) (a : Act) (w : World), wpAnyH P md ops Q S' fuel listed a w → wpAnyH P md ops Q S fuel listed a w
  | 0, _, _, _, h => h
  | fuel + 1, _, _, _, h => ⟨h.1, fun i hi => wpOp_mono (fun a' w' h' => ⟨hs w' h'.1, wpAnyH_mono hs fuel _ a' w' h'.2⟩) (h.2 i hi)⟩
/-- An operation that only reads, its value the same wherever S holds. -/
theorem take_read {i : Nat} {oi : Oper} {v : Value} {fuel : Nat} {listed : Array Bool} {a : Act} {w : World} (hi : ops[i]? = some oi)
    (hs : Region.noSelect ops = true) (hf : Region.free md ops listed i = true) (hr : (Region.ready md ops listed).contains i = true)
    (hQ : ∀ c a w, Q (.panic c) (a.put oi.dst v) w → Q (.panic c) a w) (hS : S w)
    (hy : ∀ w, S w → if Region.wanted oi (yielded ops a.tmps) = true then (execOp a.eval oi).run P w = .ok (.value v) w else v = undef)
    (h : wpAnyH P md ops Q S fuel (listed.setIfInBounds i true) (a.put oi.dst v) w) : wpAnyH P md ops Q S (fuel + 1) listed a w := by
  refine wpAnyH_take hi hs hf hr hQ ?_ hS h
  unfold YieldsIf
  cases hw : Region.wanted oi (yielded ops a.tmps) with
  | true =>
    left
    exact ⟨rfl, fun w hw' => by have := hy w hw'; rw [hw, if_pos rfl] at this; exact this⟩
  | false =>
    right
    exact ⟨rfl, by have := hy w hS; rw [hw, if_neg (by decide)] at this; exact this⟩
end
end Go.Proofs.Ytgmlcmmphhmogaa
