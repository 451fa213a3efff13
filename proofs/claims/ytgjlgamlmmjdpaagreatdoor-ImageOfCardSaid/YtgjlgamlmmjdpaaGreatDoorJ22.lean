/- Lemmas, laid together: part 22 of 43. Conditions: none but each lemma's own. -/
import Derived.Test.YtgjlgamlmmjdpaaGreatDoorJ21
/- A range over a function, at the wide fence, where the function may turn cells of its own between the rounds. No program in sight. -/
namespace Go.Proofs.YtgjlgamlmmjdpaaGreatDoor
open Go.RowKit
set_option maxRecDepth 100000

theorem Chg.putObj {S : List Nat} {A B : World} (h : Chg S A B) (k : Nat) (o : Obj) (hk : k ∈ S ∨ A.heap.size ≤ k) : Chg S A (B.putObj k o) :=
  h.trans (S' := [k]) ⟨rfl, rfl, rfl, by simp, fun i _ hi => World.putObj_heap_other (by simpa using hi)⟩ (fun i hm hi => by
    rw [List.mem_singleton] at hm
    subst hm
    rcases hk with hk | hk
    · exact hk
    · omega)
/-- How a round's body may be left. -/
def bodyLeft (Rdy Busy : World → Prop) (Done : Code → World → Prop) (lr : Nat) (R : Ending → World → Prop) : Exit → Act → World → Prop
  | .normal, _, B => Busy B ∧ ∀ B', Chg [lr] B B' → Rdy B' → R (.returned (.bool true)) B'
  | .ret, _, B => Busy B ∧ ∀ B', Chg [lr] B B' → Done .ret B' → R (.returned (.bool false)) B'
  | _, _, _ => False
def Lasts (lr D : Nat) (J : World → Prop) : Prop := ∀ S A B, J A → Chg S A B → lr ∉ S → D ∉ S → J B
set_option maxHeartbeats 1000000 in
theorem range_wide {P : Program} {g : Operand} {ps : Array Tmp} {assign body : Code} {Q : Exit → Act → World → Prop} {a : Act} {w : World} {gf : Nat} {lb : Array Value}
    (hg : a.eval g = .func (.func gf) #[] lb) (eg : ∀ args w, (callFunc gf args).run P w = .ok (.enter gf args) w)
    (h : ∀ (lr D : Nat) (Rdy Busy : World → Prop) (Done : Code → World → Prop) (W1 : World), D = w.heap.size → lr = w.heap.size + 1 → Lasts lr D Rdy → Lasts lr D Busy → (∀ c, Lasts lr D (Done c)) →
      (∀ (args : Array Value) (A : World) (R : Ending → World → Prop), args.size = ps.size → Rdy A →
        assign.wpIn (Fence.wide.inRound lr) 8 P (Exit.then (fun a1 A1 => Rdy A1 ∧ ∀ A2, Chg [lr] A1 A2 → Busy A2 → body.wpIn (Fence.wide.inRound lr) 8 P (bodyLeft Rdy Busy Done lr R) a1 A2) (fun _ _ _ => False))
          { tmps := (ps.zip args).foldl (fun t (p, v) => t.setIfInBounds p v) a.tmps, defers := [] } A → YieldAt Fence.wide 8 P lr args A R) →
      Chg [] w W1 → W1.heap.size = w.heap.size + 2 → Rdy W1 →
      Calls P gf (#[.func (.yield lr) #[] #[]] ++ lb) W1 fun e B => (∃ v, e = .returned v) ∧
        ((Rdy B ∧ ∀ B', Chg [lr] B B' → B'.heap[D]? = some (.deferred (some [])) → Q .normal { a with defers := { target := .collected D, args := #[] } :: a.defers } B') ∨
         (Done .ret B ∧ ∀ B', Chg [lr] B B' → B'.heap[D]? = some (.deferred (some [])) → Q .ret { a with defers := { target := .collected D, args := #[] } :: a.defers } B'))) :
    (Code.rangeFunc g ps assign body).wpIn Fence.wide 10 P Q a w := by
  refine wpIn_rangeFunc ?_
  intro fn _
  obtain ⟨rec, hrec⟩ : ∃ rec : LoopState → Option Code → Loop, rec = fun st pe => { state := st, pending := pe, fn, tmps := a.tmps, params := ps, assign, body, defers := w.heap.size } := ⟨_, rfl⟩
  obtain ⟨W1, hW1⟩ : ∃ W1, W1 = (w.alloc (.deferred (some []))).alloc (.loop (rec .ready none)) := ⟨_, rfl⟩
  have hk1 : W1.heap[w.heap.size]? = some (.deferred (some [])) := by
    rw [hW1]; exact (heap_alloc_lt (by simp) _).trans (heap_alloc_eq w _)
  have hl1 : W1.heap[w.heap.size + 1]? = some (.loop (rec .ready none)) := by
    rw [hW1, show w.heap.size + 1 = (w.alloc (.deferred (some []))).heap.size by simp]; exact heap_alloc_eq _ _
  have hlast : ∀ o, Lasts (w.heap.size + 1) w.heap.size (fun W => W.heap[w.heap.size + 1]? = some (.loop o) ∧ W.heap[w.heap.size]? = some (.deferred (some []))) :=
    fun o S A B hA hc h1 h2 => ⟨hc.heap hA.1 h1, hc.heap hA.2 h2⟩
  have hc1 : Chg [] w W1 := by rw [hW1]; exact ((Chg.refl _ _).alloc _).alloc _
  have hs1 : W1.heap.size = w.heap.size + 2 := by rw [hW1]; simp
  have key := h (w.heap.size + 1) w.heap.size (fun W => W.heap[w.heap.size + 1]? = some (.loop (rec .ready none)) ∧ W.heap[w.heap.size]? = some (.deferred (some [])))
    (fun W => W.heap[w.heap.size + 1]? = some (.loop (rec .busy none)) ∧ W.heap[w.heap.size]? = some (.deferred (some [])))
    (fun c W => W.heap[w.heap.size + 1]? = some (.loop (rec .done (some c))) ∧ W.heap[w.heap.size]? = some (.deferred (some []))) W1 rfl rfl (hlast _) (hlast _) (fun _ => hlast _) ?_ hc1 hs1 ⟨hl1, hk1⟩
  · refine ⟨w.heap.size + 1, [{ target := .collected w.heap.size, args := #[] }], W1, { target := .fn (.func gf) lb, args := #[.func (.yield (w.heap.size + 1)) #[] #[]] }, W1, gf,
      #[.func (.yield (w.heap.size + 1)) #[] #[]] ++ lb, W1, ?_, ?_, fun _ _ => trivial, ?_, fun h => absurd h (by simp [Fence.wide]), ?_⟩
    · rw [hW1, hrec]; exact run_enterLoop_outer _ _ _ _ _
    · simp only [resolve, hg]
      simp [go_sem]
    · simp [invoke, go_sem, eg]
    · refine callsIn_wide.2 ?_
      refine key.mono ?_
      have hend : ∀ (st : LoopState) (pe : Option Code) (B : World), st ≠ .busy → B.heap[w.heap.size + 1]? = some (.loop (rec st pe)) → B.heap[w.heap.size]? = some (.deferred (some [])) →
          ∃ B', (Instr.endLoop (w.heap.size + 1)).run P B = .ok pe B' ∧ Chg [w.heap.size + 1] B B' ∧ B'.heap[w.heap.size]? = some (.deferred (some [])) := by
        intro st pe B hst hl hk
        have := run_endLoop (P := P) hl (by rw [hrec]; exact hst)
        rw [hrec] at this
        exact ⟨_, this, (Chg.refl _ _).putObj _ _ (.inl (by simp)), (World.putObj_heap_other (by omega)).trans hk⟩
      rintro e B ⟨⟨v, rfl⟩, (⟨⟨hl, hk⟩, hq⟩ | ⟨⟨hl, hk⟩, hq⟩)⟩
      · obtain ⟨B', hr, hc, hk'⟩ := hend _ _ B (by decide) hl hk
        exact ⟨none, B', hr, hq B' hc hk'⟩
      · obtain ⟨B', hr, hc, hk'⟩ := hend _ _ B (by decide) hl hk
        exact ⟨some .ret, B', hr, wpIn_ret (hq B' hc hk')⟩
  · intro args A R hsz hA hwp
    have hy := run_yield (P := P) (args := args) hA.1 (by rw [hrec]; exact hsz)
    rw [hrec] at hy
    refine ⟨fn, _, assign, body, hy, roundIn_of_wpIn trivial (wpIn_mono hwp ?_)⟩
    intro e a1 A1 hq
    cases e with
    | normal =>
      obtain ⟨hA1, hbody⟩ := hq
      have hb := run_beginRound (P := P) hA1.1 (by rw [hrec])
      rw [hrec] at hb
      have hlt : w.heap.size + 1 < A1.heap.size := (Array.getElem?_eq_some_iff.1 hA1.1).1
      refine ⟨_, hb, wpIn_mono (hbody _ ((Chg.refl _ _).putObj _ _ (.inl (by simp))) ⟨by rw [World.putObj_heap_same hlt, hrec], (World.putObj_heap_other (by omega)).trans hA1.2⟩) ?_⟩
      intro e2 a2 B hq2
      have hend : ∀ (jump : Option Code), B.heap[w.heap.size + 1]? = some (.loop (rec .busy none)) → B.heap[w.heap.size]? = some (.deferred (some [])) →
          ∃ B', (Instr.endRound (w.heap.size + 1) jump).run P B = .ok (.bool jump.isNone) B' ∧ Chg [w.heap.size + 1] B B' ∧ B'.heap[w.heap.size + 1]? = some (.loop (rec (if jump.isNone then .ready else .done) jump)) ∧ B'.heap[w.heap.size]? = some (.deferred (some [])) := by
        intro jump hl hk
        have := run_endRound (P := P) jump hl
        refine ⟨_, this, (Chg.refl _ _).putObj _ _ (.inl (by simp)), ?_, (World.putObj_heap_other (by omega)).trans hk⟩
        rw [World.putObj_heap_same (Array.getElem?_eq_some_iff.1 hl).1, hrec]
      cases e2 with
      | normal =>
        obtain ⟨⟨hl, hk⟩, hR⟩ := hq2
        obtain ⟨B', hr, hc, hl', hk'⟩ := hend none hl hk
        exact ⟨_, B', hr, hR B' hc ⟨hl', hk'⟩⟩
      | ret =>
        obtain ⟨⟨hl, hk⟩, hR⟩ := hq2
        obtain ⟨B', hr, hc, hl', hk'⟩ := hend (some .ret) hl hk
        exact ⟨_, B', hr, hR B' hc ⟨hl', hk'⟩⟩
      | _ => exact hq2.elim
    | _ => exact hq.elim
end Go.Proofs.YtgjlgamlmmjdpaaGreatDoor
