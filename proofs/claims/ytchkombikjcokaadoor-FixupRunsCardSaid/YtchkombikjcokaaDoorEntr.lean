/- fat.entries, walked. -/
import Derived.Test.YtchkombikjcokaaDoorEntS
namespace Go.Proofs.YtchkombikjcokaaDoor
open Go.RowKit
set_option maxRecDepth 100000

theorem takeN4 (l : List UInt8) (p : Nat) (h : p + 4 ≤ l.length) : numberV ⟨l, p, true, false⟩ 4 = num l p 4 ∧ numberS ⟨l, p, true, false⟩ 4 = ⟨l, p + 4, true, false⟩ := by
  have hc : canTake ⟨l, p, true, false⟩ 4 = true := canTake_of rfl (by omega) (by show (4 : Int) ≤ (l.length : Int) - p; omega)
  constructor
  · unfold numberV takeL; rw [hc]; rfl
  · unfold numberS takeS; rw [hc]; rfl
theorem takeN8 (l : List UInt8) (p : Nat) (h : p + 8 ≤ l.length) : numberV ⟨l, p, true, false⟩ 8 = num l p 8 ∧ numberS ⟨l, p, true, false⟩ 8 = ⟨l, p + 8, true, false⟩ := by
  have hc : canTake ⟨l, p, true, false⟩ 8 = true := canTake_of rfl (by omega) (by show (8 : Int) ≤ (l.length : Int) - p; omega)
  constructor
  · unfold numberV takeL; rw [hc]; rfl
  · unfold numberS takeS; rw [hc]; rfl

/-- v is an error of number n (0: none). -/
def WErr (w : World) (v : Value) (n : Int) : Prop :=
  n = 0 ∧ v = .nilIface ∨ n ≠ 0 ∧ ∃ b at_, v = .iface 149 (.pointer (some ⟨b, 0, none⟩)) ∧ w.heap[b]? = some (.cells #[.int .i64 at_, .int .i64 n] 151 (0, 0))
theorem WErr.pure {w w' : World} {v : Value} {n : Int} (h : WErr w v n) (k : Chg [] w w') : WErr w' v n := by
  rcases h with h | ⟨h0, b, at_, rfl, hb⟩
  · exact .inl h
  · exact .inr ⟨h0, b, at_, rfl, k.heap hb (by simp)⟩
theorem WErr.cur {w w' : World} {v : Value} {n : Int} {c : Nat} {s : CS} (h : WErr w v n) (hc : CurB w c s) (k : Chg [c] w w') : WErr w' v n := by
  rcases h with h | ⟨h0, b, at_, rfl, hb⟩
  · exact .inl h
  · refine .inr ⟨h0, b, at_, rfl, k.heap hb (fun hm => ?_)⟩
    rw [List.mem_singleton] at hm
    subst hm
    obtain ⟨_, _, _, hbb, _⟩ := hc
    rw [hb] at hbb
    simp at hbb
theorem WErr.cell {w w' : World} {v : Value} {n : Int} {E : Nat} {C : Array Value} {fz : Nat × Nat} (h : WErr w v n) (hc : w.heap[E]? = some (.cells C 52 fz)) (k : Chg [E] w w') : WErr w' v n := by
  rcases h with h | ⟨h0, b, at_, rfl, hb⟩
  · exact .inl h
  · refine .inr ⟨h0, b, at_, rfl, k.heap hb (fun hm => ?_)⟩
    rw [List.mem_singleton] at hm
    subst hm
    rw [hb] at hc
    simp at hc
theorem WErr.grown {w w' : World} {v u : Value} {n : Int} {base : Nat} {ls : List SL} (h : WErr w v n) (hu : SlBuf w base u ls) (g : w.grownBy w' u.ownBlock) : WErr w' v n := by
  rcases h with h | ⟨h0, b, at_, rfl, hb⟩
  · exact .inl h
  · refine .inr ⟨h0, b, at_, rfl, (Chg.of_grown g).heap hb (fun hm => ?_)⟩
    rcases hu.2 with ⟨rfl, _⟩ | ⟨q, cap, cur, rfl, _, hg, _⟩
    · simp [Value.ownBlock] at hm
    · simp [Value.ownBlock] at hm
      subst hm
      rw [hb] at hg
      simp at hg
theorem SlBuf.cur {w w' : World} {v : Value} {base : Nat} {ls : List SL} {c : Nat} {s : CS} (h : SlBuf w base v ls) (hc : CurB w c s) (k : Chg [c] w w') : SlBuf w' base v ls :=
  h.frame k (fun b hb hm => by
    rw [List.mem_singleton] at hm
    subst hm
    obtain ⟨_, _, _, hbb, _⟩ := hc
    rcases h.2 with ⟨rfl, _⟩ | ⟨g, cap, cur, rfl, _, hg, _⟩
    · cases hb
    · cases hb
      rw [hg] at hbb
      simp at hbb)
theorem CurB.grown {w w' : World} {u : Value} {base : Nat} {ls : List SL} {c : Nat} {s : CS} (hc : CurB w c s) (hb : c < base) (hu : SlBuf w base u ls) (g : w.grownBy w' u.ownBlock) : CurB w' c s :=
  hc.far (Chg.of_grown g) (fun i hi => by
    rcases hu.2 with ⟨rfl, _⟩ | ⟨q, cap, cur, rfl, hq, _⟩
    · simp [Value.ownBlock] at hi
    · simp [Value.ownBlock] at hi
      omega)
def maysB (l : List UInt8) (size width many k : Nat) : Bool := (entries l size width k).all fun s => mayS s s.align.toNat (8 + many * size) l.length
theorem maysB_succ (l : List UInt8) (size width many k : Nat) : maysB l size width many (k + 1) = (maysB l size width many k && mayS (entry l width (8 + k * size)) (entry l width (8 + k * size)).align.toNat (8 + many * size) l.length) := by
  unfold maysB
  rw [entries_succ, List.all_append]
  simp

/-- What the loop over the entries leaves. -/
def EntInv (w0 : World) (c : Nat) (l : List UInt8) (size width many : Nat) (s6 s7 : Value) (k : Nat) (wr : World) : Prop :=
  SlBuf wr w0.heap.size s6 (entries l size width k) ∧ WErr wr s7 (if maysB l size width many k then 0 else 4) ∧ (∃ pos, CurB wr c ⟨l, pos, true, false⟩) ∧ Chg [c] w0 wr
end Go.Proofs.YtchkombikjcokaaDoor
