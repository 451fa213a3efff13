/- What a header, and a slice of commands, that came in read as. -/
import Derived.Test.YtchkombikjcokaaDoorEndS
import Derived.Test.YtchkombikjcokaaDoorMake
namespace Go.Proofs.YtchkombikjcokaaDoor
open Go.ChangeShapes Go.WideShapes Go.RowKit
set_option maxRecDepth 100000

theorem Tryd.tyHead : (Tryd.prog.underlying 34).map tyOf = some [(3, 0), (32, 1), (22, 2)] := by kernel_rfl
theorem Tryd.tyCmd : (Tryd.prog.underlying 26).map tyOf = some [(22, 0), (24, 1)] := by kernel_rfl
theorem Tryd.uCmds : Tryd.prog.underlying 64 = some (.slice 26) := by kernel_rfl
theorem Tryd.cCmd : Tryd.prog.cellsOf 26 = 2 := by kernel_rfl
theorem Tryd.cHead : Tryd.prog.cellsOf 34 = 3 := by kernel_rfl
theorem Tryd.uKind : Tryd.prog.underlying 32 = some (.int .i64) := by kernel_rfl
theorem Tryd.cU8sC : Tryd.prog.cellsOf 24 = 1 := by kernel_rfl
theorem Tryd.cU8C : Tryd.prog.cellsOf 5 = 1 := by kernel_rfl
theorem one_atC {cs : List Value} {o : Nat} {v : Value} (h : (cs.drop o).take 1 = [v]) : cs[o]? = some v := by
  have : ((cs.drop o).take 1)[0]? = some v := by rw [h]; rfl
  rw [List.getElem?_take] at this
  simpa using this
theorem bytes_atC {H : Type} {enc : TypeId × Value → H} {W : World} {n o : Nat} {cs : List Value} {y : DataW H × List MemPlace}
    (h : DataW.trod enc Tryd.prog W 0 (fun _ => true) true n 24 ((cs.drop o).take (Tryd.prog.cellsOf 24)) = some y) :
    ∃ (a' : Option Addr) (cap' : Nat) (l : List UInt8), cs[o]? = some (.slice a' l.length cap') ∧ Rd W (.slice a' l.length cap') (bytesV l) := by
  rw [Tryd.cU8sC] at h
  obtain ⟨d, p⟩ := y
  have key : ∀ (a : Option Addr) (k c : Nat), (cs.drop o).take 1 = [.slice a k c] → ∃ (a' : Option Addr) (cap' : Nat) (l : List UInt8), cs[o]? = some (.slice a' l.length cap') ∧ Rd W (.slice a' l.length cap') (bytesV l) := by
    intro a k c he
    rw [he] at h
    obtain ⟨l, rfl, hr⟩ := open_bytes Tryd.underlying24 Tryd.underlying5 Tryd.cU8C ⟨n, by simpa [Value.cells] using h⟩
    exact ⟨a, c, l, one_atC he, hr⟩
  rcases Go.Deep.open_slice Tryd.underlying24 h with ⟨hcs, _⟩ | ⟨ad, k, c, m, _, _, _, hcs, _⟩
  · exact key _ _ _ hcs
  · exact key _ _ _ hcs
theorem open_head {H : Type} {enc : TypeId × Value → H} {W : World} {v : Value} {d : DataW H} {ps : List MemPlace} (hv : Value.okWide Tryd.prog W .any 0 34 v)
    (h : DataW.Trod enc Tryd.prog W 0 (fun _ => true) true 34 v d ps) :
    ∃ s k f : Int, v = .agg #[.int .i64 s, .int .i64 k, .int .u32 f] ∧ (Lit.int .i64 s).wf = true ∧ (Lit.int .i64 k).wf = true ∧ (Lit.int .u32 f).wf = true := by
  obtain ⟨fs, hu⟩ : ∃ fs, Tryd.prog.underlying 34 = some (.struct fs) := by
    have h := Tryd.tyHead
    cases hu : Tryd.prog.underlying 34 with
    | none => rw [hu] at h; cases h
    | some d =>
      rw [hu] at h
      simp only [Option.map_some, Option.some.injEq] at h
      cases d with
      | struct fs => exact ⟨fs, rfl⟩
      | _ => exact absurd h.symm (by simp [tyOf])
  obtain ⟨cs, rfl, hsz⟩ := okWide_struct hu hv
  obtain ⟨fuel, hf⟩ := h
  obtain ⟨hl, hfld⟩ := struct_at Tryd.tyHead (by simp) hf
  obtain ⟨_, _, t0⟩ := hfld 0 _ _ rfl
  obtain ⟨_, _, t1⟩ := hfld 1 _ _ rfl
  obtain ⟨_, _, t2⟩ := hfld 2 _ _ rfl
  obtain ⟨z0, c0, w0⟩ := int_at Tryd.underlying3 t0
  obtain ⟨z1, c1, w1⟩ := int_at Tryd.uKind t1
  obtain ⟨z2, c2, w2⟩ := int_at Tryd.underlying22 t2
  refine ⟨z0, z1, z2, ?_, w0, w1, w2⟩
  rw [Tryd.cHead] at hsz
  congr 1
  have e : (Value.agg cs).cells = cs := rfl
  rw [e] at c0 c1 c2
  apply Array.ext_getElem?
  intro i
  match i with
  | 0 => simpa using c0
  | 1 => simpa using c1
  | 2 => simpa using c2
  | i + 3 => rw [Array.getElem?_eq_none (by omega)]; simp
theorem open_cmds {H : Type} {enc : TypeId × Value → H} {W : World} {a : Option Addr} {len cap : Nat} {d : DataW H} {ps : List MemPlace}
    (h : DataW.Trod enc Tryd.prog W 0 (fun _ => true) true 64 (.slice a len cap) d ps) :
    ∃ cs : List Cmd, cs.length = len ∧ CmdRd W (.slice a len cap) cs ∧ ∀ c ∈ cs, c.1 < 4294967296 := by
  obtain ⟨h1, h2, h3⟩ := open_rows Tryd.uCmds Tryd.cCmd (by decide) h
  rcases Nat.eq_zero_or_pos len with rfl | hp
  · exact ⟨[], rfl, ⟨_, _, _, rfl, rfl, h1, h2, fun h => absurd rfl h⟩, fun s hs => by cases hs⟩
  · obtain ⟨b, off, rfl, hb, hi⟩ := h3 hp
    obtain ⟨ms, hl, hq⟩ := list_of ((0, []) : Cmd) (fun j s => s.1 < 4294967296 ∧ W.cell? ⟨b, off + j * 2, none⟩ = some (.int .u32 s.1) ∧
      ∃ a' cap', W.cell? ⟨b, off + j * 2 + 1, none⟩ = some (.slice a' s.2.length cap') ∧ Rd W (.slice a' s.2.length cap') (bytesV s.2)) len (fun j hj => by
      obtain ⟨cs, n, x, ht, hcl, hat⟩ := hi j hj
      obtain ⟨_, hf⟩ := struct_at Tryd.tyCmd (by simp) ht
      obtain ⟨_, _, t0⟩ := hf 0 _ _ rfl
      obtain ⟨_, _, t1⟩ := hf 1 _ _ rfl
      obtain ⟨z0, c0, w0⟩ := int_at Tryd.underlying22 t0
      obtain ⟨a', cap', l, c1, hr⟩ := bytes_atC t1
      have b0 := bounds_u32 w0
      refine ⟨(z0.toNat, l), by simp only; omega, ?_, a', cap', ?_, hr⟩
      · have := hat 0 (by decide); rw [c0] at this; rw [Nat.add_zero] at this; rw [this]; simp only; rw [Int.toNat_of_nonneg b0.1]
      · have := hat 1 (by decide); rw [c1] at this; exact this)
    refine ⟨ms, hl, ⟨_, _, _, rfl, hl.symm, h1, h2, fun _ => ⟨b, off, rfl, hb, fun j hj => (hq j (by omega)).2⟩⟩, fun s hs => ?_⟩
    obtain ⟨j, hj, rfl⟩ := List.getElem_of_mem hs
    have := (hq j (by omega)).1
    rwa [List.getD_eq_getElem?_getD, List.getElem?_eq_getElem hj] at this
end Go.Proofs.YtchkombikjcokaaDoor
