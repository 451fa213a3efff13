/- What a slice of a fat file's parts that came in reads as. -/
import Derived.Test.YtchkombikjcokaaDoorEndS
import Derived.Test.YtchkombikjcokaaDoorFatA
namespace Go.Proofs.YtchkombikjcokaaDoor
open Go.ChangeShapes Go.WideShapes Go.RowKit

theorem Tryd.tyMem : (Tryd.prog.underlying 82).map tyOf = some [(22, 0), (22, 1), (3, 2), (24, 3)] := by kernel_rfl
theorem Tryd.uMems : Tryd.prog.underlying 59 = some (.slice 82) := by kernel_rfl
theorem Tryd.cMem : Tryd.prog.cellsOf 82 = 4 := by kernel_rfl
theorem Tryd.cU8s : Tryd.prog.cellsOf 24 = 1 := by kernel_rfl
theorem Tryd.cU8 : Tryd.prog.cellsOf 5 = 1 := by kernel_rfl
theorem one_at {cs : List Value} {o : Nat} {v : Value} (h : (cs.drop o).take 1 = [v]) : cs[o]? = some v := by
  have : ((cs.drop o).take 1)[0]? = some v := by rw [h]; rfl
  rw [List.getElem?_take] at this
  simpa using this
theorem bytes_at {H : Type} {enc : TypeId × Value → H} {W : World} {n o : Nat} {cs : List Value} {y : DataW H × List MemPlace}
    (h : DataW.trod enc Tryd.prog W 0 (fun _ => true) true n 24 ((cs.drop o).take (Tryd.prog.cellsOf 24)) = some y) :
    ∃ (a' : Option Addr) (cap' : Nat) (l : List UInt8), cs[o]? = some (.slice a' l.length cap') ∧ Rd W (.slice a' l.length cap') (bytesV l) := by
  rw [Tryd.cU8s] at h
  obtain ⟨d, p⟩ := y
  have key : ∀ (a : Option Addr) (k c : Nat), (cs.drop o).take 1 = [.slice a k c] → ∃ (a' : Option Addr) (cap' : Nat) (l : List UInt8), cs[o]? = some (.slice a' l.length cap') ∧ Rd W (.slice a' l.length cap') (bytesV l) := by
    intro a k c he
    rw [he] at h
    obtain ⟨l, rfl, hr⟩ := open_bytes Tryd.underlying24 Tryd.underlying5 Tryd.cU8 ⟨n, by simpa [Value.cells] using h⟩
    exact ⟨a, c, l, one_at he, hr⟩
  rcases Go.Deep.open_slice Tryd.underlying24 h with ⟨hcs, _⟩ | ⟨ad, k, c, m, _, _, _, hcs, _⟩
  · exact key _ _ _ hcs
  · exact key _ _ _ hcs
theorem open_mems {H : Type} {enc : TypeId × Value → H} {W : World} {a : Option Addr} {len cap : Nat} {d : DataW H} {ps : List MemPlace}
    (h : DataW.Trod enc Tryd.prog W 0 (fun _ => true) true 59 (.slice a len cap) d ps) :
    ∃ ms : List Mem, ms.length = len ∧ MemRd W (.slice a len cap) ms ∧ ∀ m ∈ ms, m.ok := by
  obtain ⟨h1, h2, h3⟩ := open_rows Tryd.uMems Tryd.cMem (by decide) h
  rcases Nat.eq_zero_or_pos len with rfl | hp
  · exact ⟨[], rfl, ⟨_, _, _, rfl, rfl, h1, h2, fun h => absurd rfl h⟩, fun s hs => by cases hs⟩
  · obtain ⟨b, off, rfl, hb, hi⟩ := h3 hp
    obtain ⟨ms, hl, hq⟩ := list_of Mem.zero (fun j s => s.ok ∧ W.cell? ⟨b, off + j * 4, none⟩ = some (.int .u32 s.cpu) ∧ W.cell? ⟨b, off + j * 4 + 1, none⟩ = some (.int .u32 s.sub) ∧ W.cell? ⟨b, off + j * 4 + 2, none⟩ = some (.int .i64 s.align) ∧
      ∃ a' cap', W.cell? ⟨b, off + j * 4 + 3, none⟩ = some (.slice a' s.bytes.length cap') ∧ Rd W (.slice a' s.bytes.length cap') (bytesV s.bytes)) len (fun j hj => by
      obtain ⟨cs, n, x, ht, hcl, hat⟩ := hi j hj
      obtain ⟨_, hf⟩ := struct_at Tryd.tyMem (by simp) ht
      obtain ⟨_, _, t0⟩ := hf 0 _ _ rfl
      obtain ⟨_, _, t1⟩ := hf 1 _ _ rfl
      obtain ⟨_, _, t2⟩ := hf 2 _ _ rfl
      obtain ⟨_, _, t3⟩ := hf 3 _ _ rfl
      obtain ⟨z0, c0, w0⟩ := int_at Tryd.underlying22 t0
      obtain ⟨z1, c1, w1⟩ := int_at Tryd.underlying22 t1
      obtain ⟨z2, c2, w2⟩ := int_at Tryd.underlying3 t2
      obtain ⟨a', cap', l, c3, hr⟩ := bytes_at t3
      have b0 := bounds_u32 w0
      have b1 := bounds_u32 w1
      have b2 := bounds_i64 w2
      refine ⟨⟨z0.toNat, z1.toNat, z2, l⟩, ⟨by simp only; omega, by simp only; omega, by simp only; omega, by simp only; omega⟩, ?_, ?_, ?_, a', cap', ?_, hr⟩
      · have := hat 0 (by decide); rw [c0] at this; rw [Nat.add_zero] at this; rw [this]; simp only; rw [Int.toNat_of_nonneg b0.1]
      · have := hat 1 (by decide); rw [c1] at this; rw [this]; simp only; rw [Int.toNat_of_nonneg b1.1]
      · have := hat 2 (by decide); rw [c2] at this; exact this
      · have := hat 3 (by decide); rw [c3] at this; exact this)
    refine ⟨ms, hl, ⟨_, _, _, rfl, hl.symm, h1, h2, fun _ => ⟨b, off, rfl, hb, fun j hj => (hq j (by omega)).2⟩⟩, fun s hs => ?_⟩
    obtain ⟨j, hj, rfl⟩ := List.getElem_of_mem hs
    have := (hq j (by omega)).1
    rwa [List.getD_eq_getElem?_getD, List.getElem?_eq_getElem hj] at this
end Go.Proofs.YtchkombikjcokaaDoor
