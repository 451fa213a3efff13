/- Lemmas, laid together: part 41 of 41. Conditions: none but each lemma's own. -/
import Derived.Test.YtkomocgodljecaaGreatDoorK40
import Derived.Test.YtkomocgodljecaaGreatDoorK35
import Derived.Test.YtkomocgodljecaaGreatDoorK7
/- What an image that came in reads as (beside the texts of binds). -/
namespace Go.Proofs.YtkomocgodljecaaGreatDoor
open Go.ChangeShapes Go.WideShapes Go.RowKit
set_option maxRecDepth 100000
def Sec.wf (s : Sec) : Prop := (Lit.int .u64 s.addr).wf = true ∧ (Lit.int .u64 s.size).wf = true ∧ (Lit.int .u64 s.off).wf = true ∧ (Lit.int .i64 s.kind).wf = true
def Dep.wf (s : Dep) : Prop := (Lit.int .i64 s.kind).wf = true

theorem Tryz.tySec : (Tryz.prog.underlying 91).map tyOf = some [(9, 0), (9, 1), (26, 2), (26, 3), (26, 4), (3, 5)] := by kernel_rfl
theorem Tryz.cSec : Tryz.prog.cellsOf 91 = 6 := by kernel_rfl
theorem Tryz.uSecs : Tryz.prog.underlying 47 = some (.slice 91) := by kernel_rfl
theorem Tryz.uSec_name : Tryz.prog.underlying 9 = some (.string) := by kernel_rfl
theorem Tryz.uSec_seg : Tryz.prog.underlying 9 = some (.string) := by kernel_rfl
theorem Tryz.uSec_addr : Tryz.prog.underlying 26 = some (.int .u64) := by kernel_rfl
theorem Tryz.uSec_size : Tryz.prog.underlying 26 = some (.int .u64) := by kernel_rfl
theorem Tryz.uSec_off : Tryz.prog.underlying 26 = some (.int .u64) := by kernel_rfl
theorem Tryz.uSec_kind : Tryz.prog.underlying 3 = some (.int .i64) := by kernel_rfl
theorem open_secs {H : Type} {enc : TypeId × Value → H} {W : World} {a : Option Addr} {len cap : Nat} {d : DataW H} {ps : List MemPlace}
    (h : DataW.Trod enc Tryz.prog W 0 (fun _ => true) true 47 (.slice a len cap) d ps) :
    ∃ ls : List Sec, ls.length = len ∧ secL.Rd W (.slice a len cap) ls ∧ ∀ x ∈ ls, Sec.wf x := by
  obtain ⟨h1, h2, h3⟩ := open_rows Tryz.uSecs Tryz.cSec (by decide) h
  rcases Nat.eq_zero_or_pos len with rfl | hp
  · exact ⟨[], rfl, ⟨_, _, _, rfl, rfl, h1, h2, fun h => absurd rfl h⟩, fun s hs => by cases hs⟩
  · obtain ⟨b, off, rfl, hb, hi⟩ := h3 hp
    obtain ⟨ms, hl, hq⟩ := list_of Sec.zero (fun j s => Sec.wf s ∧ ∀ c, c < 6 → W.cell? ⟨b, off + j * 6 + c, none⟩ = s.cells[c]?) len (fun j hj => by
      obtain ⟨cs, n, x, ht, hcl, hat⟩ := hi j hj
      obtain ⟨_, hfld⟩ := struct_at Tryz.tySec (by simp) ht
      obtain ⟨_, _, t0⟩ := hfld 0 _ _ rfl
      obtain ⟨_, _, t1⟩ := hfld 1 _ _ rfl
      obtain ⟨_, _, t2⟩ := hfld 2 _ _ rfl
      obtain ⟨_, _, t3⟩ := hfld 3 _ _ rfl
      obtain ⟨_, _, t4⟩ := hfld 4 _ _ rfl
      obtain ⟨_, _, t5⟩ := hfld 5 _ _ rfl
      obtain ⟨z0, c0⟩ := str_at Tryz.uSec_name t0
      obtain ⟨z1, c1⟩ := str_at Tryz.uSec_seg t1
      obtain ⟨z2, c2, w2⟩ := int_at Tryz.uSec_addr t2
      obtain ⟨z3, c3, w3⟩ := int_at Tryz.uSec_size t3
      obtain ⟨z4, c4, w4⟩ := int_at Tryz.uSec_off t4
      obtain ⟨z5, c5, w5⟩ := int_at Tryz.uSec_kind t5
      refine ⟨⟨z0, z1, z2, z3, z4, z5⟩, ⟨w2, w3, w4, w5⟩, fun c hc => ?_⟩
      rw [hat c hc]
      match c, hc with
      | 0, _ => exact c0
      | 1, _ => exact c1
      | 2, _ => exact c2
      | 3, _ => exact c3
      | 4, _ => exact c4
      | 5, _ => exact c5
      | c + 6, hc => exact absurd hc (by omega))
    refine ⟨ms, hl, ⟨_, _, _, rfl, hl.symm, h1, h2, fun _ => ⟨b, off, rfl, hb, fun j hj => (hq j (by omega)).2⟩⟩, fun s hs => ?_⟩
    obtain ⟨j, hj, rfl⟩ := List.getElem_of_mem hs
    have := (hq j (by omega)).1
    rwa [List.getD_eq_getElem?_getD, List.getElem?_eq_getElem hj] at this

theorem Tryz.tyDep : (Tryz.prog.underlying 81).map tyOf = some [(9, 0), (79, 1)] := by kernel_rfl
theorem Tryz.cDep : Tryz.prog.cellsOf 81 = 2 := by kernel_rfl
theorem Tryz.uDeps : Tryz.prog.underlying 25 = some (.slice 81) := by kernel_rfl
theorem Tryz.uDep_name : Tryz.prog.underlying 9 = some (.string) := by kernel_rfl
theorem Tryz.uDep_kind : Tryz.prog.underlying 79 = some (.int .i64) := by kernel_rfl
theorem open_deps {H : Type} {enc : TypeId × Value → H} {W : World} {a : Option Addr} {len cap : Nat} {d : DataW H} {ps : List MemPlace}
    (h : DataW.Trod enc Tryz.prog W 0 (fun _ => true) true 25 (.slice a len cap) d ps) :
    ∃ ls : List Dep, ls.length = len ∧ depL.Rd W (.slice a len cap) ls ∧ ∀ x ∈ ls, Dep.wf x := by
  obtain ⟨h1, h2, h3⟩ := open_rows Tryz.uDeps Tryz.cDep (by decide) h
  rcases Nat.eq_zero_or_pos len with rfl | hp
  · exact ⟨[], rfl, ⟨_, _, _, rfl, rfl, h1, h2, fun h => absurd rfl h⟩, fun s hs => by cases hs⟩
  · obtain ⟨b, off, rfl, hb, hi⟩ := h3 hp
    obtain ⟨ms, hl, hq⟩ := list_of Dep.zero (fun j s => Dep.wf s ∧ ∀ c, c < 2 → W.cell? ⟨b, off + j * 2 + c, none⟩ = s.cells[c]?) len (fun j hj => by
      obtain ⟨cs, n, x, ht, hcl, hat⟩ := hi j hj
      obtain ⟨_, hfld⟩ := struct_at Tryz.tyDep (by simp) ht
      obtain ⟨_, _, t0⟩ := hfld 0 _ _ rfl
      obtain ⟨_, _, t1⟩ := hfld 1 _ _ rfl
      obtain ⟨z0, c0⟩ := str_at Tryz.uDep_name t0
      obtain ⟨z1, c1, w1⟩ := int_at Tryz.uDep_kind t1
      refine ⟨⟨z0, z1⟩, w1, fun c hc => ?_⟩
      rw [hat c hc]
      match c, hc with
      | 0, _ => exact c0
      | 1, _ => exact c1
      | c + 2, hc => exact absurd hc (by omega))
    refine ⟨ms, hl, ⟨_, _, _, rfl, hl.symm, h1, h2, fun _ => ⟨b, off, rfl, hb, fun j hj => (hq j (by omega)).2⟩⟩, fun s hs => ?_⟩
    obtain ⟨j, hj, rfl⟩ := List.getElem_of_mem hs
    have := (hq j (by omega)).1
    rwa [List.getD_eq_getElem?_getD, List.getElem?_eq_getElem hj] at this

theorem wf_u64 {z : Int} (h : (Lit.int .u64 z).wf = true) : 0 ≤ z ∧ z < 18446744073709551616 := by
  constructor <;> (simp [Lit.wf, IntKind.min, IntKind.max, IntKind.signed, IntKind.bits] at h; omega)
/-- A field that is a slice. -/
theorem slice_at {H : Type} {enc : TypeId × Value → H} {W : World} {T E : TypeId} (hu : Tryz.prog.underlying T = some (.slice E)) (hc : Tryz.prog.cellsOf T = 1) {n o : Nat} {cs : List Value} {y : DataW H × List MemPlace}
    (h : DataW.trod enc Tryz.prog W 0 (fun _ => true) true n T ((cs.drop o).take (Tryz.prog.cellsOf T)) = some y) :
    ∃ (a : Option Addr) (k c : Nat), cs[o]? = some (.slice a k c) ∧ ∃ d q, DataW.Trod enc Tryz.prog W 0 (fun _ => true) true T (.slice a k c) d q := by
  rw [hc] at h
  obtain ⟨d, q⟩ := y
  have key : ∀ (a : Option Addr) (k c : Nat), (cs.drop o).take 1 = [.slice a k c] → ∃ (a : Option Addr) (k c : Nat), cs[o]? = some (.slice a k c) ∧ ∃ d q, DataW.Trod enc Tryz.prog W 0 (fun _ => true) true T (.slice a k c) d q := by
    intro a k c he
    rw [he] at h
    have e1 : cs[o]? = some (.slice a k c) := by
      have : ((cs.drop o).take 1)[0]? = some (.slice a k c) := by rw [he]; rfl
      rw [List.getElem?_take] at this
      simpa using this
    exact ⟨a, k, c, e1, d, q, n, by simpa [Value.cells] using h⟩
  rcases Go.Deep.open_slice hu h with ⟨hcs, _⟩ | ⟨ad, k, c, m, _, _, _, hcs, _⟩
  · exact key _ _ _ hcs
  · exact key _ _ _ hcs
theorem Tryz.tySeg : (Tryz.prog.underlying 49).map tyOf = some [(9, 0), (26, 1), (26, 2), (26, 3), (26, 4), (3, 5), (47, 6)] := by kernel_rfl
theorem Tryz.cSeg : Tryz.prog.cellsOf 49 = 7 := by kernel_rfl
theorem Tryz.cSecs : Tryz.prog.cellsOf 47 = 1 := by kernel_rfl
theorem Tryz.uSegs : Tryz.prog.underlying 24 = some (.slice 49) := by kernel_rfl
theorem Tryz.uSeg_str : Tryz.prog.underlying 9 = some .string := by kernel_rfl
theorem Tryz.uSeg_u64 : Tryz.prog.underlying 26 = some (.int .u64) := by kernel_rfl
theorem Tryz.uSeg_int : Tryz.prog.underlying 3 = some (.int .i64) := by kernel_rfl
/-- A segment, and its sections. -/
def SegIn (W : World) (x : Seg × SegP) : Prop := SegRd W x.1 x.2 ∧ SegB x.2.s ∧ ∀ k, k < x.2.ks.length → SecB (x.2.ks.getD k .zero)
theorem secB_of {s : Sec} (h : s.wf) : SecB s := by
  obtain ⟨h1, h2, h3, h4⟩ := h
  have a := wf_u64 h1
  have b := wf_u64 h2
  have c := wf_u64 h3
  first
  | exact ⟨a, b, c⟩
  | exact ⟨a, b, c, trivial⟩
theorem getD_mem' {α : Type} {l : List α} {k : Nat} (d : α) (h : k < l.length) : l.getD k d ∈ l := by
  rw [List.getD_eq_getElem?_getD, List.getElem?_eq_getElem h]
  exact List.getElem_mem h
theorem open_segs {H : Type} {enc : TypeId × Value → H} {W : World} {a : Option Addr} {len cap : Nat} {d : DataW H} {ps : List MemPlace}
    (h : DataW.Trod enc Tryz.prog W 0 (fun _ => true) true 24 (.slice a len cap) d ps) :
    ∃ ls : List (Seg × SegP), ls.length = len ∧ segL.Rd W (.slice a len cap) (ls.map Prod.fst) ∧ ∀ x ∈ ls, SegIn W x := by
  obtain ⟨h1, h2, h3⟩ := open_rows Tryz.uSegs Tryz.cSeg (by decide) h
  rcases Nat.eq_zero_or_pos len with rfl | hp
  · exact ⟨[], rfl, ⟨_, _, _, rfl, rfl, h1, h2, fun h => absurd rfl h⟩, fun s hs => by cases hs⟩
  · obtain ⟨b, off, rfl, hb, hi⟩ := h3 hp
    obtain ⟨ms, hl, hq⟩ := list_of ((Seg.zero, SegP.zero) : Seg × SegP) (fun j s => SegIn W s ∧ ∀ c, c < 7 → W.cell? ⟨b, off + j * 7 + c, none⟩ = s.1.cells[c]?) len (fun j hj => by
      obtain ⟨cs, n, x, ht, hcl, hat⟩ := hi j hj
      obtain ⟨_, hfld⟩ := struct_at Tryz.tySeg (by simp) ht
      obtain ⟨_, _, t0⟩ := hfld 0 _ _ rfl
      obtain ⟨_, _, t1⟩ := hfld 1 _ _ rfl
      obtain ⟨_, _, t2⟩ := hfld 2 _ _ rfl
      obtain ⟨_, _, t3⟩ := hfld 3 _ _ rfl
      obtain ⟨_, _, t4⟩ := hfld 4 _ _ rfl
      obtain ⟨_, _, t5⟩ := hfld 5 _ _ rfl
      obtain ⟨_, _, t6⟩ := hfld 6 _ _ rfl
      obtain ⟨z0, c0⟩ := str_at Tryz.uSeg_str t0
      obtain ⟨z1, c1, w1⟩ := int_at Tryz.uSeg_u64 t1
      obtain ⟨z2, c2, w2⟩ := int_at Tryz.uSeg_u64 t2
      obtain ⟨z3, c3, w3⟩ := int_at Tryz.uSeg_u64 t3
      obtain ⟨z4, c4, w4⟩ := int_at Tryz.uSeg_u64 t4
      obtain ⟨z5, c5, w5⟩ := int_at Tryz.uSeg_int t5
      obtain ⟨sa, sk, sc, c6, sd, sq, t6'⟩ := slice_at Tryz.uSecs Tryz.cSecs t6
      obtain ⟨ks, rfl, hks, hkw⟩ := open_secs t6'
      refine ⟨(⟨z0, z1, z2, z3, z4, z5, ⟨sa, ks.length, sc⟩⟩, ⟨⟨z0, z1, z2, z3, z4, z5, ⟨none, 0, 0⟩⟩, ks⟩), ⟨⟨rfl, hks⟩, ⟨wf_u64 w1, wf_u64 w2, wf_u64 w3, wf_u64 w4⟩, fun k hk => secB_of (hkw _ (getD_mem' _ hk))⟩, fun c hc => ?_⟩
      rw [hat c hc]
      match c, hc with
      | 0, _ => exact c0
      | 1, _ => exact c1
      | 2, _ => exact c2
      | 3, _ => exact c3
      | 4, _ => exact c4
      | 5, _ => exact c5
      | 6, _ => exact c6
      | c + 7, hc => exact absurd hc (by omega))
    refine ⟨ms, hl, ⟨_, _, _, rfl, by rw [List.length_map]; exact hl.symm, h1, h2, fun _ => ⟨b, off, rfl, hb, fun j hj => ?_⟩⟩, fun s hs => ?_⟩
    · rw [List.length_map] at hj
      have := (hq j (by omega)).2
      rw [List.getD_eq_getElem?_getD, List.getElem?_map, List.getElem?_eq_getElem hj]
      rw [List.getD_eq_getElem?_getD, List.getElem?_eq_getElem hj] at this
      exact this
    · obtain ⟨j, hj, rfl⟩ := List.getElem_of_mem hs
      have := (hq j (by omega)).1
      rwa [List.getD_eq_getElem?_getD, List.getElem?_eq_getElem hj] at this
theorem Tryz.tySpan : (Tryz.prog.underlying 28).map tyOf = some [(26, 0), (26, 1)] := by kernel_rfl
theorem Tryz.cSpan : Tryz.prog.cellsOf 28 = 2 := by kernel_rfl
/-- A field that is a span. -/
theorem span_at {H : Type} {enc : TypeId × Value → H} {W : World} {n o : Nat} {cs : List Value} {y : DataW H × List MemPlace}
    (h : DataW.trod enc Tryz.prog W 0 (fun _ => true) true n 28 ((cs.drop o).take (Tryz.prog.cellsOf 28)) = some y) :
    ∃ z u : Int, cs[o]? = some (.int .u64 z) ∧ cs[o + 1]? = some (.int .u64 u) ∧ (0 ≤ z ∧ z < 18446744073709551616) ∧ 0 ≤ u ∧ u < 18446744073709551616 := by
  obtain ⟨_, hg⟩ := struct_at Tryz.tySpan (by simp) h
  obtain ⟨_, _, t0⟩ := hg 0 _ _ rfl
  obtain ⟨_, _, t1⟩ := hg 1 _ _ rfl
  obtain ⟨z0, c0, w0⟩ := int_at Tryz.uSeg_u64 t0
  obtain ⟨z1, c1, w1⟩ := int_at Tryz.uSeg_u64 t1
  rw [Tryz.cSpan] at c0 c1
  refine ⟨z0, z1, ?_, ?_, wf_u64 w0, wf_u64 w1⟩
  · rw [List.getElem?_take] at c0
    simpa using c0
  · rw [List.getElem?_take] at c1
    simpa using c1

theorem Tryz.tyImage : (Tryz.prog.underlying 30).map tyOf = some [(22, 0), (3, 1), (23, 2), (9, 3), (24, 4), (25, 5), (28, 6), (28, 8), (28, 10), (28, 12), (28, 14), (28, 16), (28, 18), (28, 20), (26, 22), (4, 23)] := by kernel_rfl
theorem Tryz.cImage : Tryz.prog.cellsOf 30 = 24 := by kernel_rfl
theorem Tryz.uImg_kind : Tryz.prog.underlying 22 = some (.int .i64) := by kernel_rfl
theorem Tryz.uImg_u32 : Tryz.prog.underlying 23 = some (.int .u32) := by kernel_rfl
theorem Tryz.uImg_bool : Tryz.prog.underlying 4 = some .bool := by kernel_rfl
theorem Tryz.cSegs : Tryz.prog.cellsOf 24 = 1 := by kernel_rfl
theorem Tryz.cDeps : Tryz.prog.cellsOf 25 = 1 := by kernel_rfl
set_option maxHeartbeats 2000000 in
/-- An image that came in: plain data, its numbers of their kinds. -/
theorem open_img {H : Type} {enc : TypeId × Value → H} {W : World} {b0 : Nat} {v : Value} {d : DataW H} {ps : List MemPlace} (hv : Value.okWide Tryz.prog W .any b0 30 v)
    (h : DataW.Trod enc Tryz.prog W 0 (fun _ => true) true 30 v d ps) : ∃ (m : Img) (p : TP), v = imgL.val m ∧ DRd W m p ∧ PB p := by
  obtain ⟨fs, hu⟩ : ∃ fs, Tryz.prog.underlying 30 = some (.struct fs) := by
    have h := Tryz.tyImage
    cases hu : Tryz.prog.underlying 30 with
    | none => rw [hu] at h; cases h
    | some d =>
      rw [hu] at h
      simp only [Option.map_some, Option.some.injEq] at h
      cases d with
      | struct fs => exact ⟨fs, rfl⟩
      | _ => exact absurd h.symm (by simp [tyOf])
  obtain ⟨cs, rfl, hsz⟩ := okWide_struct hu hv
  obtain ⟨fuel, hf⟩ := h
  obtain ⟨hl, hfld⟩ := struct_at Tryz.tyImage (by simp) hf
  have e : (Value.agg cs).cells.toList = cs.toList := by rfl
  rw [e] at hfld
  obtain ⟨_, _, t0⟩ := hfld 0 _ _ rfl
  obtain ⟨_, _, t1⟩ := hfld 1 _ _ rfl
  obtain ⟨_, _, t2⟩ := hfld 2 _ _ rfl
  obtain ⟨_, _, t3⟩ := hfld 3 _ _ rfl
  obtain ⟨_, _, t4⟩ := hfld 4 _ _ rfl
  obtain ⟨_, _, t5⟩ := hfld 5 _ _ rfl
  obtain ⟨_, _, t6⟩ := hfld 6 _ _ rfl
  obtain ⟨_, _, t7⟩ := hfld 7 _ _ rfl
  obtain ⟨_, _, t8⟩ := hfld 8 _ _ rfl
  obtain ⟨_, _, t9⟩ := hfld 9 _ _ rfl
  obtain ⟨_, _, t10⟩ := hfld 10 _ _ rfl
  obtain ⟨_, _, t11⟩ := hfld 11 _ _ rfl
  obtain ⟨_, _, t12⟩ := hfld 12 _ _ rfl
  obtain ⟨_, _, t13⟩ := hfld 13 _ _ rfl
  obtain ⟨_, _, t14⟩ := hfld 14 _ _ rfl
  obtain ⟨_, _, t15⟩ := hfld 15 _ _ rfl
  obtain ⟨z0, c0, _⟩ := int_at Tryz.uImg_kind t0
  obtain ⟨z1, c1, _⟩ := int_at Tryz.uSeg_int t1
  obtain ⟨z2, c2, _⟩ := int_at Tryz.uImg_u32 t2
  obtain ⟨z3, c3⟩ := str_at Tryz.uSeg_str t3
  obtain ⟨sa, sk, sc, c4, sd, sq, t4'⟩ := slice_at Tryz.uSegs Tryz.cSegs t4
  obtain ⟨da, dk, dc, c5, dd, dq, t5'⟩ := slice_at Tryz.uDeps Tryz.cDeps t5
  obtain ⟨ls, rfl, hls, hlw⟩ := open_segs t4'
  obtain ⟨ds, rfl, hds, _⟩ := open_deps t5'
  obtain ⟨y0, u0, c6, c7, k0⟩ := span_at t6
  obtain ⟨y1, u1, c8, c9, k1⟩ := span_at t7
  obtain ⟨y2, u2, c10, c11, k2⟩ := span_at t8
  obtain ⟨y3, u3, c12, c13, k3⟩ := span_at t9
  obtain ⟨y4, u4, c14, c15, k4⟩ := span_at t10
  obtain ⟨y5, u5, c16, c17, k5⟩ := span_at t11
  obtain ⟨y6, u6, c18, c19, k6⟩ := span_at t12
  obtain ⟨y7, u7, c20, c21, k7⟩ := span_at t13
  obtain ⟨z22, c22, _⟩ := int_at Tryz.uSeg_u64 t14
  obtain ⟨z23, c23⟩ := bool_at Tryz.uImg_bool t15
  refine ⟨⟨z0, z1, z2, z3, ⟨sa, ls.length, sc⟩, ⟨da, ds.length, dc⟩, y0, u0, y1, u1, y2, u2, y3, u3, y4, u4, y5, u5, y6, u6, y7, u7, z22, z23⟩, ⟨⟨z0, z1, z2, z3, ⟨none, 0, 0⟩, ⟨none, 0, 0⟩, y0, u0, y1, u1, y2, u2, y3, u3, y4, u4, y5, u5, y6, u6, y7, u7, z22, z23⟩, ls.map Prod.snd, ds, fun _ => false, 0⟩, ?_, ⟨ls.map Prod.fst, rfl, hls, by simp, fun i hi => ?_, hds⟩, ?_, ?_⟩
  · rw [Tryz.cImage] at hsz
    show Value.agg cs = Value.agg _
    congr 1
    apply Array.ext_getElem?
    intro i
    rw [← Array.getElem?_toList]
    match i with
    | 0 => simpa [imgL, Img.cells] using c0
    | 1 => simpa [imgL, Img.cells] using c1
    | 2 => simpa [imgL, Img.cells] using c2
    | 3 => simpa [imgL, Img.cells] using c3
    | 4 => simpa [imgL, Img.cells] using c4
    | 5 => simpa [imgL, Img.cells] using c5
    | 6 => simpa [imgL, Img.cells] using c6
    | 7 => simpa [imgL, Img.cells] using c7
    | 8 => simpa [imgL, Img.cells] using c8
    | 9 => simpa [imgL, Img.cells] using c9
    | 10 => simpa [imgL, Img.cells] using c10
    | 11 => simpa [imgL, Img.cells] using c11
    | 12 => simpa [imgL, Img.cells] using c12
    | 13 => simpa [imgL, Img.cells] using c13
    | 14 => simpa [imgL, Img.cells] using c14
    | 15 => simpa [imgL, Img.cells] using c15
    | 16 => simpa [imgL, Img.cells] using c16
    | 17 => simpa [imgL, Img.cells] using c17
    | 18 => simpa [imgL, Img.cells] using c18
    | 19 => simpa [imgL, Img.cells] using c19
    | 20 => simpa [imgL, Img.cells] using c20
    | 21 => simpa [imgL, Img.cells] using c21
    | 22 => simpa [imgL, Img.cells] using c22
    | 23 => simpa [imgL, Img.cells] using c23
    | i + 24 => rw [List.getElem?_eq_none (by rw [Array.length_toList]; omega)]; simp [imgL, Img.cells]
  · rw [List.length_map] at hi
    have := (hlw _ (List.getElem_mem hi)).1
    rw [List.getD_eq_getElem?_getD, List.getD_eq_getElem?_getD, List.getElem?_map, List.getElem?_map, List.getElem?_eq_getElem hi]
    exact this
  · refine ⟨fun k hk => ?_, fun k hk j hj => ?_⟩
    · rw [List.length_map] at hk
      have := (hlw _ (List.getElem_mem hk)).2.1
      rw [List.getD_eq_getElem?_getD, List.getElem?_map, List.getElem?_eq_getElem hk]
      exact this
    · rw [List.length_map] at hk
      have := (hlw _ (List.getElem_mem hk)).2.2
      have e : (ls.map Prod.snd).getD k .zero = (ls[k]'hk).snd := by rw [List.getD_eq_getElem?_getD, List.getElem?_map, List.getElem?_eq_getElem hk]; rfl
      have hj' : j < (ls[k]'hk).snd.ks.length := by rw [← e]; exact hj
      show SecB (((ls.map Prod.snd).getD k .zero).ks.getD j .zero)
      rw [e]
      exact this j hj'
  · intro j hj
    have hj8 : j < 8 := hj
    match j, hj8 with
    | 0, _ => exact k0
    | 1, _ => exact k1
    | 2, _ => exact k2
    | 3, _ => exact k3
    | 4, _ => exact k4
    | 5, _ => exact k5
    | 6, _ => exact k6
    | 7, _ => exact k7
    | j + 8, h => exact absurd h (by omega)
end Go.Proofs.YtkomocgodljecaaGreatDoor
/- What a slice of fixups that came in reads as (a row with laid variables: EndD), its addends bounded too. -/
namespace Go.Proofs.YtkomocgodljecaaGreatDoor
open Go.ChangeShapes Go.WideShapes Go.RowKit
set_option maxRecDepth 100000

theorem Tryz.tyFix : (Tryz.prog.underlying 53).map tyOf = some [(26, 0), (51, 1), (26, 2), (3, 3), (9, 4), (2, 5), (4, 6)] := by kernel_rfl
theorem Tryz.cFix : Tryz.prog.cellsOf 53 = 7 := by kernel_rfl
theorem Tryz.uFixKind : Tryz.prog.underlying 51 = some (.int .i64) := by kernel_rfl
theorem Tryz.uFixs : Tryz.prog.underlying 31 = some (.slice 53) := by kernel_rfl
theorem at_u64 {z : Int} (h : (Lit.int .u64 z).wf = true) : 0 ≤ z ∧ z < 18446744073709551616 := by
  constructor <;> (simp [Lit.wf, IntKind.min, IntKind.max, IntKind.signed, IntKind.bits] at h; omega)
theorem add_i64 {z : Int} (h : (Lit.int .i64 z).wf = true) : -9223372036854775808 ≤ z ∧ z < 9223372036854775808 := by
  constructor <;> (simp [Lit.wf, IntKind.min, IntKind.max, IntKind.signed, IntKind.bits] at h; omega)
theorem open_fixz {H : Type} {enc : TypeId × Value → H} {W : World} {a : Option Addr} {len cap : Nat} {d : DataW H} {ps : List MemPlace}
    (h : DataW.Trod enc Tryz.prog W 0 (fun _ => true) true 31 (.slice a len cap) d ps) :
    ∃ ls : List Fx, ls.length = len ∧ FxRd W (.slice a len cap) ls ∧ ∀ f ∈ ls, (0 ≤ f.at_ ∧ f.at_ < 18446744073709551616) ∧ -9223372036854775808 ≤ f.add ∧ f.add < 9223372036854775808 := by
  obtain ⟨h1, h2, h3⟩ := open_rows Tryz.uFixs Tryz.cFix (by decide) h
  rcases Nat.eq_zero_or_pos len with rfl | hp
  · exact ⟨[], rfl, ⟨_, _, _, rfl, rfl, h1, h2, fun h => absurd rfl h⟩, fun s hs => by cases hs⟩
  · obtain ⟨b, off, rfl, hb, hi⟩ := h3 hp
    obtain ⟨ms, hl, hq⟩ := list_of Fx.zero (fun j s => ((0 ≤ s.at_ ∧ s.at_ < 18446744073709551616) ∧ -9223372036854775808 ≤ s.add ∧ s.add < 9223372036854775808) ∧ ∀ c, c < 7 → W.cell? ⟨b, off + j * 7 + c, none⟩ = s.cells[c]?) len (fun j hj => by
      obtain ⟨cs, n, x, ht, hcl, hat⟩ := hi j hj
      obtain ⟨_, hfld⟩ := struct_at Tryz.tyFix (by simp) ht
      obtain ⟨_, _, t0⟩ := hfld 0 _ _ rfl
      obtain ⟨_, _, t1⟩ := hfld 1 _ _ rfl
      obtain ⟨_, _, t2⟩ := hfld 2 _ _ rfl
      obtain ⟨_, _, t3⟩ := hfld 3 _ _ rfl
      obtain ⟨_, _, t4⟩ := hfld 4 _ _ rfl
      obtain ⟨_, _, t5⟩ := hfld 5 _ _ rfl
      obtain ⟨_, _, t6⟩ := hfld 6 _ _ rfl
      obtain ⟨z0, c0, w0⟩ := int_at Tryz.underlying26 t0
      obtain ⟨z1, c1, _⟩ := int_at Tryz.uFixKind t1
      obtain ⟨z2, c2, _⟩ := int_at Tryz.underlying26 t2
      obtain ⟨z3, c3, _⟩ := int_at Tryz.underlying3 t3
      obtain ⟨z4, c4⟩ := str_at Tryz.underlying9 t4
      obtain ⟨z5, c5, w5⟩ := int_at Tryz.underlying2 t5
      obtain ⟨z6, c6⟩ := bool_at Tryz.underlying4 t6
      refine ⟨⟨z0, z1, z2, z3, z4, z5, z6⟩, ⟨at_u64 w0, add_i64 w5⟩, fun c hc => ?_⟩
      rw [hat c hc]
      match c, hc with
      | 0, _ => exact c0
      | 1, _ => exact c1
      | 2, _ => exact c2
      | 3, _ => exact c3
      | 4, _ => exact c4
      | 5, _ => exact c5
      | 6, _ => exact c6
      | c + 7, hc => exact absurd hc (by omega))
    refine ⟨ms, hl, ⟨_, _, _, rfl, hl.symm, h1, h2, fun _ => ⟨b, off, rfl, hb, fun j hj => (hq j (by omega)).2⟩⟩, fun s hs => ?_⟩
    obtain ⟨j, hj, rfl⟩ := List.getElem_of_mem hs
    have := (hq j (by omega)).1
    rwa [List.getD_eq_getElem?_getD, List.getElem?_eq_getElem hj] at this
end Go.Proofs.YtkomocgodljecaaGreatDoor
