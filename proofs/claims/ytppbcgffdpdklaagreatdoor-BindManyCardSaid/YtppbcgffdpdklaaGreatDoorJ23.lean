/- Lemmas, laid together: part 23 of 39. Conditions: none but each lemma's own. -/
import Derived.Test.YtppbcgffdpdklaaGreatDoorJ21
import Derived.Test.YtppbcgffdpdklaaGreatDoorJ22
/- bind: binds. -/
namespace Go.Proofs.YtppbcgffdpdklaaGreatDoor
open Go.RowKit
set_option maxRecDepth 100000

theorem with_exitB {Q : World → Prop} {W : World} (R : World → Prop) (hR : R W) (k : ∀ W', R W' → Q W') : Q W := k W hR
theorem fx_builtB (x : Fx) (w : World) : (Instr.buildSlice 36 1 #[(0, fxl.val x)]).run Tryz.prog w = .ok (.slice (some ⟨w.heap.size, 0, none⟩) 1 1) (w.alloc (.cells (fxl.f x).toArray 43)) := by
  show (Instr.buildSlice 36 1 #[(0, .agg #[.int .u64 x.at_, .int .i64 x.kind, .int .u64 x.tgt, .int .i64 x.ord, .string x.sym, .int .i64 x.add, .bool x.weak])]).run Tryz.prog w = .ok (.slice (some ⟨w.heap.size, 0, none⟩) 1 1) (w.alloc (.cells #[.int .u64 x.at_, .int .i64 x.kind, .int .u64 x.tgt, .int .i64 x.ord, .string x.sym, .int .i64 x.add, .bool x.weak] 43))
  go_simp
/-- So many binds 8 apart from a place on. -/
def bndW (f : Fx) (A n : Nat) : List Fx := (List.range n).map fun j : Nat => { f with at_ := ((A + 8 * j : Nat) : Int) }
theorem bndW_len (f : Fx) (A n : Nat) : (bndW f A n).length = n := by simp [bndW]
theorem bndW_snoc (f : Fx) (A n : Nat) : bndW f A (n + 1) = bndW f A n ++ [{ f with at_ := ((A + 8 * n : Nat) : Int) }] := by simp [bndW, List.range_succ]
/-- The reader's world, behind binds. -/
def BnP (b base : Nat) (r : Brd) (A : Nat) (fs : List Fx) (w w' : World) : Prop :=
  ∃ so : SlV, brdL.Box w' b { r with f := { r.f with at_ := (A : Int) }, out := so } ∧ FB w' base so.v fs ∧ Chg (b :: r.out.v.ownBlock.toList) w w' ∧ (so.v.ownBlock = r.out.v.ownBlock ∨ ∃ g, so.v.ownBlock = some g ∧ w.heap.size ≤ g)
theorem binds_not (b : Nat) (r : Brd) (n skip : Int) (hs : r.f.sym = ⟨#[]⟩) (hi : r.is_ = true) (w : World) (hb : brdL.Box w b r) :
    Calls Tryz.prog 50 #[.pointer (some ⟨b, 0, none⟩), .int .u64 n, .int .u64 skip] w fun e w' => e = stopB 14 ∧ w' = w := by
  have x1 := Brd.c_is hb
  rw [hi] at x1
  have x2 := Brd.c_sym hb
  rw [hs] at x2
  have Hb := Lib.hid hb
  have Hs := Lib.hid hs
  have Hi := Lib.hid hi
  clear hb hs hi
  go_enter Tryz.func50, Tryz.ntmps50
  go_wp2_with fail
  refine (refuse_bad 14 _).mono ?_
  rintro e W3 ⟨rfl, rfl⟩
  exact ⟨rfl, rfl, rfl⟩
theorem binds_big (b base : Nat) (r : Brd) (n : Nat) (hn2 : n < 18446744073709551616) (skip : Int) (sy : ByteArray) (hsy : sy = ⟨#[97]⟩ ∨ sy = ⟨#[95, 97]⟩) (hs : r.f.sym = sy) (hi : r.is_ = true) (ht : r.typ = 1) (fs : List Fx) (hfs : fs.length ≤ 20000) (hbig : 20000 < fs.length + n) (w : World) (hb : brdL.Box w b r) (hfb : FB w base r.out.v fs) :
    Calls Tryz.prog 50 #[.pointer (some ⟨b, 0, none⟩), .int .u64 n, .int .u64 skip] w fun e w' => e = stopB 11 ∧ w' = w := by
  have x1 := Brd.c_is hb
  rw [hi] at x1
  have x2 := Brd.c_sym hb
  rw [hs] at x2
  have x3 := Brd.c_typ hb
  rw [ht] at x3
  have x6 := Brd.c_out hb
  have hno : r.out.n = fs.length := by
    obtain ⟨a, c, he, _, _⟩ := hfb.rd.shape
    unfold SlV.v at he
    injection he
  rw [hno] at x6
  have hw1 : IntKind.i64.wrap (20000 - (fs.length : Int)) = 20000 - (fs.length : Int) := by rw [IntKind.wrap_i64]; omega
  have hw2 : IntKind.u64.wrap (20000 - (fs.length : Int)) = 20000 - (fs.length : Int) := by rw [IntKind.wrap_u64]; omega
  have d1 : decide (20000 - (fs.length : Int) < (n : Int)) = true := by simp; omega
  have Hb := Lib.hid hb
  have Hfb := Lib.hid hfb
  have Hs := Lib.hid hs
  have Hi := Lib.hid hi
  have Ht := Lib.hid ht
  have Hno := Lib.hid hno
  have Hn2 := Lib.hid hn2
  clear hb hfb hs hi ht hno hn2
  rcases hsy with rfl | rfl
  all_goals
    go_enter Tryz.func50, Tryz.ntmps50
    go_wp2_with fail
    refine (refuse_ok 14 _).mono ?_
    rintro e W3 ⟨rfl, rfl⟩
    go_wp2_with fail
    refine (refuse_bad 11 _).mono ?_
    rintro e W3 ⟨rfl, rfl⟩
    exact ⟨rfl, rfl, rfl⟩
end Go.Proofs.YtppbcgffdpdklaaGreatDoor
