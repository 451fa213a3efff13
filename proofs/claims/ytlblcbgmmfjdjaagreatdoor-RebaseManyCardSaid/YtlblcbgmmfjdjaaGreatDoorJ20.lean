/- Lemmas, laid together: part 20 of 35. Conditions: none but each lemma's own. -/
import Derived.Test.YtlblcbgmmfjdjaaGreatDoorJ19
import Derived.Test.YtlblcbgmmfjdjaaGreatDoorJ6
import Derived.Test.YtlblcbgmmfjdjaaGreatDoorJ1
import Derived.Test.YtlblcbgmmfjdjaaGreatDoorProg
import Derived.Test.YtlblcbgmmfjdjaaGreatDoorJ8
/- rebase: many, without a skip. -/
namespace Go.Proofs.YtlblcbgmmfjdjaaGreatDoor
open Go.RowKit
set_option maxRecDepth 100000

/-- So many rebases 8 apart from a place on, of what the file has. -/
def rebW (ls : List Seg) (l : List UInt8) (A n : Nat) : List Fx := (List.range n).map fun j : Nat => rebF ((A + 8 * j : Nat) : Int) (wordS ls l ((A + 8 * j : Nat) : Int)).1
theorem rebW_len (ls : List Seg) (l : List UInt8) (A n : Nat) : (rebW ls l A n).length = n := by simp [rebW]
theorem rebW_snoc (ls : List Seg) (l : List UInt8) (A n : Nat) : rebW ls l A (n + 1) = rebW ls l A n ++ [rebF ((A + 8 * n : Nat) : Int) (wordS ls l ((A + 8 * n : Nat) : Int)).1] := by simp [rebW, List.range_succ]
set_option maxHeartbeats 4000000 in
theorem many_ok (b base : Nat) (r : Rdr) (A n : Nat) (hA : r.at_ = A) (hA2 : A + 8 * n < 18446744073709551616) (ls : List Seg) (hls : SegsB ls) (hwr : ∀ j, j < n → writS ls ((A + 8 * j : Nat) : Int) 8 = true) (l : List UInt8) (hl : l.length ≤ 100000000) (fs : List Fx) (hfs : fs.length + n ≤ 20000) (hn : n ≠ 0) (w : World)
    (hb : rdrL.Box w b r) (hrd : segL.Rd w r.m.segs.v ls) (hsl : byteL.Rd w r.sl.v l) (hfb : FB w base r.out.v fs) (hbb : b < base) (hbw : base ≤ w.heap.size) (hs1 : ∀ k, r.m.segs.v.ownBlock = some k → k < b) (hs2 : ∀ k, r.sl.v.ownBlock = some k → k < b) :
    Calls Tryz.prog 29 #[.pointer (some ⟨b, 0, none⟩), .int .u64 n, .int .u64 0] w fun e w' => e = .returned (.int .i64 0) ∧ OneP b base r (A + 8 * n) (fs ++ rebW ls l A n) w w' := by
  have z0 : ((n : Int) == 0) = false := by simp; omega
  have x6 := Rdr.c_out hb
  have hno : r.out.n = fs.length := by
    obtain ⟨a, c, he, _, _⟩ := hfb.rd.shape
    unfold SlV.v at he
    injection he
  rw [hno] at x6
  have hw1 : IntKind.i64.wrap (20000 - (fs.length : Int)) = 20000 - (fs.length : Int) := by rw [IntKind.wrap_i64]; omega
  have hw2 : IntKind.u64.wrap (20000 - (fs.length : Int)) = 20000 - (fs.length : Int) := by rw [IntKind.wrap_u64]; omega
  have d1 : decide (20000 - (fs.length : Int) < (n : Int)) = false := by simp; omega
  have hw3 : IntKind.i64.wrap (n : Int) = (n : Int) := by rw [IntKind.wrap_i64]; omega
  have hob : ∀ k, r.out.v.ownBlock = some k → base ≤ k := fun k hk => (hfb.lt k hk).1
  have HON := Lib.hid (fun (A' : Nat) (r' : Rdr) fs' w h1 h2 h3 h4 => one_ok b base r' A' h1 h2 ls hls h3 l hl fs' h4 w)
  have HFU := Lib.hid (fun (A' : Nat) (r' : Rdr) w h hA3 hb => further_ok b r' A' 0 h hA3 w hb)
  have hx2 : r.at_ = ((A + 8 * 0 : Nat) : Int) := by rw [hA]; rfl
  have Hb := Lib.hid hb
  have HRD := Lib.hid hrd
  have HSL := Lib.hid hsl
  have HFB := Lib.hid hfb
  have Hls := Lib.hid hls
  have HA2 := Lib.hid hA2
  have Hwr := Lib.hid hwr
  have HA := Lib.hid hA
  have Hl := Lib.hid hl
  have Hob := Lib.hid hob
  have Hno := Lib.hid hno
  have Hx2 := Lib.hid hx2
  have Hs1 := Lib.hid hs1
  have Hs2 := Lib.hid hs2
  clear hb hrd hsl hfb hls hA2 hwr hA hl hob hno hx2 hs1 hs2
  go_enter Tryz.func29, Tryz.ntmps29
  go_wp2_with fail
  go_loopw [24] (fun s24 wr => ∃ (k : Nat) (so : SlV), k ≤ n ∧ s24 = .int .i64 (k : Int) ∧ rdrL.Box wr b { r with at_ := ((A + 8 * k : Nat) : Int), out := so } ∧ FB wr base so.v (fs ++ rebW ls l A k) ∧ Chg (b :: r.out.v.ownBlock.toList) w wr ∧ (so.v.ownBlock = r.out.v.ownBlock ∨ ∃ g, so.v.ownBlock = some g ∧ w.heap.size ≤ g)) (fun s24 _ => n - (intOf s24).toNat)
  case atStart => exact ⟨0, r.out, Nat.zero_le _, rfl, by rw [← Hx2.out]; exact Hb.out, by simpa [rebW] using HFB.out, Chg.refl _ _, .inl rfl⟩
  case round =>
    obtain ⟨k, so, hk, rfl, h1, h2, h3, h4⟩ := hrel
    have B := Lib.hid h1
    have F := Lib.hid h2
    have C := Lib.hid h3
    have OW := Lib.hid h4
    clear h1 h2 h3 h4
    by_cases hlt : k < n
    · have hsa : segL.Rd wr r.m.segs.v ls := HRD.out.frameS C.out (fun i hi hm => by
        have := Hs1.out i hi
        rcases List.mem_cons.1 hm with h | h
        · omega
        · have := Hob.out i (by simpa using h); omega)
      have hsb : byteL.Rd wr r.sl.v l := HSL.out.frameS C.out (fun i hi hm => by
        have := Hs2.out i hi
        rcases List.mem_cons.1 hm with h | h
        · omega
        · have := Hob.out i (by simpa using h); omega)
      have hon := HON.out (A + 8 * k) { r with at_ := ((A + 8 * k : Nat) : Int), out := so } (fs ++ rebW ls l A k) wr rfl (by have := HA2.out; omega) (Hwr.out k hlt) (by rw [List.length_append, rebW_len]; omega) B.out hsa hsb F.out hbb (Nat.le_trans hbw C.out.size)
      rw [List.append_assoc, ← rebW_snoc] at hon
      have Hsa := Lib.hid hsa
      have Hsb := Lib.hid hsb
      have Hon := Lib.hid hon
      clear hsa hsb hon
      go_wp2_with fail
      refine Hon.out.mono ?_
      rintro e w2 ⟨rfl, so2, b2, f2, c2, o2⟩
      have B2 := Lib.hid b2
      have F2 := Lib.hid f2
      have C2 := Lib.hid c2
      have O2 := Lib.hid o2
      clear b2 f2 c2 o2
      go_wp2_with fail
      refine (HFU.out (A + 8 * k + 8) { r with at_ := ((A + 8 * k + 8 : Nat) : Int), out := so2 } _ rfl (by have := HA2.out; omega) B2.out).mono ?_
      rintro e w3 ⟨rfl, b3, c3⟩
      have B3 := Lib.hid b3
      have C3 := Lib.hid c3
      clear b3 c3
      go_wp2
      go_roundw
      case rel =>
        refine ⟨k + 1, so2, hlt, by go_num, B3.out, F2.out.frame C3.out (fun i hi hm => by have := (F2.out.lt i hi).1; simp at hm; omega), ?_, ?_⟩
        · refine C.out.trans ((C2.out.trans (S := b :: so.v.ownBlock.toList) C3.out (fun i hi _ => by simp at hi; subst hi; exact List.mem_cons_self ..))) (fun i hi hw => ?_)
          rcases List.mem_cons.1 hi with h | h
          · subst h; exact List.mem_cons_self ..
          · rcases OW.out with e | ⟨g, e, hg⟩
            · rw [e] at h; exact List.mem_cons_of_mem _ h
            · rw [e] at h; simp at h; omega
        · rcases O2.out with e | ⟨g, e, hg⟩
          · rw [e]; exact OW.out
          · exact .inr ⟨g, e, Nat.le_trans C.out.size hg⟩
      case measure => simp [intOf]; omega
    · obtain rfl : n = k := by omega
      go_wp2
      go_ret
      exact ⟨rfl, so, B.out, F.out, C.out, OW.out⟩
end Go.Proofs.YtlblcbgmmfjdjaaGreatDoor
/- rebase: many of none, and too many. -/
namespace Go.Proofs.YtlblcbgmmfjdjaaGreatDoor
open Go.RowKit
set_option maxRecDepth 100000

theorem many_none (b : Nat) (skip : Int) (w : World) : Calls Tryz.prog 29 #[.pointer (some ⟨b, 0, none⟩), .int .u64 0, .int .u64 skip] w fun e w' => e = .returned (.int .i64 0) ∧ Chg [] w w' := by
  go_enter Tryz.func29, Tryz.ntmps29
  go_wp2
  go_ret
  exact ⟨rfl, Chg.refl _ _⟩
theorem many_big (b base : Nat) (r : Rdr) (n : Nat) (hn2 : n < 18446744073709551616) (skip : Int) (fs : List Fx) (hfs : fs.length ≤ 20000) (hbig : 20000 < fs.length + n) (w : World) (hb : rdrL.Box w b r) (hfb : FB w base r.out.v fs) :
    Calls Tryz.prog 29 #[.pointer (some ⟨b, 0, none⟩), .int .u64 n, .int .u64 skip] w fun e w' => e = .returned (.int .i64 11) ∧ Chg [] w w' := by
  have z0 : ((n : Int) == 0) = false := by simp; omega
  have x6 := Rdr.c_out hb
  have hno : r.out.n = fs.length := by
    obtain ⟨a, c, he, _, _⟩ := hfb.rd.shape
    unfold SlV.v at he
    injection he
  rw [hno] at x6
  have hw1 : IntKind.i64.wrap (20000 - (fs.length : Int)) = 20000 - (fs.length : Int) := by rw [IntKind.wrap_i64]; omega
  have hw2 : IntKind.u64.wrap (20000 - (fs.length : Int)) = 20000 - (fs.length : Int) := by rw [IntKind.wrap_u64]; omega
  have d1 : decide (20000 - (fs.length : Int) < (n : Int)) = true := by simp; omega
  have Hb := Lib.hid hb
  have Hfb := Lib.hid hfb
  have Hn2 := Lib.hid hn2
  clear hb hfb hn2
  go_enter Tryz.func29, Tryz.ntmps29
  go_wp2
  go_ret
  exact ⟨rfl, Chg.refl _ _⟩
end Go.Proofs.YtlblcbgmmfjdjaaGreatDoor
/- rebase: ready, numbers. -/
namespace Go.Proofs.YtlblcbgmmfjdjaaGreatDoor
open Go.RowKit
set_option maxRecDepth 100000

def numsOf (op : Nat) : Nat := if op = 8 then 2 else if op = 2 ∨ op = 3 ∨ op = 6 ∨ op = 7 then 1 else 0
theorem numbers_any (op : Nat) (h : op < 16) (w : World) : Calls Tryz.prog 23 #[.int .u8 op] w fun e w' => e = .returned (.int .i64 (numsOf op)) ∧ Chg [] w w' := by
  have hh : op = 0 ∨ op = 1 ∨ op = 2 ∨ op = 3 ∨ op = 4 ∨ op = 5 ∨ op = 6 ∨ op = 7 ∨ op = 8 ∨ op = 9 ∨ op = 10 ∨ op = 11 ∨ op = 12 ∨ op = 13 ∨ op = 14 ∨ op = 15 := by omega
  rcases hh with rfl | rfl | rfl | rfl | rfl | rfl | rfl | rfl | rfl | rfl | rfl | rfl | rfl | rfl | rfl | rfl
  all_goals
    clear h
    go_enter Tryz.func23, Tryz.ntmps23
    go_wp2
    go_ret
    exact ⟨rfl, Chg.refl _ _⟩
def readyOf (op : Nat) (typ : Int) (is_ : Bool) : Bool := if 5 ≤ op ∧ op ≤ 8 then (typ == 1) && is_ else if op = 3 ∨ op = 4 then is_ else decide (op ≤ 8)
set_option maxHeartbeats 2000000 in
theorem ready_any (b : Nat) (r : Rdr) (op : Nat) (h : op < 16) (w : World) (hb : rdrL.Box w b r) : Calls Tryz.prog 26 #[.pointer (some ⟨b, 0, none⟩), .int .u8 op] w fun e w' => e = .returned (.bool (readyOf op r.typ r.is_)) ∧ Chg [] w w' := by
  have x4 := Rdr.c_is hb
  have x5 := Rdr.c_typ hb
  have hh : op = 0 ∨ op = 1 ∨ op = 2 ∨ op = 3 ∨ op = 4 ∨ op = 5 ∨ op = 6 ∨ op = 7 ∨ op = 8 ∨ op = 9 ∨ op = 10 ∨ op = 11 ∨ op = 12 ∨ op = 13 ∨ op = 14 ∨ op = 15 := by omega
  clear hb
  obtain ⟨q, hq⟩ : ∃ q, q = r.is_ := ⟨_, rfl⟩
  rw [← hq] at x4 ⊢
  cases t1 : (r.typ == 1) with
  | true =>
    have t2 : r.typ = 1 := by simpa using t1
    rw [t2] at x5 ⊢
    clear t1 t2 hq
    rcases hh with rfl | rfl | rfl | rfl | rfl | rfl | rfl | rfl | rfl | rfl | rfl | rfl | rfl | rfl | rfl | rfl
    all_goals
      clear h
      go_enter Tryz.func26, Tryz.ntmps26
      go_wp2
      go_ret
      exact ⟨by cases q <;> rfl, Chg.refl _ _⟩
  | false =>
    have hr : ∀ op, readyOf op r.typ q = if 5 ≤ op ∧ op ≤ 8 then false else if op = 3 ∨ op = 4 then q else decide (op ≤ 8) := fun op => by unfold readyOf; rw [t1]; rfl
    rw [hr]
    clear hr hq
    rcases hh with rfl | rfl | rfl | rfl | rfl | rfl | rfl | rfl | rfl | rfl | rfl | rfl | rfl | rfl | rfl | rfl
    all_goals
      clear h
      go_enter Tryz.func26, Tryz.ntmps26
      go_wp2
      go_ret
      exact ⟨by cases q <;> rfl, Chg.refl _ _⟩
end Go.Proofs.YtlblcbgmmfjdjaaGreatDoor
/- The cursor's small methods, each walked once. -/
namespace Go.Proofs.YtlblcbgmmfjdjaaGreatDoor
open Go.RowKit

theorem At_any (b : Nat) (al : Value) (at_ : Int) (bg fl : Value) (w : World) (h : w.heap[b]? = some (.cells #[al, .int .i64 at_, bg, fl] 66 (0, 0))) :
    Calls Tryz.prog 48 #[.pointer (some ⟨b, 0, none⟩)] w fun e w' => e = .returned (.int .i64 at_) ∧ w = w' := by
  have h1 := cell_of_heap h 1
  clear h
  simp at h1
  go_enter Tryz.func48, Tryz.ntmps48
  go_wp2
  go_ret
  exact ⟨rfl, rfl⟩
theorem At_nil (w : World) : Calls Tryz.prog 48 #[.pointer none] w fun e w' => e = .returned (.int .i64 0) ∧ w = w' := by
  go_enter Tryz.func48, Tryz.ntmps48
  go_wp2
  go_ret
  exact ⟨rfl, rfl⟩

theorem Fail_any (b : Nat) (al at_ bg fl : Value) (w : World) (h : w.heap[b]? = some (.cells #[al, at_, bg, fl] 66 (0, 0))) :
    Calls Tryz.prog 36 #[.pointer (some ⟨b, 0, none⟩)] w fun e w' => e = .returned (.tuple #[]) ∧ w.setCell ⟨b, 3, none⟩ (.bool true) = w' := by
  have h3 := cell_of_heap h 3
  have f3 := frozen_of_heap h 3
  clear h
  simp at h3
  go_enter Tryz.func36, Tryz.ntmps36
  go_wp2
  go_end0
  exact ⟨rfl, rfl⟩
theorem Fail_nil (w : World) : Calls Tryz.prog 36 #[.pointer none] w fun e w' => e = .returned (.tuple #[]) ∧ w = w' := by
  go_enter Tryz.func36, Tryz.ntmps36
  go_wp2
  go_end0
  exact ⟨rfl, rfl⟩

theorem Left_any (b : Nat) (a : Option Addr) (n cap : Nat) (at_ : Int) (bg fl : Value) (w : World) (h : w.heap[b]? = some (.cells #[.slice a n cap, .int .i64 at_, bg, fl] 66 (0, 0)))
   (h0 : 0 ≤ at_) (hn : n ≤ 140737488355328) (h2 : at_ ≤ n) :
    Calls Tryz.prog 9 #[.pointer (some ⟨b, 0, none⟩)] w fun e w' => e = .returned (.int .i64 (n - at_)) ∧ Dr w w' := by
  have hc0 := cell_of_heap h 0
  have hc1 := cell_of_heap h 1
  clear h
  simp at hc0 hc1
  go_enter Tryz.func9, Tryz.ntmps9
  go_wp2
  go_quiet (fail)
  go_wp2
  go_ret
  exact ⟨rfl, (Dr.refl _).drewN _⟩
theorem Left_nil (w : World) : Calls Tryz.prog 9 #[.pointer none] w fun e w' => e = .returned (.int .i64 0) ∧ w = w' := by
  go_enter Tryz.func9, Tryz.ntmps9
  go_wp2
  go_ret
  exact ⟨rfl, rfl⟩

theorem well_any (b : Nat) (al at_ bg : Value) (fl is : Bool) (w : World) (h : w.heap[b]? = some (.cells #[al, at_, bg, .bool fl] 66 (0, 0))) :
    Calls Tryz.prog 21 #[.pointer (some ⟨b, 0, none⟩), .bool is] w fun e w' => e = .returned (.bool (is && !fl)) ∧ (if is then w else w.setCell ⟨b, 3, none⟩ (.bool true)) = w' := by
  have h3 := cell_of_heap h 3
  simp at h3
  go_enter Tryz.func21, Tryz.ntmps21
  cases is
  · go_wp2_with fail
    refine (Fail_any b al at_ bg (.bool fl) w h).mono ?_
    rintro e w' ⟨rfl, rfl⟩
    have h3' : (w.setCell ⟨b, 3, none⟩ (.bool true)).cell? ⟨b, 3, none⟩ = some (.bool true) := World.cell?_setCell_same _ _ _ h3
    clear h
    go_wp2
    go_ret
    exact ⟨rfl, rfl⟩
  · clear h
    go_wp2
    go_ret
    exact ⟨by simp, rfl⟩
theorem well_nil (is : Bool) (w : World) : Calls Tryz.prog 21 #[.pointer none, .bool is] w fun e w' => e = .returned (.bool false) ∧ w = w' := by
  go_enter Tryz.func21, Tryz.ntmps21
  cases is
  · go_wp2_with fail
    refine (Fail_nil w).mono ?_
    rintro e w' ⟨rfl, rfl⟩
    go_wp2
    go_ret
    exact ⟨rfl, rfl⟩
  · go_wp2
    go_ret
    exact ⟨rfl, rfl⟩

/-- take, where so many stand there. -/
theorem take_some (b : Nat) (a : Option Addr) (n cap : Nat) (at_ m : Int) (bg : Value) (w : World) (h : w.heap[b]? = some (.cells #[.slice a n cap, .int .i64 at_, bg, .bool false] 66 (0, 0)))
   (h0 : 0 ≤ at_) (hn : n ≤ 140737488355328) (h2 : at_ ≤ n) (hm : 0 ≤ m) (hm2 : m ≤ n - at_) (hc : n ≤ cap) (hc2 : cap ≤ 9223372036854775807) (ha : 0 < m → ∃ d off, a = some ⟨d, off, none⟩) :
    Calls Tryz.prog 22 #[.pointer (some ⟨b, 0, none⟩), .int .i64 m] w fun e w' =>
      e = .returned (.slice (if m = 0 then a else a.map fun x => ⟨x.block, x.off + at_.toNat, none⟩) m.toNat m.toNat) ∧ Dr (w.setCell ⟨b, 1, none⟩ (.int .i64 (at_ + m))) w' := by
  have hc0 := cell_of_heap h 0
  have hc1 := cell_of_heap h 1
  have f1 := frozen_of_heap h 1
  simp at hc0 hc1
  by_cases hm0 : m = 0
  · subst hm0
    go_enter Tryz.func22, Tryz.ntmps22
    go_wp2_with fail
    refine (Left_any b a n cap at_ bg _ w h h0 hn h2).mono ?_
    rintro e w' ⟨rfl, hd⟩; obtain ⟨q, rfl⟩ := hd.ex; clear hd
    go_wp2_with fail
    refine (well_any b _ (.int .i64 at_) bg false true (w.drewN q) h).mono ?_
    rintro e w' ⟨rfl, rfl⟩
    cases a with
    | none =>
      go_wp2
      go_quiet (fail)
      go_wp2
      go_ret
      exact ⟨rfl, (((Dr.refl _).drewN _).set _ _).drewN _⟩
    | some a =>
      go_wp2
      go_quiet (fail)
      go_wp2
      go_ret
      exact ⟨rfl, (((Dr.refl _).drewN _).set _ _).drewN _⟩
  · obtain ⟨d, off, rfl⟩ := ha (by omega)
    have hne : ¬ (at_ + m).toNat = at_.toNat := by omega
    go_enter Tryz.func22, Tryz.ntmps22
    go_wp2_with fail
    refine (Left_any b (some ⟨d, off, none⟩) n cap at_ bg _ w h h0 hn h2).mono ?_
    rintro e w' ⟨rfl, hd⟩; obtain ⟨q, rfl⟩ := hd.ex; clear hd
    go_wp2_with fail
    refine (well_any b _ (.int .i64 at_) bg false true (w.drewN q) h).mono ?_
    rintro e w' ⟨rfl, rfl⟩
    go_wp2
    go_quiet (fail)
    go_wp2
    go_ret
    have e1 : (at_ + m).toNat - at_.toNat = m.toNat := by omega
    exact ⟨by simp [e1], (((Dr.refl _).drewN _).set _ _).drewN _⟩
end Go.Proofs.YtlblcbgmmfjdjaaGreatDoor
/- The cursor's Number, walked. -/
namespace Go.Proofs.YtlblcbgmmfjdjaaGreatDoor
open Go.RowKit

theorem number_some (b d off n cap at_ : Nat) (m : Nat) (big : Bool) (l : List UInt8) (w : World)
   (h : w.heap[b]? = some (.cells #[.slice (some ⟨d, off, none⟩) n cap, .int .i64 at_, .bool big, .bool false] 66 (0, 0)))
   (hn : n ≤ 140737488355328) (hc : n ≤ cap) (hc2 : cap ≤ 9223372036854775807) (hm : m = 1 ∨ m = 2 ∨ m = 4 ∨ m = 8) (hm2 : at_ + m ≤ n) (hbd : d ≠ b) (hll : l.length = m)
   (hl : ∀ j, j < m → w.cell? ⟨d, off + at_ + j, none⟩ = some (.int .u8 (l.getD j 0).toNat)) :
    Calls Tryz.prog 10 #[.pointer (some ⟨b, 0, none⟩), .int .i64 m] w fun e w' =>
      e = .returned (.int .u64 (numOf big l)) ∧ Dr (w.setCell ⟨b, 1, none⟩ (.int .i64 ((at_ : Int) + m))) w' := by
  rcases hm with rfl | rfl | rfl | rfl
  all_goals
    go_enter Tryz.func10, Tryz.ntmps10
    go_wp2_with fail
    refine (well_any b _ _ _ false true w h).mono ?_
    rintro e w' ⟨rfl, rfl⟩
    go_wp2_with fail
    refine (take_some b (some ⟨d, off, none⟩) n cap at_ _ _ w h (by omega) hn (by omega) (by omega) (by omega) hc hc2 (fun _ => ⟨_, _, rfl⟩)).mono ?_
    rintro e w1 ⟨rfl, hd⟩
    have hb2 := (hd.cell ⟨b, 2, none⟩).trans ((World.cell?_setCell_other w ⟨b, 1, none⟩ ⟨b, 2, none⟩ _ (by simp)).trans (cell_of_heap h 2))
    have hl2 := fun j hj => (hd.cell ⟨d, off + at_ + j, none⟩).trans ((World.cell?_setCell_other w ⟨b, 1, none⟩ ⟨d, off + at_ + j, none⟩ _ (by simp)).trans (hl j hj))
    clear hl h
    simp at hb2
    have HL := Lib.hid hll
    have HD := Lib.hid hd
    clear hll hd
    go_wp2_with fail
    go_loop [4, 5, 6, 28] (fun acc i x k28 => ∃ (k : Nat), k ≤ l.length ∧ k28 = .int .i64 k ∧ acc = .int .u64 (numOf big (l.take k))) (fun _ _ _ k28 => l.length - (intOf k28).toNat)
    case atStart => exact ⟨0, by omega, rfl, by cases big <;> rfl⟩
    case round =>
      obtain ⟨k, hk, rfl, rfl⟩ := hrel
      rw [HL.out] at hk
      by_cases hlt : k < l.length
      · have hlt' := hlt
        rw [HL.out] at hlt'
        have hlk := hl2 k hlt'
        have HS := Lib.hid (le_step l k hlt (by rw [HL.out]; omega))
        have HB := Lib.hid (be_step l k hlt (by rw [HL.out]; omega))
        have HX := Lib.hid hlt
        clear hlt hl2
        cases big
        all_goals
          simp only [numOf, if_true, if_false, Bool.false_eq_true]
          go_wp2
          go_round
          case rel => exact ⟨k + 1, HX.out, by go_num, by first | rw [HS.out] | rw [HB.out]⟩
          case measure => have := HX.out; simp [intOf]; omega
      · have hge := Nat.le_of_not_lt hlt
        have E2 := Lib.hid (List.take_of_length_le hge)
        rw [HL.out] at hge
        clear hlt hl2
        go_wp2
        go_ret
        exact ⟨by rw [E2.out]; rfl, HD.out⟩
end Go.Proofs.YtlblcbgmmfjdjaaGreatDoor
