/- Lemmas, laid together: part 24 of 43. Conditions: none but each lemma's own. -/
import Derived.Test.YtgjlgamlmmjdpaaGreatDoorJ21
import Derived.Test.YtgjlgamlmmjdpaaGreatDoorJ23
import Derived.Test.YtgjlgamlmmjdpaaGreatDoorJ2
import Derived.Test.YtgjlgamlmmjdpaaGreatDoorJ18
/- command.read, Read, Size of any bytes. -/
namespace Go.Proofs.YtgjlgamlmmjdpaaGreatDoor
open Go.RowKit Go.Extern.Stop Go.Stop Go.Extern
set_option maxRecDepth 100000

/-- The error, the numbers, the commands that bytes have as a header and commands. -/
def readE (l : List UInt8) : Int := if headE l = 0 then (if allC l (nL l 20) (nL l 16) = true then 0 else 7) else headE l
def rN (l : List UInt8) (n : Nat) : Nat := if readE l = 0 then n else 0
def readCs (l : List UInt8) : List Cmd := if readE l = 0 then cmdsC l (nL l 20) (nL l 16) else []
theorem headE_nn (l : List UInt8) : 0 ≤ headE l ∧ headE l < 100 := by
  unfold headE
  (repeat' split) <;> omega
theorem readE_nn (l : List UInt8) : 0 ≤ readE l ∧ readE l < 100 := by
  have := headE_nn l
  unfold readE
  (repeat' split) <;> omega
def errV (n : Int) : Value := if n = 0 then .nilIface else .iface 33 (.int .i64 n)

/-- What command.read says of any bytes. -/
def ReadAll (l : List UInt8) (w : World) (e : Ending) (w' : World) : Prop :=
  ∃ v ps base, e = .returned (.tuple #[.agg #[.int .i64 (rN l (hdSub l) : Nat), .int .i64 (rN l (nL l 12) : Nat), .int .u32 (rN l (nL l 24) : Nat), .int .i64 (rN l (nL l 16) : Nat), .int .i64 (rN l (nL l 20) : Nat)], v, errV (readE l)]) ∧ OutC w' base v ps ∧ ps.map Prod.fst = readCs l ∧ w.heap.size ≤ base ∧ Chg [] w w'
theorem read_any (l : List UInt8) (a : Option Addr) (cap : Nat) (w : World) (rd : Rd w (.slice a l.length cap) (bytesV l)) (hl : l.length ≤ 70368744177664) :
    Calls Tryz.prog 24 #[.slice a l.length cap] w (ReadAll l w) := by
  by_cases h : headE l = 0
  · refine (read_ok l a cap w rd hl h).mono ?_
    rintro e w' (⟨ha, v, ps, base, rfl, ho, hm, hb, hc⟩ | ⟨ha, rfl, hc⟩)
    · have hE : readE l = 0 := by unfold readE; rw [if_pos h, if_pos ha]
      refine ⟨v, ps, base, ?_, ho, by unfold readCs; rw [if_pos hE]; exact hm, hb, hc⟩
      unfold rN errV
      simp only [if_pos hE]
    · have hE : readE l = 7 := by unfold readE; rw [if_pos h, ha, if_neg (by decide)]
      have hn : ¬ readE l = 0 := by rw [hE]; decide
      refine ⟨.slice none 0 0, [], w.heap.size, ?_, OutC.nil _ _, by unfold readCs; rw [if_neg hn]; rfl, Nat.le_refl _, hc⟩
      unfold rN errV
      simp only [if_neg hn]
      rw [hE]
      rfl
  · refine (read_bad l a cap w rd hl h).mono ?_
    rintro e w' ⟨rfl, hc⟩
    have hE : readE l = headE l := by unfold readE; rw [if_neg h]
    have hn : ¬ readE l = 0 := by rw [hE]; exact h
    refine ⟨.slice none 0 0, [], w.heap.size, ?_, OutC.nil _ _, by unfold readCs; rw [if_neg hn]; rfl, Nat.le_refl _, hc⟩
    unfold rN errV
    simp only [if_neg hn]
    rw [hE]
    rfl

theorem Code_none (w : World) : Calls Tryz.prog 25 #[.nilIface] w fun e w' => e = .returned (.int .i64 0) ∧ Chg [] w w' := by
  go_enter Tryz.func25, Tryz.ntmps25
  go_wp2
  go_ret
  exact ⟨rfl, (Chg.refl [] w).alloc _⟩
theorem Code_err (n : Int) (w : World) (hg : Env w) : Calls Tryz.prog 25 #[errV n] w fun e w' => e = .returned (.int .i64 n) ∧ Chg [] w w' := by
  unfold errV
  by_cases h : n = 0
  · rw [if_pos h, h]; exact Code_none w
  · rw [if_neg h]; exact Code_errno n w hg

/-- What command.Read says of any bytes. -/
def ReadsAll (l : List UInt8) (w : World) (e : Ending) (w' : World) : Prop :=
  ∃ v ps base, e = .returned (.tuple #[.agg #[.int .i64 (rN l (hdSub l) : Nat), .int .i64 (rN l (nL l 12) : Nat), .int .u32 (rN l (nL l 24) : Nat)], v, .int .i64 (readE l)]) ∧ OutC w' base v ps ∧ ps.map Prod.fst = readCs l ∧ w.heap.size ≤ base ∧ Chg [] w w'

set_option maxHeartbeats 2000000 in
theorem Read_any (l : List UInt8) (a : Option Addr) (cap : Nat) (w : World) (hg : Env w) (rd : Rd w (.slice a l.length cap) (bytesV l)) (hl : l.length ≤ 70368744177664) :
    Calls Tryz.prog 22 #[.slice a l.length cap] w (ReadsAll l w) := by
  have HRB := Lib.hid (fun w rd => read_any l a cap w rd hl)
  have HR := Lib.hid rd
  have HG := Lib.hid hg
  clear rd hg
  unfold ReadsAll
  unfold ReadAll at HRB
  obtain ⟨X, hX⟩ : ∃ X, X = errV (readE l) := ⟨_, rfl⟩
  rw [← hX] at HRB
  have HCODE : Hid (∀ W, Env W → Calls Tryz.prog 25 #[X] W fun e w' => e = .returned (.int .i64 (readE l)) ∧ Chg [] W w') := Lib.hid (fun W hW => by rw [hX]; exact Code_err _ W hW)
  clear hX
  generalize readE l = E at *
  generalize rN l (hdSub l) = S at *
  generalize rN l (nL l 12) = N12 at *
  generalize rN l (nL l 24) = N24 at *
  generalize rN l (nL l 16) = N16 at *
  generalize rN l (nL l 20) = N20 at *
  go_enter Tryz.func22, Tryz.ntmps22
  go_wp2_with fail
  obtain ⟨w0, hw0⟩ : ∃ x, x = w.alloc (.cells #[.int .i64 0, .int .i64 0, .int .u32 0] 49) := ⟨_, rfl⟩
  obtain ⟨r, hr⟩ : ∃ x, x = w.heap.size := ⟨_, rfl⟩
  have b0 : w0.heap[r]? = some (.cells #[.int .i64 0, .int .i64 0, .int .u32 0] 49 (0, 0)) := by rw [hw0, hr]; exact heap_alloc_eq _ _
  have C0 : Hid (Chg [] w w0) := Lib.hid (by rw [hw0]; exact (Chg.refl _ _).alloc _)
  have LR : Hid (w.heap.size ≤ r ∧ r < w0.heap.size) := Lib.hid (by rw [hw0, hr]; simp)
  rw [← hw0, ← hr]
  clear hw0 hr
  refine (HRB.out w0 (HR.out.frame C0.out (fun _ _ hm => by cases hm))).mono ?_
  rintro e w1 ⟨v, ps, base, rfl, ho, hm, hbs, hch⟩
  obtain ⟨aO, nO, cO, rfl⟩ := own_form ho.own
  have C1 := Lib.hid (C0.out.then hch)
  replace b0 := hch.heap b0 (by simp)
  have HBS : Hid (w0.heap.size ≤ base) := Lib.hid (hbs)
  have Ho := Lib.hid ho
  have Hm := Lib.hid hm
  clear ho hm
  clear hch hbs
  go_upto_region 2 with fail
  obtain ⟨w2, hw2⟩ : ∃ x, x = w1.alloc (.cells #[.int .i64 (S : Int), .int .i64 (N12 : Int), .int .u32 (N24 : Int), .int .i64 (N16 : Int), .int .i64 (N20 : Int)] 70) := ⟨_, rfl⟩
  obtain ⟨q, hq⟩ : ∃ x, x = w1.heap.size := ⟨_, rfl⟩
  have b2 : w2.heap[q]? = some (.cells #[.int .i64 (S : Int), .int .i64 (N12 : Int), .int .u32 (N24 : Int), .int .i64 (N16 : Int), .int .i64 (N20 : Int)] 70 (0, 0)) := by rw [hw2, hq]; exact heap_alloc_eq _ _
  have C2 : Hid (Chg [] w1 w2) := Lib.hid (by rw [hw2]; exact (Chg.refl _ _).alloc _)
  replace b0 := C2.out.heap b0 (by simp)
  rw [← hw2, ← hq]
  clear hw2 hq
  have d0 := cell_of_heap b2 0
  have d1 := cell_of_heap b2 1
  have d2 := cell_of_heap b2 2
  simp at d0 d1 d2
  refine wp_region_noPanic ?_
  refine wp_region_held_drew (S := fun w' => Chg [r] w2 w') (by kernel_rfl) ((Chg.refl _ _).drew) (fun hHeld => ?_)
  have hqr : q ∉ [r] := by
    intro hm
    rw [List.mem_singleton] at hm
    subst hm
    rw [b0] at b2
    simp at b2
  refine take_read (i := 0) (v := ?_) (by simp only [List.getElem?_toArray, List.getElem?_cons_zero]; rfl) (by kernel_rfl) (by kernel_rfl) (by kernel_rfl) (fun _ _ _ h => h) hHeld ?_ ?_
  rotate_left
  · intro w hSw
    go_simp
    try with_reducible rfl
  try simp only [Act.put, List.setIfInBounds_toArray, List.set_cons_zero, List.set_cons_succ]
  refine take_read (i := 1) (v := ?_) (by simp only [List.getElem?_toArray, List.getElem?_cons_succ, List.getElem?_cons_zero]; rfl) (by kernel_rfl) (by kernel_rfl) (by kernel_rfl) (fun _ _ _ h => h) hHeld ?_ ?_
  rotate_left
  · intro w hSw
    (have d0 := hSw.cell d0 hqr; have d1 := hSw.cell d1 hqr; have d2 := hSw.cell d2 hqr)
    go_simp
    try with_reducible rfl
  try simp only [Act.put, List.setIfInBounds_toArray, List.set_cons_zero, List.set_cons_succ]
  refine take_read (i := 2) (v := ?_) (by simp only [List.getElem?_toArray, List.getElem?_cons_succ, List.getElem?_cons_zero]; rfl) (by kernel_rfl) (by kernel_rfl) (by kernel_rfl) (fun _ _ _ h => h) hHeld ?_ ?_
  rotate_left
  · intro w hSw
    skip
    go_simp
    try with_reducible rfl
  try simp only [Act.put, List.setIfInBounds_toArray, List.set_cons_zero, List.set_cons_succ]
  refine take_read (i := 3) (v := ?_) (by simp only [List.getElem?_toArray, List.getElem?_cons_succ, List.getElem?_cons_zero]; rfl) (by kernel_rfl) (by kernel_rfl) (by kernel_rfl) (fun _ _ _ h => h) hHeld ?_ ?_
  rotate_left
  · intro w hSw
    skip
    go_simp
    try with_reducible rfl
  try simp only [Act.put, List.setIfInBounds_toArray, List.set_cons_zero, List.set_cons_succ]
  clear d0 d1 d2
  refine wpAnyH_ready (rs := [4]) (by kernel_rfl) (by simp) ?_
  refine AllReadyH.cons rfl (fun K hK => ?_) AllReadyH.nil
  go_simp
  refine (HCODE.out w2.drew (HG.out.frame (C1.out.then (C2.out.drew)) (by simp))).mono ?_
  rintro e w3 ⟨rfl, hch⟩
  have D3 : Hid (Chg [] w2 w3) := Lib.hid (((Chg.refl [] w2).drew).then hch)
  clear hch
  refine hK.out _ _ (show Chg [r] w2 w3 from D3.out.add) (fun _ => ?_)
  clear hK hHeld K
  have hHeld := (show Chg [r] w2 w3 from D3.out.add)
  try (unfold Act.put; simp only [List.setIfInBounds_toArray, List.set_cons_zero, List.set_cons_succ])
  replace b0 := D3.out.heap b0 (by simp)
  have f0 := frozen_of_heap b0 0
  have f1 := frozen_of_heap b0 1
  have f2 := frozen_of_heap b0 2
  have c0 := cell_of_heap b0 0
  have c1 := cell_of_heap b0 1
  have c2 := cell_of_heap b0 2
  simp at c0 c1 c2
  refine wpAnyH_ready (rs := [5]) (by kernel_rfl) (by simp) ?_
  refine AllReadyH.cons rfl (fun K hK => ?_) AllReadyH.nil
  go_simp
  obtain ⟨wH, hwH⟩ : ∃ x, x = ((w3.setCell ⟨r, 0, none⟩ (.int .i64 (S : Int))).setCell ⟨r, 1, none⟩ (.int .i64 (N12 : Int))).setCell ⟨r, 2, none⟩ (.int .u32 (N24 : Int)) := ⟨_, rfl⟩
  rw [← hwH]
  have bH : wH.heap[r]? = some (.cells #[.int .i64 (S : Int), .int .i64 (N12 : Int), .int .u32 (N24 : Int)] 49 (0, 0)) := by rw [hwH]; exact heap_setCell (heap_setCell (heap_setCell b0 0 _) 1 _) 2 _
  have DH : Hid (Chg [r] w2 wH) := Lib.hid (by rw [hwH]; exact (((D3.out.add).setCell _ _ (.inl (by simp))).setCell _ _ (.inl (by simp))).setCell _ _ (.inl (by simp)))
  clear hwH f0 f1 f2 c0 c1 c2
  refine hK.out _ _ DH.out (fun _ => ?_)
  clear hK hHeld K
  have hHeld := DH.out
  try (unfold Act.put; simp only [List.setIfInBounds_toArray, List.set_cons_zero, List.set_cons_succ])
  refine take_read (i := 6) (v := ?_) (by simp only [List.getElem?_toArray, List.getElem?_cons_succ, List.getElem?_cons_zero]; rfl) (by kernel_rfl) (by kernel_rfl) (by kernel_rfl) (fun _ _ _ h => h) hHeld ?_ ?_
  rotate_left
  · intro w hSw
    skip
    go_simp
    try with_reducible rfl
  try simp only [Act.put, List.setIfInBounds_toArray, List.set_cons_zero, List.set_cons_succ]
  refine take_read (i := 7) (v := ?_) (by simp only [List.getElem?_toArray, List.getElem?_cons_succ, List.getElem?_cons_zero]; rfl) (by kernel_rfl) (by kernel_rfl) (by kernel_rfl) (fun _ _ _ h => h) hHeld ?_ ?_
  rotate_left
  · intro w hSw
    skip
    go_simp
    try with_reducible rfl
  try simp only [Act.put, List.setIfInBounds_toArray, List.set_cons_zero, List.set_cons_succ]
  refine wpAnyH_done (by kernel_rfl) ?_ _
  refine NoPanic.normal ?_
  have g0 := cell_of_heap bH 0
  have g1 := cell_of_heap bH 1
  have g2 := cell_of_heap bH 2
  simp at g0 g1 g2
  clear b0 b2 hHeld bH
  go_wp2
  refine bodyPost_ret (v := .tuple #[.agg #[.int .i64 (S : Int), .int .i64 (N12 : Int), .int .u32 (N24 : Int)], .slice aO nO cO, .int .i64 E]) (by simp [results, Tryz.results22, go_sem, g0, g1, g2]) rfl ?_
  have lr := LR.out
  have hb := HBS.out
  exact ⟨.slice aO nO cO, ps, base, rfl, (Ho.out.frame C2.out (by simp)).frame DH.out (by simp; omega), Hm.out, by omega, (C1.out.then C2.out).new DH.out LR.out.1⟩

set_option maxHeartbeats 2000000 in
theorem Size_any (l : List UInt8) (a : Option Addr) (cap : Nat) (w : World) (hg : Env w) (rd : Rd w (.slice a l.length cap) (bytesV l)) (hl : l.length ≤ 70368744177664) :
    Calls Tryz.prog 12 #[.slice a l.length cap] w fun e w' => e = .returned (.tuple #[.int .u64 (rN l (32 + nL l 20) : Nat), .int .i64 (readE l)]) ∧ Chg [] w w' := by
  have HRB := Lib.hid (fun w rd => read_any l a cap w rd hl)
  have HR := Lib.hid rd
  have HG := Lib.hid hg
  clear rd hg
  unfold ReadAll at HRB
  have hnL := nL_lt l 20
  by_cases hE : readE l = 0
  · have h1 : rN l (32 + nL l 20) = 32 + nL l 20 := by unfold rN; rw [if_pos hE]
    have h2 : rN l (nL l 20) = nL l 20 := by unfold rN; rw [if_pos hE]
    rw [h1, hE]
    rw [h2, hE] at HRB
    rw [show errV 0 = Value.nilIface from rfl] at HRB
    clear h1 h2
    generalize rN l (hdSub l) = S at *
    generalize rN l (nL l 12) = N12 at *
    generalize rN l (nL l 24) = N24 at *
    generalize rN l (nL l 16) = N16 at *
    generalize nL l 20 = N20 at *
    have hw : IntKind.u64.wrap (N20 : Int) = (N20 : Int) := by rw [IntKind.wrap_u64]; omega
    have hw2 : IntKind.u64.wrap (32 + (N20 : Int)) = ((32 + N20 : Nat) : Int) := by rw [IntKind.wrap_u64]; omega
    clear hE
    go_enter Tryz.func12, Tryz.ntmps12
    go_wp2_with fail
    refine (HRB.out w HR.out).mono ?_
    rintro e w1 ⟨v, ps, base, rfl, ho, hm, hbs, hch⟩
    obtain ⟨aO, nO, cO, rfl⟩ := own_form ho.own
    have C1 := Lib.hid (hch)
    clear hch ho hm hbs
    go_wp2
    go_ret2
    exact ⟨by push_cast; rfl, C1.out.alloc _⟩
  · have h1 : rN l (32 + nL l 20) = 0 := by unfold rN; rw [if_neg hE]
    have h2 : errV (readE l) = .iface 33 (.int .i64 (readE l)) := by unfold errV; rw [if_neg hE]
    rw [h1]
    rw [h2] at HRB
    clear h1 h2
    generalize rN l (hdSub l) = S at *
    generalize rN l (nL l 12) = N12 at *
    generalize rN l (nL l 24) = N24 at *
    generalize rN l (nL l 16) = N16 at *
    generalize rN l (nL l 20) = N20 at *
    generalize readE l = E at *
    clear hE hnL
    go_enter Tryz.func12, Tryz.ntmps12
    go_wp2_with fail
    refine (HRB.out w HR.out).mono ?_
    rintro e w1 ⟨v, ps, base, rfl, ho, hm, hbs, hch⟩
    obtain ⟨aO, nO, cO, rfl⟩ := own_form ho.own
    have C1 := Lib.hid (hch)
    clear hch ho hm hbs
    go_wp2_with fail
    refine (Code_errno E _ (HG.out.frame (C1.out.alloc _) (by simp))).mono ?_
    rintro e w2 ⟨rfl, hch⟩
    have C2 := Lib.hid ((C1.out.alloc _).then hch)
    clear hch
    go_wp2
    go_ret2
    exact ⟨rfl, C2.out⟩
end Go.Proofs.YtgjlgamlmmjdpaaGreatDoor
/- Records: headers (printed by mkrecs4.sh). -/
namespace Go.Proofs.YtgjlgamlmmjdpaaGreatDoor
open Go.RowKit
set_option maxRecDepth 100000

/-- A record Hdr. -/
structure Hdr where
  sub : Int
  kind : Int
  flags : Int
def Hdr.cells (s : Hdr) : List Value := [.int .i64 s.sub, .int .i64 s.kind, .int .u32 s.flags]
abbrev Hdr.v (s : Hdr) : Value := .agg #[.int .i64 s.sub, .int .i64 s.kind, .int .u32 s.flags]
/-- Its numbers are of their kinds. -/
def Hdr.wf (s : Hdr) : Prop := (Lit.int .i64 s.sub).wf = true ∧ (Lit.int .i64 s.kind).wf = true ∧ (Lit.int .u32 s.flags).wf = true
def Hdr.zero : Hdr := ⟨0, 0, 0⟩
def hdrL : Lay Hdr := ⟨3, Hdr.cells, Hdr.zero, fun _ => rfl, by decide, fun x u hu => by
  simp only [Hdr.cells, List.mem_cons, List.not_mem_nil, or_false] at hu
  rcases hu with rfl | rfl | rfl <;> rfl⟩
theorem Hdr.at {w : World} {b o : Nat} {s : Hdr} (h : hdrL.In w b o s) : w.cell? ⟨b, o, none⟩ = some (.int .i64 s.sub) ∧ w.cell? ⟨b, o + 1, none⟩ = some (.int .i64 s.kind) ∧ w.cell? ⟨b, o + 2, none⟩ = some (.int .u32 s.flags) :=
  ⟨h 0 (by decide), h 1 (by decide), h 2 (by decide)⟩
theorem Hdr.at0 {w : World} {b : Nat} {s : Hdr} (h : hdrL.In w b 0 s) : w.cell? ⟨b, 0, none⟩ = some (.int .i64 s.sub) ∧ w.cell? ⟨b, 1, none⟩ = some (.int .i64 s.kind) ∧ w.cell? ⟨b, 2, none⟩ = some (.int .u32 s.flags) := by
  obtain ⟨h0, h1, h2⟩ := Hdr.at h
  simp only [Nat.zero_add] at h1 h2
  exact ⟨h0, h1, h2⟩
theorem Hdr.boxed (w : World) (s : Hdr) (T : TypeId) : hdrL.In (w.alloc (.cells #[.int .i64 s.sub, .int .i64 s.kind, .int .u32 s.flags] T)) w.heap.size 0 s := fun c _ => by
  rw [cell_of_heap (heap_alloc_eq w _), Nat.zero_add]
  exact List.getElem?_toArray ..
/-- A record in a block of its own: made, written, a field written. -/
theorem Hdr.box (w : World) (s : Hdr) (T : TypeId) : hdrL.Box (w.alloc (.cells #[.int .i64 s.sub, .int .i64 s.kind, .int .u32 s.flags] T)) w.heap.size s := Lay.Box.of_alloc (L := hdrL) w s T
theorem Hdr.boxAt (w : World) (s : Hdr) (T : TypeId) {b : Nat} (hb : b = w.heap.size) : hdrL.Box (w.alloc (.cells #[.int .i64 s.sub, .int .i64 s.kind, .int .u32 s.flags] T)) b s := by rw [hb]; exact Hdr.box w s T
theorem Hdr.put0 {w : World} {g : Nat} {y : Hdr} (h : hdrL.Box w g y) (s : Hdr) : hdrL.Box (((w.setCell ⟨g, 0, none⟩ (.int .i64 s.sub)).setCell ⟨g, 1, none⟩ (.int .i64 s.kind)).setCell ⟨g, 2, none⟩ (.int .u32 s.flags)) g s := Lay.Box.put h s
theorem Hdr.chg0 (w : World) (g : Nat) (s : Hdr) : Chg [g] w (((w.setCell ⟨g, 0, none⟩ (.int .i64 s.sub)).setCell ⟨g, 1, none⟩ (.int .i64 s.kind)).setCell ⟨g, 2, none⟩ (.int .u32 s.flags)) := Lay.setW_chg g s.cells w 0
theorem Hdr.set_sub {w : World} {g : Nat} {s : Hdr} (h : hdrL.Box w g s) (x : Int) : hdrL.Box (w.setCell ⟨g, 0, none⟩ (.int .i64 x)) g { s with sub := x } := Lay.Box.set h 0 _ _ rfl
theorem Hdr.set_kind {w : World} {g : Nat} {s : Hdr} (h : hdrL.Box w g s) (x : Int) : hdrL.Box (w.setCell ⟨g, 1, none⟩ (.int .i64 x)) g { s with kind := x } := Lay.Box.set h 1 _ _ rfl
theorem Hdr.set_flags {w : World} {g : Nat} {s : Hdr} (h : hdrL.Box w g s) (x : Int) : hdrL.Box (w.setCell ⟨g, 2, none⟩ (.int .u32 x)) g { s with flags := x } := Lay.Box.set h 2 _ _ rfl
theorem Hdr.c_sub {w : World} {b : Nat} {s : Hdr} (h : hdrL.Box w b s) : w.cell? ⟨b, 0, none⟩ = some (.int .i64 s.sub) := by have := h.in 0 (by decide); rw [Nat.zero_add] at this; exact this
theorem Hdr.c_kind {w : World} {b : Nat} {s : Hdr} (h : hdrL.Box w b s) : w.cell? ⟨b, 1, none⟩ = some (.int .i64 s.kind) := by have := h.in 1 (by decide); rw [Nat.zero_add] at this; exact this
theorem Hdr.c_flags {w : World} {b : Nat} {s : Hdr} (h : hdrL.Box w b s) : w.cell? ⟨b, 2, none⟩ = some (.int .u32 s.flags) := by have := h.in 2 (by decide); rw [Nat.zero_add] at this; exact this
theorem Hdr.at0B {w : World} {b : Nat} {s : Hdr} (h : hdrL.Box w b s) : w.cell? ⟨b, 0, none⟩ = some (.int .i64 s.sub) ∧ w.cell? ⟨b, 1, none⟩ = some (.int .i64 s.kind) ∧ w.cell? ⟨b, 2, none⟩ = some (.int .u32 s.flags) := Hdr.at0 h.in
end Go.Proofs.YtgjlgamlmmjdpaaGreatDoor
/- load.Image, whatever the bytes. -/
namespace Go.Proofs.YtgjlgamlmmjdpaaGreatDoor
open Go.RowKit
set_option maxRecDepth 100000

theorem Tryz.tIm : Lay.Ty imgL Tryz.prog 32 := Lay.Ty.mk' (by kernel_rfl) (by kernel_rfl)
theorem Tryz.tHdr : Lay.Ty hdrL Tryz.prog 49 := Lay.Ty.mk' (by kernel_rfl) (by kernel_rfl)
theorem Tryz.tCmr : Lay.Ty cmrL Tryz.prog 67 := Lay.Ty.mk' (by kernel_rfl) (by kernel_rfl)
/-- Commands in a row: the error of the first one that is not taken in; what was told behind all. -/
def tellE (p : TP) : List (List UInt8) → Int
  | [] => 0
  | l :: r => if tE p l = 0 then tellE (tS p l) r else tE p l
def tellS (p : TP) : List (List UInt8) → TP
  | [] => p
  | l :: r => tellS (tS p l) r
def slOf : Value → SlV
  | .slice a n c => ⟨a, n, c⟩
  | _ => ⟨none, 0, 0⟩
theorem cmr_rd {W : World} {base : Nat} {v : Value} {ps : List (Cmd × Value)} (h : OutC W base v ps) : ∃ cs : List Cmr, cs.length = ps.length ∧ cmrL.Buf 67 W base v cs ∧ ∀ k, k < ps.length → byteL.Rd W (.slice (cs.getD k .zero).bytes.a (cs.getD k .zero).bytes.n (cs.getD k .zero).bytes.cap) ((ps.map fun p => p.1.2).getD k []) := by
  have hsl : ∀ p ∈ ps, p.2 = .slice (slOf p.2).a (slOf p.2).n (slOf p.2).cap := by
    intro p hp
    obtain ⟨a, m, c, e⟩ := own_form (h.each p hp)
    rw [e]
    rfl
  have hv : ∀ qs : List (Cmd × Value), (∀ p ∈ qs, p.2 = .slice (slOf p.2).a (slOf p.2).n (slOf p.2).cap) → cmdV qs = cmrL.vals (qs.map fun p => (⟨(p.1.1 : Nat), slOf p.2⟩ : Cmr)) := by
    intro qs
    induction qs with
    | nil => intro _; rfl
    | cons q r ih =>
      intro hq
      have h1 := ih (fun p hp => hq p (List.mem_cons_of_mem _ hp))
      have h2 := hq q (List.mem_cons_self ..)
      rw [List.map_cons, Lay.vals_cons, ← h1]
      show [.int .u32 (q.1.1 : Nat), q.2] ++ cmdV r = [.int .u32 (q.1.1 : Nat), .slice (slOf q.2).a (slOf q.2).n (slOf q.2).cap] ++ cmdV r
      rw [← h2]
  refine ⟨ps.map fun p => (⟨(p.1.1 : Nat), slOf p.2⟩ : Cmr), by simp, ?_, fun k hk => ?_⟩
  · have h1 := h.own
    rw [hv ps hsl] at h1
    unfold Lay.Buf
    rw [List.length_map]
    exact h1
  · have hm := List.getElem_mem hk
    have h1 := h.each _ hm
    have h2 := hsl _ hm
    have e1 : (ps.map fun p => (⟨(p.1.1 : Nat), slOf p.2⟩ : Cmr)).getD k .zero = ⟨(ps[k].1.1 : Nat), slOf ps[k].2⟩ := by simp [List.getD_eq_getElem?_getD, hk]
    have e2 : (ps.map fun p => p.1.2).getD k [] = ps[k].1.2 := by simp [List.getD_eq_getElem?_getD, hk]
    rw [e1, e2]
    have h3 := Rd_to_byte (Rd.owned h1)
    rw [h2] at h3
    exact h3
/-- An image in memory, as plain data. -/
def DImg (w : World) (base : Nat) (m : Img) (p : TP) : Prop := ∃ xs, m.bare = p.m ∧ segL.Buf 42 w base (.slice m.segs.a m.segs.n m.segs.cap) xs ∧ SecsIn w base xs p.segs ∧ depL.Buf 57 w base (.slice m.deps.a m.deps.n m.deps.cap) p.deps
theorem DImg.frame {w w' : World} {base : Nat} {m : Img} {p : TP} (h : DImg w base m p) (k : Chg [] w w') : DImg w' base m p := by
  obtain ⟨xs, h1, h2, h3, h4⟩ := h
  exact ⟨xs, h1, h2.pure k, h3.pure k, h4.pure k⟩
theorem DImg.mono {w : World} {base base' : Nat} {m : Img} {p : TP} (h : DImg w base m p) (hb : base' ≤ base) : DImg w base' m p := by
  obtain ⟨xs, h1, h2, h3, h4⟩ := h
  exact ⟨xs, h1, h2.mono hb, ⟨h3.1, fun i hi => ⟨(h3.2 i hi).1, (h3.2 i hi).2.mono hb⟩⟩, h4.mono hb⟩
theorem TInv.img {w1 w : World} {base bt bs : Nat} {p : TP} {t : Tel} {xs : List Seg} (h : TInv w1 base bt bs p t xs w) : DImg w base t.m p := ⟨xs, h.m, h.sg, h.ks, h.dp⟩
theorem Tel.in_m {w : World} {g : Nat} {t : Tel} (h : telL.Box w g t) : imgL.In w g 0 t.m := fun c hc => by
  have hc' : c < 24 := hc
  have h1 := h.in c (Nat.lt_of_lt_of_le hc' (by decide : 24 ≤ 26))
  rw [h1]
  show (t.m.cells ++ [.map t.seen, .int .i64 t.secs])[c]? = t.m.cells[c]?
  rw [List.getElem?_append_left hc']
/-- What bytes tell ahead of their commands. -/
def tp0 (l : List UInt8) : TP := ⟨{ Img.zero with kind := (nL l 12 : Nat), sub := (hdSub l : Nat), flags := (nL l 24 : Nat) }, [], [], fun _ => false, 0⟩
def cmdLs (l : List UInt8) : List (List UInt8) := (readCs l).map Prod.snd
def imgE (l : List UInt8) : Int := if readE l = 0 then tellE (tp0 l) (cmdLs l) else readE l
def imgP (l : List UInt8) : TP := tellS (tp0 l) (cmdLs l)
def ImgSays (l : List UInt8) (w : World) (e : Ending) (w' : World) : Prop := ∃ m : Img, e = .returned (.tuple #[imgL.val m, .int .i64 (imgE l)]) ∧ Chg [] w w' ∧ (imgE l = 0 → DImg w' w.heap.size m (imgP l)) ∧ (¬ imgE l = 0 → m = .zero)
set_option maxHeartbeats 4000000 in
theorem Image_bad (l : List UInt8) (hE : ¬ readE l = 0) (hl : l.length ≤ 70368744177664) (a : Option Addr) (cap : Nat) (w : World) (hg : Env w) (rd : byteL.Rd w (.slice a l.length cap) l) :
    Calls Tryz.prog 11 #[.slice a l.length cap] w (ImgSays l w) := by
  have hrd := fun w hg rd => Read_any l a cap w hg rd hl
  unfold ReadsAll at hrd
  unfold ImgSays imgE
  rw [if_neg hE]
  obtain ⟨E, hEE⟩ : ∃ E, E = readE l := ⟨_, rfl⟩
  rw [← hEE] at hE hrd ⊢
  have d0 : (E != 0) = true := by rw [bne_iff_ne]; exact hE
  have HE := Lib.hid hE
  have HRD := Lib.hid hrd
  have Hg := Lib.hid hg
  have RD := Lib.hid rd
  have HEE := Lib.hid hEE
  have Hl := Lib.hid hl
  clear hE hrd hg rd hEE hl
  go_enter Tryz.func11, Tryz.ntmps11
  go_wp2_with ((with_reducible refine Lay.alL Tryz.tIm ?_); intro Wa ba eba cba xba; replace eba := Lib.hid eba; replace cba := Lib.hid cba; replace xba := Lib.hid xba; refine Hid.out ?_)
  refine Lib.hid ?_
  go_wp2_with fail
  refine (HRD.out Wa (Hg.out.frame cba.out (by simp)) (Rd_of_byte (RD.out.frame cba.out))).mono ?_
  rintro e W1 ⟨v, ps, base, rfl, ho, hm, hb, hch⟩
  have C1 := Lib.hid (cba.out.then hch)
  have XA1 := Lib.hid (xba.out.frame hch)
  clear hm hb hch
  obtain ⟨va, vn, vc, rfl⟩ := own_form ho.own
  clear ho
  go_wp2_with ((with_reducible refine Lay.alL Tryz.tHdr ?_); intro W2 bh ebh cbh xbh; replace ebh := Lib.hid ebh; replace cbh := Lib.hid cbh; replace xbh := Lib.hid xbh; refine Hid.out ?_)
  refine Lib.hid ?_
  go_wp2_with ((with_reducible refine Lay.stL Tryz.tHdr (⟨(rN l (hdSub l) : Nat), (rN l (nL l 12) : Nat), (rN l (nL l 24) : Nat)⟩ : Hdr) (xbh.out) ?_ ?_ ?_); exact rfl; exact rfl; intro W3 cW3 xW3; replace cW3 := Lib.hid cW3; replace xW3 := Lib.hid xW3; refine Hid.out ?_)
  refine Lib.hid ?_
  have C3 := Lib.hid (C1.out.then (cbh.out.new cW3.out (by rw [ebh.out]; exact Nat.le_refl _)))
  have XA3 := Lib.hid (XA1.out.frame (cbh.out.new cW3.out (by rw [ebh.out]; exact Nat.le_refl _)))
  go_wp2_with ((with_reducible refine Lay.stL Tryz.tIm Img.zero (XA3.out) ?_ ?_ ?_); exact rfl; exact rfl; intro W4 cW4 xW4; replace cW4 := Lib.hid cW4; replace xW4 := Lib.hid xW4; refine Hid.out ?_)
  refine Lib.hid ?_
  go_wp2
  refine Lay.ret2 Tryz.tIm rfl xW4.out rfl rfl ?_
  exact ⟨_, rfl, C3.out.new cW4.out (by rw [eba.out]; exact Nat.le_refl _), fun h => absurd h HE.out, fun _ => rfl⟩
/-- The loop's state. -/
structure ImR (w1 : World) (base bt bs : Nat) (ls : List (List UInt8)) (p0 : TP) (k : Nat) (pk : TP) (wr : World) : Prop where
  e : tellE pk (ls.drop k) = tellE p0 ls
  s : tellS pk (ls.drop k) = tellS p0 ls
  i : ∃ t xs, TInv w1 base bt bs pk t xs wr
theorem cmdLs_len (l : List UInt8) (hl : l.length ≤ 70368744177664) (k : Nat) : ((cmdLs l).getD k []).length ≤ 140737488355328 := by
  rw [List.getD_eq_getElem?_getD]
  by_cases h : k < (cmdLs l).length
  · rw [List.getElem?_eq_getElem h]
    have hm := List.getElem_mem h
    simp only [Option.getD_some]
    generalize (cmdLs l)[k] = x at hm
    unfold cmdLs readCs at hm
    split at hm
    · unfold cmdsC at hm
      simp only [List.map_map, List.mem_map, Function.comp] at hm
      obtain ⟨i, _, rfl⟩ := hm
      unfold cmdC
      simp only [List.length_take, List.length_drop]
      omega
    · simp at hm
  · rw [List.getElem?_eq_none (by omega)]
    simp
theorem DImg.low {w w' : World} {base : Nat} {m : Img} {p : TP} {S : List Nat} (h : DImg w base m p) (k : Chg S w w') (hS : ∀ i ∈ S, i < base) : DImg w' base m p := by
  obtain ⟨xs, h1, h2, h3, h4⟩ := h
  exact ⟨xs, h1, h2.frame k (fun b hb hm => by have := (h2.lt b hb).1; have := hS b hm; omega), h3.low k hS, h4.frame k (fun b hb hm => by have := (h4.lt b hb).1; have := hS b hm; omega)⟩
theorem drop_getD {α : Type} (l : List α) (k : Nat) (d : α) (h : k < l.length) : l.drop k = l.getD k d :: l.drop (k + 1) := by
  rw [List.drop_eq_getElem_cons h]
  simp [List.getD_eq_getElem?_getD, h]
set_option maxHeartbeats 8000000 in
theorem Image_good (l : List UInt8) (hE : readE l = 0) (hl : l.length ≤ 70368744177664) (a : Option Addr) (cap : Nat) (w : World) (hg : Env w) (rd : byteL.Rd w (.slice a l.length cap) l) :
    Calls Tryz.prog 11 #[.slice a l.length cap] w (ImgSays l w) := by
  have hrd := fun w hg rd => Read_any l a cap w hg rd hl
  unfold ReadsAll at hrd
  have hrn : ∀ n, rN l n = n := fun n => by unfold rN; rw [if_pos hE]
  simp only [hrn, hE] at hrd
  unfold ImgSays imgE imgP
  rw [if_pos hE]
  obtain ⟨p0, hp0⟩ : ∃ p0, p0 = tp0 l := ⟨_, rfl⟩
  obtain ⟨ls, hls⟩ : ∃ ls, ls = cmdLs l := ⟨_, rfl⟩
  rw [← hp0, ← hls]
  obtain ⟨K, hK⟩ : ∃ K : Nat, K = nL l 12 := ⟨_, rfl⟩
  obtain ⟨S, hS⟩ : ∃ S : Nat, S = hdSub l := ⟨_, rfl⟩
  obtain ⟨F, hF⟩ : ∃ F : Nat, F = nL l 24 := ⟨_, rfl⟩
  rw [← hK, ← hS, ← hF] at hrd
  have hp0' : p0 = ⟨{ Img.zero with kind := K, sub := S, flags := F }, [], [], fun _ => false, 0⟩ := by rw [hp0, hK, hS, hF]; rfl
  have hmem : ∀ k, (ls.getD k []).length ≤ 140737488355328 := fun k => by rw [hls]; exact cmdLs_len l hl k
  have HE := Lib.hid hE
  have HRD := Lib.hid hrd
  have Hg := Lib.hid hg
  have RD := Lib.hid rd
  have Hl := Lib.hid hl
  have HK := Lib.hid hK
  have HS := Lib.hid hS
  have HF := Lib.hid hF
  have Hrn := Lib.hid hrn
  have Hp0 := Lib.hid hp0
  have Hls := Lib.hid hls
  have HP0 := Lib.hid hp0'
  have HMEM := Lib.hid hmem
  clear hE hrd hg rd hl hK hS hF hrn hp0 hls hp0' hmem
  go_enter Tryz.func11, Tryz.ntmps11
  go_wp2_with ((with_reducible refine Lay.alL Tryz.tIm ?_); intro Wa ba eba cba xba; replace eba := Lib.hid eba; replace cba := Lib.hid cba; replace xba := Lib.hid xba; refine Hid.out ?_)
  refine Lib.hid ?_
  go_wp2_with fail
  refine (HRD.out Wa (Hg.out.frame cba.out (by simp)) (Rd_of_byte (RD.out.frame cba.out))).mono ?_
  rintro e W1 ⟨v, ps, base1, rfl, ho, hm, hb, hch⟩
  have C1 := Lib.hid (cba.out.then hch)
  have XA1 := Lib.hid (xba.out.frame hch)
  obtain ⟨cs, hcl, hbf, hrds⟩ := cmr_rd ho
  have hlp : ps.map (fun p => p.1.2) = ls := by rw [Hls.out]; unfold cmdLs; rw [← hm]; simp
  have hln : cs.length = ls.length := by rw [hcl, ← hlp]; simp
  rw [hlp] at hrds
  have hrds2 : ∀ k, k < cs.length → byteL.Rd W1 (.slice (cs.getD k .zero).bytes.a (cs.getD k .zero).bytes.n (cs.getD k .zero).bytes.cap) (ls.getD k []) := fun k hk => hrds k (by rw [← hcl]; exact hk)
  obtain ⟨va, vc, rfl, hvc1, hvc2⟩ := hbf.rd.shape
  have CB := Lib.hid hbf
  have CR := Lib.hid hrds2
  have HLN := Lib.hid hln
  clear hbf hrds2 hln
  clear ho hm hb hch hcl hrds hlp hvc1 hvc2
  go_wp2_with ((with_reducible refine Lay.alL Tryz.tHdr ?_); intro W2 bh ebh cbh xbh; replace ebh := Lib.hid ebh; replace cbh := Lib.hid cbh; replace xbh := Lib.hid xbh; refine Hid.out ?_)
  refine Lib.hid ?_
  go_wp2_with ((with_reducible refine Lay.stL Tryz.tHdr (⟨(S : Nat), (K : Nat), (F : Nat)⟩ : Hdr) (xbh.out) ?_ ?_ ?_); exact rfl; exact rfl; intro W3 cW3 xW3; replace cW3 := Lib.hid cW3; replace xW3 := Lib.hid xW3; refine Hid.out ?_)
  refine Lib.hid ?_
  have c13 := cbh.out.new cW3.out (by rw [ebh.out]; exact Nat.le_refl _)
  have C3 := Lib.hid (C1.out.then c13)
  have XA3 := Lib.hid (XA1.out.frame c13)
  have CB3 := Lib.hid (CB.out.pure c13)
  have CR3 := Lib.hid (fun k hk => (CR.out k hk).frame c13)
  clear c13
  have y0 := Hdr.c_sub xW3.out
  have y1 := Hdr.c_kind xW3.out
  have y2 := Hdr.c_flags xW3.out
  go_wp2_with ((with_reducible refine Map.mkL (Map.intK .u32) 63 ?_); intro W4 bs ebs cbs mbs; replace ebs := Lib.hid ebs; replace cbs := Lib.hid cbs; replace mbs := Lib.hid mbs; refine Hid.out ?_)
  refine Lib.hid ?_
  go_wp2_with ((with_reducible refine Lay.bxL (L := telL) 65 (⟨{ Img.zero with kind := K, sub := S, flags := F }, some bs, 0⟩ : Tel) ?_ ?_); exact rfl; intro W5 bt ebt cbt xbt; replace ebt := Lib.hid ebt; replace cbt := Lib.hid cbt; replace xbt := Lib.hid xbt; refine Hid.out ?_)
  refine Lib.hid ?_
  obtain ⟨base, hbase⟩ : ∃ base, base = W5.heap.size := ⟨_, rfl⟩
  have hT : TInv W3 base bt bs p0 ⟨{ Img.zero with kind := K, sub := S, flags := F }, some bs, 0⟩ [] W5 := by
    have q1 := mbs.out.lt
    have q2 := xbt.out.lt
    have q3 := ebs.out
    have q4 := ebt.out
    have q5 := cbs.out.size
    rw [HP0.out]
    exact ⟨xbt.out, rfl, rfl, rfl, Lay.Buf.nil _ _, SecsIn.nil _ _, Lay.Buf.nil _ _, (mbs.out.frame cbt.out).congr (fun k => rfl), by omega, by omega, by omega, by omega, by omega, by omega, Nat.zero_le _, Nat.zero_le _, Nat.zero_le _, cbs.out.then cbt.out⟩
  have hba : ba < base := by have := XA3.out.lt; have := hT.chg.size; have := hT.o4; omega
  have HT := Lib.hid hT
  have Hbase := Lib.hid hbase
  have Hba := Lib.hid hba
  clear hT hbase hba
  clear y0 y1 y2
  go_wp2_with fail
  go_loopw [33] (fun s33 wr => ∃ (k : Nat) (pk : TP), k ≤ cs.length ∧ s33 = .int .i64 (k : Int) ∧ ImR W3 base bt bs ls p0 k pk wr) (fun s33 _ => cs.length - (intOf s33).toNat)
  case atStart => exact ⟨0, p0, Nat.zero_le _, rfl, rfl, rfl, _, _, HT.out⟩
  case round =>
    obtain ⟨k, pk, hk, rfl, hr⟩ := hrel
    by_cases hlt : k < cs.length
    · obtain ⟨he, hs, t, xs, hti⟩ := hr
      obtain ⟨g, cap', hsl, _, _, _, _, _, _, hIn⟩ := CB3.out.at (by omega)
      injection hsl with hsl1 hsl2 hsl3
      subst hsl1
      clear hsl2 hsl3
      have hI := (hIn k hlt).frame hti.chg
      obtain ⟨x, hx⟩ : ∃ x, x = cs.getD k cmrL.d := ⟨_, rfl⟩
      rw [← hx] at hI
      have hrk := CR3.out k hlt
      rw [show cs.getD k Cmr.zero = x from hx.symm] at hrk
      rw [drop_getD ls k [] (by rw [← HLN.out]; exact hlt)] at he hs
      have hlk := HMEM.out k
      obtain ⟨lk, hlkk⟩ : ∃ lk, lk = ls.getD k [] := ⟨_, rfl⟩
      rw [← hlkk] at hrk he hs hlk
      rw [show tellS pk (lk :: ls.drop (k + 1)) = tellS (tS pk lk) (ls.drop (k + 1)) from rfl] at hs
      rw [show tellE pk (lk :: ls.drop (k + 1)) = if tE pk lk = 0 then tellE (tS pk lk) (ls.drop (k + 1)) else tE pk lk from rfl] at he
      have htell := fun w t xs h => tell_any x lk hlk W3 base bt bs pk t xs w h (Hg.out.frame C3.out (by simp)) hrk
      obtain ⟨E, hEq⟩ : ∃ E, E = tE pk lk := ⟨_, rfl⟩
      rw [← hEq] at he htell
      have Hs := Lib.hid hs
      have TI := Lib.hid hti
      have HI := Lib.hid hI
      have Hrk := Lib.hid hrk
      have Hx := Lib.hid hx
      have Hlkk := Lib.hid hlkk
      have Hlk := Lib.hid hlk
      have Htell := Lib.hid htell
      have HEq := Lib.hid hEq
      have HIn := Lib.hid hIn
      clear hs hti hI hrk hx hlkk hlk htell hEq hIn
      by_cases h0 : E = 0
      · subst h0
        rw [if_pos rfl] at he
        have He := Lib.hid he
        clear he
        go_wp2_with ((with_reducible refine Lay.ldL Tryz.tCmr x (HI.out) ?_ ?_); exact rfl; refine Hid.out ?_)
        refine Lib.hid ?_
        go_wp2_with ((with_reducible refine Lay.alL Tryz.tCmr ?_); intro Wb bx ebx cbx xbx; replace ebx := Lib.hid ebx; replace cbx := Lib.hid cbx; replace xbx := Lib.hid xbx; refine Hid.out ?_)
        refine Lib.hid ?_
        go_wp2_with ((with_reducible refine Lay.stL Tryz.tCmr x (xbx.out) ?_ ?_ ?_); exact rfl; exact rfl; intro Wc cWc xWc; replace cWc := Lib.hid cWc; replace xWc := Lib.hid xWc; refine Hid.out ?_)
        refine Lib.hid ?_
        have TC := Lib.hid (TI.out.pure (cbx.out.new cWc.out (by rw [ebx.out]; exact Nat.le_refl _)))
        go_wp2_with ((with_reducible refine Lay.ldL Tryz.tCmr x (xWc.out.in) ?_ ?_); exact rfl; refine Hid.out ?_)
        refine Lib.hid ?_
        go_wp2_with fail
        refine (Htell.out Wc _ _ TC.out).mono ?_
        rintro e Wd ⟨rfl, hc, ht⟩
        have Hc := Lib.hid hc
        have Ht := Lib.hid ht
        clear hc ht
        go_wp2
        go_roundw
        case rel => exact ⟨k + 1, tS pk lk, hlt, by go_num, He.out, Hs.out, Ht.out trivial⟩
        case measure => simp [intOf]; omega
      · have d0 : (E != 0) = true := by rw [bne_iff_ne]; exact h0
        rw [if_neg h0] at he
        have H0 := Lib.hid h0
        have HEE := Lib.hid he
        clear h0 he
        go_wp2_with ((with_reducible refine Lay.ldL Tryz.tCmr x (HI.out) ?_ ?_); exact rfl; refine Hid.out ?_)
        refine Lib.hid ?_
        go_wp2_with ((with_reducible refine Lay.alL Tryz.tCmr ?_); intro Wb bx ebx cbx xbx; replace ebx := Lib.hid ebx; replace cbx := Lib.hid cbx; replace xbx := Lib.hid xbx; refine Hid.out ?_)
        refine Lib.hid ?_
        go_wp2_with ((with_reducible refine Lay.stL Tryz.tCmr x (xbx.out) ?_ ?_ ?_); exact rfl; exact rfl; intro Wc cWc xWc; replace cWc := Lib.hid cWc; replace xWc := Lib.hid xWc; refine Hid.out ?_)
        refine Lib.hid ?_
        have TC := Lib.hid (TI.out.pure (cbx.out.new cWc.out (by rw [ebx.out]; exact Nat.le_refl _)))
        go_wp2_with ((with_reducible refine Lay.ldL Tryz.tCmr x (xWc.out.in) ?_ ?_); exact rfl; refine Hid.out ?_)
        refine Lib.hid ?_
        go_wp2_with fail
        refine (Htell.out Wc _ _ TC.out).mono ?_
        rintro e Wd ⟨rfl, hc, ht⟩
        have XAd := Lib.hid (XA3.out.frame hc)
        have CD := Lib.hid (C3.out.then hc)
        clear hc ht
        go_wp2_with ((with_reducible refine Lay.stL Tryz.tIm Img.zero (XAd.out) ?_ ?_ ?_); exact rfl; exact rfl; intro WE cWE xWE; replace cWE := Lib.hid cWE; replace xWE := Lib.hid xWE; refine Hid.out ?_)
        refine Lib.hid ?_
        go_wp2
        refine Lay.ret2 Tryz.tIm rfl xWE.out rfl rfl ?_
        exact ⟨_, by rw [HEE.out]; rfl, CD.out.new cWE.out (by rw [eba.out]; exact Nat.le_refl _), fun h => absurd (HEE.out.trans h) H0.out, fun _ => rfl⟩
    · obtain rfl : k = cs.length := by omega
      obtain ⟨he, hs, t, xs, hti⟩ := hr
      rw [List.drop_eq_nil_of_le (by rw [HLN.out]; exact Nat.le_refl _)] at he hs
      rw [show tellS pk [] = pk from rfl] at hs
      rw [show tellE pk [] = 0 from rfl] at he
      subst hs
      have He := Lib.hid he
      have TI := Lib.hid hti
      clear he hti
      have XAd := Lib.hid (XA3.out.frame TI.out.chg)
      go_wp2_with ((with_reducible refine Lay.ldL Tryz.tIm t.m (Tel.in_m TI.out.box) ?_ ?_); exact rfl; refine Hid.out ?_)
      refine Lib.hid ?_
      go_wp2_with ((with_reducible refine Lay.stL Tryz.tIm t.m (XAd.out) ?_ ?_ ?_); exact rfl; exact rfl; intro WE cWE xWE; replace cWE := Lib.hid cWE; replace xWE := Lib.hid xWE; refine Hid.out ?_)
      refine Lib.hid ?_
      go_wp2
      refine Lay.ret2 Tryz.tIm rfl xWE.out rfl rfl ?_
      refine ⟨_, by rw [← He.out]; rfl, (C3.out.then TI.out.chg).new cWE.out (by rw [eba.out]; exact Nat.le_refl _), fun _ => (TI.out.img.low cWE.out (by simp; exact Hba.out)).mono ?_, fun h => absurd He.out.symm h⟩
      have h1 := C3.out.size
      have h2 := HT.out.chg.size
      have h3 := Hbase.out
      omega
/-- load.Image, whatever the bytes. -/
theorem Image_any (l : List UInt8) (hl : l.length ≤ 70368744177664) (a : Option Addr) (cap : Nat) (w : World) (hg : Env w) (rd : byteL.Rd w (.slice a l.length cap) l) :
    Calls Tryz.prog 11 #[.slice a l.length cap] w (ImgSays l w) := by
  by_cases h : readE l = 0
  · exact Image_good l h hl a cap w hg rd
  · exact Image_bad l h hl a cap w hg rd
end Go.Proofs.YtgjlgamlmmjdpaaGreatDoor
