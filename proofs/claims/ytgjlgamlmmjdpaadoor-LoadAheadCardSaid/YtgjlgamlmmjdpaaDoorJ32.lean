/- Lemmas, laid together: part 32 of 38. Conditions: none but each lemma's own. -/
import Derived.Test.YtgjlgamlmmjdpaaDoorJ28
import Derived.Test.YtgjlgamlmmjdpaaDoorJ31
import Derived.Test.YtgjlgamlmmjdpaaDoorJ3
/- command.read, Read, Size of any bytes. -/
namespace Go.Proofs.YtgjlgamlmmjdpaaDoor
open Go.RowKit Go.Extern.Stop Go.Stop Go.Extern
set_option maxRecDepth 100000

/-- The error, the numbers, the commands that bytes have as a header and commands. -/
def readE (l : List UInt8) : Int := if headE l = 0 then (if allC l (nL l 20) (nL l 16) = true then 0 else 7) else headE l
def rN (l : List UInt8) (n : Nat) : Nat := if readE l = 0 then n else 0
def readCs (l : List UInt8) : List Cmd := if readE l = 0 then cmdsC l (nL l 20) (nL l 16) else []
theorem headE_nn (l : List UInt8) : 0 ≤ headE l ∧ headE l < 100 := by
  unfold headE
  (repeat' split) <;> omega
theorem readE_nn (l : List UInt8) : 0 ≤ readE l ∧ readE l < 100 := by
  have := headE_nn l
  unfold readE
  (repeat' split) <;> omega
def errV (n : Int) : Value := if n = 0 then .nilIface else .iface 38 (.int .i64 n)

/-- What command.read says of any bytes. -/
def ReadAll (l : List UInt8) (w : World) (e : Ending) (w' : World) : Prop :=
  ∃ v ps base, e = .returned (.tuple #[.agg #[.int .i64 (rN l (hdSub l) : Nat), .int .i64 (rN l (nL l 12) : Nat), .int .u32 (rN l (nL l 24) : Nat), .int .i64 (rN l (nL l 16) : Nat), .int .i64 (rN l (nL l 20) : Nat)], v, errV (readE l)]) ∧ OutC w' base v ps ∧ ps.map Prod.fst = readCs l ∧ w.heap.size ≤ base ∧ Chg [] w w'
theorem read_any (l : List UInt8) (a : Option Addr) (cap : Nat) (w : World) (rd : Rd w (.slice a l.length cap) (bytesV l)) (hl : l.length ≤ 70368744177664) :
    Calls Tryd.prog 23 #[.slice a l.length cap] w (ReadAll l w) := by
  by_cases h : headE l = 0
  · refine (read_ok l a cap w rd hl h).mono ?_
    rintro e w' (⟨ha, v, ps, base, rfl, ho, hm, hb, hc⟩ | ⟨ha, rfl, hc⟩)
    · have hE : readE l = 0 := by unfold readE; rw [if_pos h, if_pos ha]
      refine ⟨v, ps, base, ?_, ho, by unfold readCs; rw [if_pos hE]; exact hm, hb, hc⟩
      unfold rN errV
      simp only [if_pos hE]
    · have hE : readE l = 7 := by unfold readE; rw [if_pos h, ha, if_neg (by decide)]
      have hn : ¬ readE l = 0 := by rw [hE]; decide
      refine ⟨.slice none 0 0, [], w.heap.size, ?_, OutC.nil _ _, by unfold readCs; rw [if_neg hn]; rfl, Nat.le_refl _, hc⟩
      unfold rN errV
      simp only [if_neg hn]
      rw [hE]
      rfl
  · refine (read_bad l a cap w rd hl h).mono ?_
    rintro e w' ⟨rfl, hc⟩
    have hE : readE l = headE l := by unfold readE; rw [if_neg h]
    have hn : ¬ readE l = 0 := by rw [hE]; exact h
    refine ⟨.slice none 0 0, [], w.heap.size, ?_, OutC.nil _ _, by unfold readCs; rw [if_neg hn]; rfl, Nat.le_refl _, hc⟩
    unfold rN errV
    simp only [if_neg hn]
    rw [hE]
    rfl

theorem Code_none (w : World) : Calls Tryd.prog 24 #[.nilIface] w fun e w' => e = .returned (.int .i64 0) ∧ Chg [] w w' := by
  go_enter Tryd.func24, Tryd.ntmps24
  go_wp2
  go_ret
  exact ⟨rfl, (Chg.refl [] w).alloc _⟩
theorem Code_err (n : Int) (w : World) (hg : Env w) : Calls Tryd.prog 24 #[errV n] w fun e w' => e = .returned (.int .i64 n) ∧ Chg [] w w' := by
  unfold errV
  by_cases h : n = 0
  · rw [if_pos h, h]; exact Code_none w
  · rw [if_neg h]; exact Code_errno n w hg

/-- What command.Read says of any bytes. -/
def ReadsAll (l : List UInt8) (w : World) (e : Ending) (w' : World) : Prop :=
  ∃ v ps base, e = .returned (.tuple #[.agg #[.int .i64 (rN l (hdSub l) : Nat), .int .i64 (rN l (nL l 12) : Nat), .int .u32 (rN l (nL l 24) : Nat)], v, .int .i64 (readE l)]) ∧ OutC w' base v ps ∧ ps.map Prod.fst = readCs l ∧ w.heap.size ≤ base ∧ Chg [] w w'

set_option maxHeartbeats 2000000 in
theorem Read_any (l : List UInt8) (a : Option Addr) (cap : Nat) (w : World) (hg : Env w) (rd : Rd w (.slice a l.length cap) (bytesV l)) (hl : l.length ≤ 70368744177664) :
    Calls Tryd.prog 13 #[.slice a l.length cap] w (ReadsAll l w) := by
  have HRB := Lib.hid (fun w rd => read_any l a cap w rd hl)
  have HR := Lib.hid rd
  have HG := Lib.hid hg
  clear rd hg
  unfold ReadsAll
  unfold ReadAll at HRB
  obtain ⟨X, hX⟩ : ∃ X, X = errV (readE l) := ⟨_, rfl⟩
  rw [← hX] at HRB
  have HCODE : Hid (∀ W, Env W → Calls Tryd.prog 24 #[X] W fun e w' => e = .returned (.int .i64 (readE l)) ∧ Chg [] W w') := Lib.hid (fun W hW => by rw [hX]; exact Code_err _ W hW)
  clear hX
  generalize readE l = E at *
  generalize rN l (hdSub l) = S at *
  generalize rN l (nL l 12) = N12 at *
  generalize rN l (nL l 24) = N24 at *
  generalize rN l (nL l 16) = N16 at *
  generalize rN l (nL l 20) = N20 at *
  go_enter Tryd.func13, Tryd.ntmps13
  go_wp2_with fail
  obtain ⟨w0, hw0⟩ : ∃ x, x = w.alloc (.cells #[.int .i64 0, .int .i64 0, .int .u32 0] 27) := ⟨_, rfl⟩
  obtain ⟨r, hr⟩ : ∃ x, x = w.heap.size := ⟨_, rfl⟩
  have b0 : w0.heap[r]? = some (.cells #[.int .i64 0, .int .i64 0, .int .u32 0] 27 (0, 0)) := by rw [hw0, hr]; exact heap_alloc_eq _ _
  have C0 : Hid (Chg [] w w0) := Lib.hid (by rw [hw0]; exact (Chg.refl _ _).alloc _)
  have LR : Hid (w.heap.size ≤ r ∧ r < w0.heap.size) := Lib.hid (by rw [hw0, hr]; simp)
  rw [← hw0, ← hr]
  clear hw0 hr
  refine (HRB.out w0 (HR.out.frame C0.out (fun _ _ hm => by cases hm))).mono ?_
  rintro e w1 ⟨v, ps, base, rfl, ho, hm, hbs, hch⟩
  obtain ⟨aO, nO, cO, rfl⟩ := own_form ho.own
  have C1 := Lib.hid (C0.out.then hch)
  replace b0 := hch.heap b0 (by simp)
  have HBS : Hid (w0.heap.size ≤ base) := Lib.hid (hbs)
  have Ho := Lib.hid ho
  have Hm := Lib.hid hm
  clear ho hm
  clear hch hbs
  go_upto_region 2 with fail
  obtain ⟨w2, hw2⟩ : ∃ x, x = w1.alloc (.cells #[.int .i64 (S : Int), .int .i64 (N12 : Int), .int .u32 (N24 : Int), .int .i64 (N16 : Int), .int .i64 (N20 : Int)] 82) := ⟨_, rfl⟩
  obtain ⟨q, hq⟩ : ∃ x, x = w1.heap.size := ⟨_, rfl⟩
  have b2 : w2.heap[q]? = some (.cells #[.int .i64 (S : Int), .int .i64 (N12 : Int), .int .u32 (N24 : Int), .int .i64 (N16 : Int), .int .i64 (N20 : Int)] 82 (0, 0)) := by rw [hw2, hq]; exact heap_alloc_eq _ _
  have C2 : Hid (Chg [] w1 w2) := Lib.hid (by rw [hw2]; exact (Chg.refl _ _).alloc _)
  replace b0 := C2.out.heap b0 (by simp)
  rw [← hw2, ← hq]
  clear hw2 hq
  have d0 := cell_of_heap b2 0
  have d1 := cell_of_heap b2 1
  have d2 := cell_of_heap b2 2
  simp at d0 d1 d2
  refine wp_region_noPanic ?_
  refine wp_region_held_drew (S := fun w' => Chg [r] w2 w') (by kernel_rfl) ((Chg.refl _ _).drew) (fun hHeld => ?_)
  have hqr : q ∉ [r] := by
    intro hm
    rw [List.mem_singleton] at hm
    subst hm
    rw [b0] at b2
    simp at b2
  refine take_read (i := 0) (v := ?_) (by simp only [List.getElem?_toArray, List.getElem?_cons_zero]; rfl) (by kernel_rfl) (by kernel_rfl) (by kernel_rfl) (fun _ _ _ h => h) hHeld ?_ ?_
  rotate_left
  · intro w hSw
    go_simp
    try with_reducible rfl
  try simp only [Act.put, List.setIfInBounds_toArray, List.set_cons_zero, List.set_cons_succ]
  refine take_read (i := 1) (v := ?_) (by simp only [List.getElem?_toArray, List.getElem?_cons_succ, List.getElem?_cons_zero]; rfl) (by kernel_rfl) (by kernel_rfl) (by kernel_rfl) (fun _ _ _ h => h) hHeld ?_ ?_
  rotate_left
  · intro w hSw
    (have d0 := hSw.cell d0 hqr; have d1 := hSw.cell d1 hqr; have d2 := hSw.cell d2 hqr)
    go_simp
    try with_reducible rfl
  try simp only [Act.put, List.setIfInBounds_toArray, List.set_cons_zero, List.set_cons_succ]
  refine take_read (i := 2) (v := ?_) (by simp only [List.getElem?_toArray, List.getElem?_cons_succ, List.getElem?_cons_zero]; rfl) (by kernel_rfl) (by kernel_rfl) (by kernel_rfl) (fun _ _ _ h => h) hHeld ?_ ?_
  rotate_left
  · intro w hSw
    skip
    go_simp
    try with_reducible rfl
  try simp only [Act.put, List.setIfInBounds_toArray, List.set_cons_zero, List.set_cons_succ]
  refine take_read (i := 3) (v := ?_) (by simp only [List.getElem?_toArray, List.getElem?_cons_succ, List.getElem?_cons_zero]; rfl) (by kernel_rfl) (by kernel_rfl) (by kernel_rfl) (fun _ _ _ h => h) hHeld ?_ ?_
  rotate_left
  · intro w hSw
    skip
    go_simp
    try with_reducible rfl
  try simp only [Act.put, List.setIfInBounds_toArray, List.set_cons_zero, List.set_cons_succ]
  clear d0 d1 d2
  refine wpAnyH_ready (rs := [4]) (by kernel_rfl) (by simp) ?_
  refine AllReadyH.cons rfl (fun K hK => ?_) AllReadyH.nil
  go_simp
  refine (HCODE.out w2.drew (HG.out.frame (C1.out.then (C2.out.drew)) (by simp))).mono ?_
  rintro e w3 ⟨rfl, hch⟩
  have D3 : Hid (Chg [] w2 w3) := Lib.hid (((Chg.refl [] w2).drew).then hch)
  clear hch
  refine hK.out _ _ (show Chg [r] w2 w3 from D3.out.add) (fun _ => ?_)
  clear hK hHeld K
  have hHeld := (show Chg [r] w2 w3 from D3.out.add)
  try (unfold Act.put; simp only [List.setIfInBounds_toArray, List.set_cons_zero, List.set_cons_succ])
  replace b0 := D3.out.heap b0 (by simp)
  have f0 := frozen_of_heap b0 0
  have f1 := frozen_of_heap b0 1
  have f2 := frozen_of_heap b0 2
  have c0 := cell_of_heap b0 0
  have c1 := cell_of_heap b0 1
  have c2 := cell_of_heap b0 2
  simp at c0 c1 c2
  refine wpAnyH_ready (rs := [5]) (by kernel_rfl) (by simp) ?_
  refine AllReadyH.cons rfl (fun K hK => ?_) AllReadyH.nil
  go_simp
  obtain ⟨wH, hwH⟩ : ∃ x, x = ((w3.setCell ⟨r, 0, none⟩ (.int .i64 (S : Int))).setCell ⟨r, 1, none⟩ (.int .i64 (N12 : Int))).setCell ⟨r, 2, none⟩ (.int .u32 (N24 : Int)) := ⟨_, rfl⟩
  rw [← hwH]
  have bH : wH.heap[r]? = some (.cells #[.int .i64 (S : Int), .int .i64 (N12 : Int), .int .u32 (N24 : Int)] 27 (0, 0)) := by rw [hwH]; exact heap_setCell (heap_setCell (heap_setCell b0 0 _) 1 _) 2 _
  have DH : Hid (Chg [r] w2 wH) := Lib.hid (by rw [hwH]; exact (((D3.out.add).setCell _ _ (.inl (by simp))).setCell _ _ (.inl (by simp))).setCell _ _ (.inl (by simp)))
  clear hwH f0 f1 f2 c0 c1 c2
  refine hK.out _ _ DH.out (fun _ => ?_)
  clear hK hHeld K
  have hHeld := DH.out
  try (unfold Act.put; simp only [List.setIfInBounds_toArray, List.set_cons_zero, List.set_cons_succ])
  refine take_read (i := 6) (v := ?_) (by simp only [List.getElem?_toArray, List.getElem?_cons_succ, List.getElem?_cons_zero]; rfl) (by kernel_rfl) (by kernel_rfl) (by kernel_rfl) (fun _ _ _ h => h) hHeld ?_ ?_
  rotate_left
  · intro w hSw
    skip
    go_simp
    try with_reducible rfl
  try simp only [Act.put, List.setIfInBounds_toArray, List.set_cons_zero, List.set_cons_succ]
  refine take_read (i := 7) (v := ?_) (by simp only [List.getElem?_toArray, List.getElem?_cons_succ, List.getElem?_cons_zero]; rfl) (by kernel_rfl) (by kernel_rfl) (by kernel_rfl) (fun _ _ _ h => h) hHeld ?_ ?_
  rotate_left
  · intro w hSw
    skip
    go_simp
    try with_reducible rfl
  try simp only [Act.put, List.setIfInBounds_toArray, List.set_cons_zero, List.set_cons_succ]
  refine wpAnyH_done (by kernel_rfl) ?_ _
  refine NoPanic.normal ?_
  have g0 := cell_of_heap bH 0
  have g1 := cell_of_heap bH 1
  have g2 := cell_of_heap bH 2
  simp at g0 g1 g2
  clear b0 b2 hHeld bH
  go_wp2
  refine bodyPost_ret (v := .tuple #[.agg #[.int .i64 (S : Int), .int .i64 (N12 : Int), .int .u32 (N24 : Int)], .slice aO nO cO, .int .i64 E]) (by simp [results, Tryd.results13, go_sem, g0, g1, g2]) rfl ?_
  have lr := LR.out
  have hb := HBS.out
  exact ⟨.slice aO nO cO, ps, base, rfl, (Ho.out.frame C2.out (by simp)).frame DH.out (by simp; omega), Hm.out, by omega, (C1.out.then C2.out).new DH.out LR.out.1⟩

end Go.Proofs.YtgjlgamlmmjdpaaDoor
/- Records: headers (printed by mkrecs4.sh). -/
namespace Go.Proofs.YtgjlgamlmmjdpaaDoor
open Go.RowKit
set_option maxRecDepth 100000

/-- A record Hdr. -/
structure Hdr where
  sub : Int
  kind : Int
  flags : Int
def Hdr.cells (s : Hdr) : List Value := [.int .i64 s.sub, .int .i64 s.kind, .int .u32 s.flags]
abbrev Hdr.v (s : Hdr) : Value := .agg #[.int .i64 s.sub, .int .i64 s.kind, .int .u32 s.flags]
/-- Its numbers are of their kinds. -/
def Hdr.wf (s : Hdr) : Prop := (Lit.int .i64 s.sub).wf = true ∧ (Lit.int .i64 s.kind).wf = true ∧ (Lit.int .u32 s.flags).wf = true
def Hdr.zero : Hdr := ⟨0, 0, 0⟩
def hdrL : Lay Hdr := ⟨3, Hdr.cells, Hdr.zero, fun _ => rfl, by decide, fun x u hu => by
  simp only [Hdr.cells, List.mem_cons, List.not_mem_nil, or_false] at hu
  rcases hu with rfl | rfl | rfl <;> rfl⟩
theorem Hdr.at {w : World} {b o : Nat} {s : Hdr} (h : hdrL.In w b o s) : w.cell? ⟨b, o, none⟩ = some (.int .i64 s.sub) ∧ w.cell? ⟨b, o + 1, none⟩ = some (.int .i64 s.kind) ∧ w.cell? ⟨b, o + 2, none⟩ = some (.int .u32 s.flags) :=
  ⟨h 0 (by decide), h 1 (by decide), h 2 (by decide)⟩
theorem Hdr.at0 {w : World} {b : Nat} {s : Hdr} (h : hdrL.In w b 0 s) : w.cell? ⟨b, 0, none⟩ = some (.int .i64 s.sub) ∧ w.cell? ⟨b, 1, none⟩ = some (.int .i64 s.kind) ∧ w.cell? ⟨b, 2, none⟩ = some (.int .u32 s.flags) := by
  obtain ⟨h0, h1, h2⟩ := Hdr.at h
  simp only [Nat.zero_add] at h1 h2
  exact ⟨h0, h1, h2⟩
theorem Hdr.boxed (w : World) (s : Hdr) (T : TypeId) : hdrL.In (w.alloc (.cells #[.int .i64 s.sub, .int .i64 s.kind, .int .u32 s.flags] T)) w.heap.size 0 s := fun c _ => by
  rw [cell_of_heap (heap_alloc_eq w _), Nat.zero_add]
  exact List.getElem?_toArray ..
/-- A record in a block of its own: made, written, a field written. -/
theorem Hdr.box (w : World) (s : Hdr) (T : TypeId) : hdrL.Box (w.alloc (.cells #[.int .i64 s.sub, .int .i64 s.kind, .int .u32 s.flags] T)) w.heap.size s := Lay.Box.of_alloc (L := hdrL) w s T
theorem Hdr.boxAt (w : World) (s : Hdr) (T : TypeId) {b : Nat} (hb : b = w.heap.size) : hdrL.Box (w.alloc (.cells #[.int .i64 s.sub, .int .i64 s.kind, .int .u32 s.flags] T)) b s := by rw [hb]; exact Hdr.box w s T
theorem Hdr.put0 {w : World} {g : Nat} {y : Hdr} (h : hdrL.Box w g y) (s : Hdr) : hdrL.Box (((w.setCell ⟨g, 0, none⟩ (.int .i64 s.sub)).setCell ⟨g, 1, none⟩ (.int .i64 s.kind)).setCell ⟨g, 2, none⟩ (.int .u32 s.flags)) g s := Lay.Box.put h s
theorem Hdr.chg0 (w : World) (g : Nat) (s : Hdr) : Chg [g] w (((w.setCell ⟨g, 0, none⟩ (.int .i64 s.sub)).setCell ⟨g, 1, none⟩ (.int .i64 s.kind)).setCell ⟨g, 2, none⟩ (.int .u32 s.flags)) := Lay.setW_chg g s.cells w 0
theorem Hdr.set_sub {w : World} {g : Nat} {s : Hdr} (h : hdrL.Box w g s) (x : Int) : hdrL.Box (w.setCell ⟨g, 0, none⟩ (.int .i64 x)) g { s with sub := x } := Lay.Box.set h 0 _ _ rfl
theorem Hdr.set_kind {w : World} {g : Nat} {s : Hdr} (h : hdrL.Box w g s) (x : Int) : hdrL.Box (w.setCell ⟨g, 1, none⟩ (.int .i64 x)) g { s with kind := x } := Lay.Box.set h 1 _ _ rfl
theorem Hdr.set_flags {w : World} {g : Nat} {s : Hdr} (h : hdrL.Box w g s) (x : Int) : hdrL.Box (w.setCell ⟨g, 2, none⟩ (.int .u32 x)) g { s with flags := x } := Lay.Box.set h 2 _ _ rfl
theorem Hdr.c_sub {w : World} {b : Nat} {s : Hdr} (h : hdrL.Box w b s) : w.cell? ⟨b, 0, none⟩ = some (.int .i64 s.sub) := by have := h.in 0 (by decide); rw [Nat.zero_add] at this; exact this
theorem Hdr.c_kind {w : World} {b : Nat} {s : Hdr} (h : hdrL.Box w b s) : w.cell? ⟨b, 1, none⟩ = some (.int .i64 s.kind) := by have := h.in 1 (by decide); rw [Nat.zero_add] at this; exact this
theorem Hdr.c_flags {w : World} {b : Nat} {s : Hdr} (h : hdrL.Box w b s) : w.cell? ⟨b, 2, none⟩ = some (.int .u32 s.flags) := by have := h.in 2 (by decide); rw [Nat.zero_add] at this; exact this
theorem Hdr.at0B {w : World} {b : Nat} {s : Hdr} (h : hdrL.Box w b s) : w.cell? ⟨b, 0, none⟩ = some (.int .i64 s.sub) ∧ w.cell? ⟨b, 1, none⟩ = some (.int .i64 s.kind) ∧ w.cell? ⟨b, 2, none⟩ = some (.int .u32 s.flags) := Hdr.at0 h.in
end Go.Proofs.YtgjlgamlmmjdpaaDoor
