/- Lemmas, laid together: part 18 of 41. Conditions: none but each lemma's own. -/
import Derived.Test.YtkomocgodljecaaGreatDoorK17
import Derived.Recover
import Derived.Test.YtkomocgodljecaaGreatDoorK15
/- bind.Decode's deferred closure. -/
namespace Go.Proofs.YtkomocgodljecaaGreatDoor
open Go.RowKit
set_option maxRecDepth 100000

/-- A slice's own cell, an errno's. -/
def slcL : Lay SlV := ⟨1, fun s => [.slice s.a s.n s.cap], ⟨none, 0, 0⟩, fun _ => rfl, by decide, fun x u hu => by
  simp only [List.mem_singleton] at hu
  subst hu
  rfl⟩
def errL : Lay Int := ⟨1, fun n => [.int .i64 n], 0, fun _ => rfl, by decide, fun x u hu => by
  simp only [List.mem_singleton] at hu
  subst hu
  rfl⟩
theorem slcL.c {w : World} {b : Nat} {s : SlV} (h : slcL.Box w b s) : w.cell? ⟨b, 0, none⟩ = some (.slice s.a s.n s.cap) := h.in 0 (by decide)
theorem errL.c {w : World} {b : Nat} {s : Int} (h : errL.Box w b s) : w.cell? ⟨b, 0, none⟩ = some (.int .i64 s) := h.in 0 (by decide)
theorem slcL.set {w : World} {b : Nat} {s : SlV} (h : slcL.Box w b s) (x : SlV) : slcL.Box (w.setCell ⟨b, 0, none⟩ (.slice x.a x.n x.cap)) b x := Lay.Box.set h 0 _ _ rfl
theorem errL.set {w : World} {b : Nat} {s : Int} (h : errL.Box w b s) (x : Int) : errL.Box (w.setCell ⟨b, 0, none⟩ (.int .i64 x)) b x := Lay.Box.set h 0 _ _ rfl
theorem dclos_idle (p q : Value) (w : World) : CallsD Tryz.prog 28 #[p, q] .returning w fun e u' w' => e = .returned (.tuple #[]) ∧ u' = .returning ∧ w' = w := by
  refine callsD_of_wpS Tryz.func28 rfl fun c₀ cs hu => ?_
  apply wpS_seq
  apply wpS_region
  simp [wpOpsS, go_sem, recoverD, hu, Tryz.ntmps28, Exit.thenS]
  refine wpS_of_wp ?_
  go_wp2
  cases c₀
  simp_all [bodyPostS, results, Tryz.results28]
theorem Tryz.isRef (n : Int) (w : World) : (Instr.typeAssert (.iface 65 (.agg #[.int .i64 n])) 20 65 true).run Tryz.prog w = .ok (.tuple #[.agg #[.int .i64 n], .bool true]) w := by kernel_rfl
set_option maxHeartbeats 4000000 in
theorem dclos_stop (bl be : Nat) (so : SlV) (x n : Int) (w : World) (hl : slcL.Box w bl so) (he : errL.Box w be x) (hne : bl ≠ be) :
    CallsD Tryz.prog 28 #[.pointer (some ⟨bl, 0, none⟩), .pointer (some ⟨be, 0, none⟩)] (.panicking [{ v := .iface 65 (.agg #[.int .i64 n]), recovered := false }]) w fun e u' w' =>
      e = .returned (.tuple #[]) ∧ u' = .panicking [{ v := .iface 65 (.agg #[.int .i64 n]), recovered := true }] ∧ slcL.Box w' bl ⟨none, 0, 0⟩ ∧ errL.Box w' be n ∧ Chg [bl, be] w w' := by
  have hbl := hl.lt
  have hbe := he.lt
  refine callsD_of_wpS Tryz.func28 rfl fun c₀ cs hu => ?_
  apply wpS_seq
  apply wpS_region
  simp [wpOpsS, go_sem, recoverD, hu, Tryz.ntmps28, Exit.thenS]
  refine wpS_of_wp ?_
  have hta := Tryz.isRef n
  have Hl := Lib.hid hl
  have He := Lib.hid he
  clear hl he
  go_upto_region 7 with fail
  change Code.wp _ _ _ { tmps := #[.pointer (some ⟨bl, 0, none⟩), .pointer (some ⟨be, 0, none⟩), undef, .pointer (some ⟨w.heap.size, 0, none⟩), undef, .iface 65 (.agg #[.int .i64 n]), undef, .bool false, .tuple #[.agg #[.int .i64 n], .bool true], .bool true, .agg #[.int .i64 n], undef, undef], defers := [] } _
  refine Lay.with_world (fun W => slcL.Box W bl so ∧ errL.Box W be x ∧ W.cell? ⟨w.heap.size, 0, none⟩ = some (.int .i64 n) ∧ Chg [bl, be] w W) ⟨Hl.out.alloc _, He.out.alloc _, by rw [cell_of_heap (heap_alloc_eq _ _)]; rfl, (Chg.refl _ _).alloc _⟩ (fun W hW => ?_)
  obtain ⟨h1, h2, y3, h4⟩ := hW
  obtain ⟨p3, hp3⟩ : ∃ p, p = w.heap.size := ⟨_, rfl⟩
  rw [← hp3] at y3 ⊢
  have hn1 : p3 ≠ bl := by omega
  have hn2 : p3 ≠ be := by omega
  have L1 := Lib.hid h1
  have E1 := Lib.hid h2
  have C1 := Lib.hid h4
  have Hp3 := Lib.hid hp3
  clear h1 h2 h4 hp3
  have x2 := slcL.c L1.out
  have z2 := L1.out.frozen 0
  have x3 := errL.c E1.out
  have z3 := E1.out.frozen 0
  have hne2 : be ≠ bl := fun e => hne e.symm
  refine wp_region_noPanic ?_
  refine wp_region_held_drew (S := fun w' => (∃ s, slcL.Box w' bl s) ∧ (∃ z, errL.Box w' be z) ∧ w'.cell? ⟨p3, 0, none⟩ = some (.int .i64 n) ∧ Chg [bl, be] W w') (by kernel_rfl) ⟨⟨_, L1.out.drew⟩, ⟨_, E1.out.drew⟩, by simpa using y3, (Chg.refl _ _).drew⟩ (fun hHeld => ?_)
  refine take_read (i := 0) (v := ?_) (by simp only [List.getElem?_toArray, List.getElem?_cons_zero]; rfl) (by kernel_rfl) (by kernel_rfl) (by kernel_rfl) (fun _ _ _ h => h) hHeld ?_ ?_
  rotate_left
  · intro w hSw
    go_simp
    try with_reducible rfl
  try simp only [Act.put, List.setIfInBounds_toArray, List.set_cons_zero, List.set_cons_succ]
  refine take_read (i := 1) (v := ?_) (by simp only [List.getElem?_toArray, List.getElem?_cons_succ, List.getElem?_cons_zero]; rfl) (by kernel_rfl) (by kernel_rfl) (by kernel_rfl) (fun _ _ _ h => h) hHeld ?_ ?_
  rotate_left
  · intro w hSw
    have y3 := hSw.2.2.1
    go_simp
    try with_reducible rfl
  try simp only [Act.put, List.setIfInBounds_toArray, List.set_cons_zero, List.set_cons_succ]
  refine wpAnyH_ready (rs := [2]) (by kernel_rfl) (by simp) ?_
  refine AllReadyH.cons rfl (fun K hK => ?_) AllReadyH.nil
  go_simp
  have L2 := Lib.hid (slcL.set (L1.out.drew) ⟨none, 0, 0⟩)
  have E2 : Hid (errL.Box (W.drew.setCell ⟨bl, 0, none⟩ (.slice none 0 0)) be x) := Lib.hid (E1.out.drew.setCell _ _ hne2)
  have Y2 : Hid ((W.drew.setCell ⟨bl, 0, none⟩ (.slice none 0 0)).cell? ⟨p3, 0, none⟩ = some (.int .i64 n)) := Lib.hid (((Chg.refl [bl] W).drew.setCell _ _ (.inl (by simp))).cell y3 (by simpa using hn1))
  have C2 : Hid (Chg [bl, be] W (W.drew.setCell ⟨bl, 0, none⟩ (.slice none 0 0))) := Lib.hid ((Chg.refl _ _).drew.setCell _ _ (.inl (by simp)))
  refine hK.out _ _ ⟨⟨_, L2.out⟩, ⟨_, E2.out⟩, Y2.out, C2.out⟩ (fun hHeld2 => ?_)
  clear hK hHeld K
  have hHeld := hHeld2
  clear hHeld2
  try (unfold Act.put; simp only [List.setIfInBounds_toArray, List.set_cons_zero, List.set_cons_succ])
  refine wpAnyH_ready (rs := [3]) (by kernel_rfl) (by simp) ?_
  refine AllReadyH.cons rfl (fun K hK => ?_) AllReadyH.nil
  go_simp
  have L3 : Hid (slcL.Box ((W.drew.setCell ⟨bl, 0, none⟩ (.slice none 0 0)).setCell ⟨be, 0, none⟩ (.int .i64 n)) bl ⟨none, 0, 0⟩) := Lib.hid (L2.out.setCell _ _ hne)
  have E3 := Lib.hid (errL.set E2.out n)
  have Y3 : Hid (((W.drew.setCell ⟨bl, 0, none⟩ (.slice none 0 0)).setCell ⟨be, 0, none⟩ (.int .i64 n)).cell? ⟨p3, 0, none⟩ = some (.int .i64 n)) := Lib.hid (((Chg.refl [be] _).setCell _ _ (.inl (by simp))).cell Y2.out (by simpa using hn2))
  have C3 : Hid (Chg [bl, be] W ((W.drew.setCell ⟨bl, 0, none⟩ (.slice none 0 0)).setCell ⟨be, 0, none⟩ (.int .i64 n))) := Lib.hid (C2.out.setCell _ _ (.inl (by simp)))
  refine hK.out _ _ ⟨⟨_, L3.out⟩, ⟨_, E3.out⟩, Y3.out, C3.out⟩ (fun hHeld2 => ?_)
  clear hK hHeld K
  have hHeld := hHeld2
  clear hHeld2
  try (unfold Act.put; simp only [List.setIfInBounds_toArray, List.set_cons_zero, List.set_cons_succ])
  refine wpAnyH_done (by kernel_rfl) ?_ _
  refine NoPanic.normal ?_
  refine with_exitB (Q := Exit.inBlock _ _ _ _) (fun W' => slcL.Box W' bl ⟨none, 0, 0⟩ ∧ errL.Box W' be n ∧ Chg [bl, be] w W') ⟨L3.out, E3.out, C1.out.same C3.out⟩ (fun W' hW => ?_)
  obtain ⟨h1, h2, h3⟩ := hW
  clear hHeld L2 E2 Y2 C2 L3 E3 Y3 C3 x2 z2 x3 z3 y3
  have LF := Lib.hid h1
  have EF := Lib.hid h2
  have CF := Lib.hid h3
  clear h1 h2 h3
  go_wp2
  simp [bodyPostS, results, Tryz.results28]
  exact ⟨LF.out, EF.out, CF.out⟩
end Go.Proofs.YtkomocgodljecaaGreatDoor
/- A record boxed, as a step of a drawn region. -/
namespace Go.Proofs.YtkomocgodljecaaGreatDoor
open Go.RowKit
namespace Lay
variable {α : Type} {L : Lay α}
theorem armBx {P : Program} {T : TypeId} {o : Oper} {a : Act} {w : World} {K : Act → World → Prop} {Q : Exit → Act → World → Prop} {tm : Nat → Option Bool} (hgd : o.guard = none) (s : Operand) (ho : o.op = .box T s) (x : α) (hs : a.eval s = .agg (L.f x).toArray)
    (h : ∀ W b, b = w.heap.size → Chg [] w W → L.Box W b x → K (a.put o.dst (.pointer (some ⟨b, 0, none⟩))) W) : if Region.wanted o tm = true then Oper.wp P o a w K Q else K (a.put o.dst undef) w := by
  rw [if_pos (by simp [Region.wanted, hgd])]
  unfold Oper.wp execOp
  have := h _ _ rfl ((Chg.refl [] w).alloc _) (Box.of_alloc (L := L) w x T)
  simp [ho, Instr.box, hs, newVar, newRow, Value.cells]
  exact this
/-- A build, read in a region that draws. -/
theorem read_bd {P : Program} {T : TypeId} {d : Tmp} {xs : List (Nat × Operand)} {ty : TypeId} {pos : String} {after : Array Edge} {g : Option (Nat × Bool)} {ev : Operand → Value} {y : Nat → Option Bool} {w : World} {v : Value} (hw : Region.wanted ⟨some d, .build T xs.toArray, ty, pos, after, g⟩ y = true) (h : (Instr.build T (xs.map fun p => (p.1, ev p.2)).toArray).run P w = .ok v w) :
    if Region.wanted ⟨some d, .build T xs.toArray, ty, pos, after, g⟩ y = true then (execOp ev ⟨some d, .build T xs.toArray, ty, pos, after, g⟩).run P w = .ok (.value v) w else v = undef := by
  rw [if_pos hw]
  unfold execOp
  simp only [Sem.run_bind, List.map_toArray, h, Result.andThen_ok, Sem.run_pure]
end Lay
end Go.Proofs.YtkomocgodljecaaGreatDoor
