/- Lemmas, laid together: part 23 of 43. Conditions: none but each lemma's own. -/
import Derived.Test.YtgjlgamlmmjdpaaGreatDoorJ22
import Derived.StillTailTactics
/- command.read of bytes whose header is sound: the commands, or the error. -/
namespace Go.Proofs.YtgjlgamlmmjdpaaGreatDoor
open Go.RowKit Go.Shelf
attribute [local go_sem] Oper.semAt_some
set_option maxRecDepth 100000

/-- Commands with the slice values that hold their bytes. -/
def cmdV (ps : List (Cmd × Value)) : List Value := ps.flatMap fun p => [.int .u32 (p.1.1 : Nat), p.2]
theorem cmdV_len (ps : List (Cmd × Value)) : (cmdV ps).length = ps.length * 2 := by
  induction ps with
  | nil => rfl
  | cons p r ih => simp only [cmdV, List.flatMap_cons, List.length_append, List.length_cons, List.length_nil] at *; omega
theorem cmdV_snoc (ps : List (Cmd × Value)) (p : Cmd × Value) : cmdV (ps ++ [p]) = cmdV ps ++ [.int .u32 (p.1.1 : Nat), p.2] := by simp [cmdV]
structure OutC (W : World) (base : Nat) (v : Value) (ps : List (Cmd × Value)) : Prop where
  own : W.ownsRow base 67 2 v ps.length (cmdV ps)
  each : ∀ p ∈ ps, Buf W base p.2 p.1.2
  sep : ps.Pairwise fun a b => a.2.ownBlock ≠ b.2.ownBlock
theorem OutC.frame {W W' : World} {base : Nat} {v : Value} {ps : List (Cmd × Value)} (h : OutC W base v ps) {S : List Nat} (k : Chg S W W') (hS : ∀ i ∈ S, i < base) : OutC W' base v ps := by
  have hb : ∀ {u : Value}, (∀ j, u.ownBlock = some j → base ≤ j) → ∀ b, u.ownBlock = some b → b ∉ S := fun hu b hb hm => by have := hu b hb; have := hS b hm; omega
  refine ⟨owned_frame h.own k (hb fun j hj => (World.ownsRow.lt h.own j hj).1), fun p hp => (h.each p hp).frame k (hb fun j hj => (World.ownsRow.lt (h.each p hp) j hj).1), h.sep⟩
theorem OutC.nil (W : World) (base : Nat) : OutC W base (.slice none 0 0) [] := ⟨World.ownsRow_nil W base _ 2, fun _ h => (by cases h), List.Pairwise.nil⟩

theorem Tryz.infoCmd : (Tryz.prog.info? 67).map (fun i => (i.zero, i.size, i.bytes)) = some (some (.agg #[.int .u32 0, .slice none 0 0]), 2, 32) := by kernel_rfl
theorem Tryz.uCmdsF : Tryz.prog.underlying 50 = some (.slice 67) := by kernel_rfl
theorem appIn_cmd {F : Fence} {n : Nat} {ops : Array Oper} {rest : List Oper} {o : Oper} {a : Act} {Q : Exit → Act → World → Prop} {w : World} (hgd : o.guard = none) (s x : Operand)
    (ho : o.op = .call { callee := .builtin .append, args := #[s, x], argTypes := #[50, 50] }) (base : Nat) (v : Value) (ps : List (Cmd × Value)) (hs : a.eval s = v) (hown : w.ownsRow base 67 2 v ps.length (cmdV ps))
    (q cmd : Nat) (aV : Option Addr) (nV cV : Nat) (hx : a.eval x = .slice (some ⟨q, 0, none⟩) 1 1) (hq : w.heap[q]? = some (.cells #[.int .u32 (cmd : Nat), .slice aV nV cV] 67 (0, 0)))
    (hlen : ps.length ≤ 1000000) (hbase : base ≤ w.heap.size)
    (h : ∀ v' w', w'.ownsRow base 67 2 v' (ps.length + 1) (cmdV ps ++ [.int .u32 (cmd : Nat), .slice aV nV cV]) → w.grownBy w' v.ownBlock → wpListIn F n Tryz.prog ops Q rest (a.put o.dst v') w') : wpListIn F n Tryz.prog ops Q (o :: rest) a w := by
  obtain ⟨i0, hi, hz0, hz1, hz2⟩ := info_parts Tryz.infoCmd
  refine wpListIn_append_own _ hgd s x 50 ho base 67 i0 _ 2 32 Tryz.uCmdsF hi hz0 hz1 hz2 rfl (by decide) v ps.length (cmdV ps) hs hown ⟨q, 0, none⟩ 1 1 [.int .u32 (cmd : Nat), .slice aV nV cV] hx rfl ?_ ?_ (by unfold maxLen; omega) (by omega) hbase ?_
  · intro j u hu
    rw [Addr_add, Nat.zero_add, cell_of_heap hq]
    simpa using hu
  · intro u hu
    simp only [List.mem_cons, List.not_mem_nil, or_false] at hu
    rcases hu with rfl | rfl <;> rfl
  · intro v' w' h1 h2 _
    exact h v' w' h1 h2

theorem own_form {w : World} {base size n : Nat} {e : TypeId} {v : Value} {xs : List Value} (h : w.ownsRow base e size v n xs) : ∃ a m c, v = .slice a m c := by
  rcases h.2 with ⟨h, _⟩ | ⟨g, cap, cur, h, _⟩
  · exact ⟨_, _, _, h⟩
  · exact ⟨_, _, _, h⟩
/-- Bytes and commands lie in blocks of their own. -/
theorem own_ne {w : World} {b1 base n : Nat} {u v : Value} {l : List UInt8} {xs : List Value} (h : Buf w b1 u l) (k : w.ownsRow base 67 2 v n xs) : ∀ j, u.ownBlock = some j → j ∉ v.ownBlock.toList := by
  intro j hj hm
  rcases h.2 with ⟨rfl, _⟩ | ⟨g, cap, cur, rfl, _, hg, _⟩
  · cases hj
  · cases hj
    rcases k.2 with ⟨rfl, _⟩ | ⟨g', cap', cur', rfl, _, hg', _⟩
    · simp [Value.ownBlock] at hm
    · simp [Value.ownBlock] at hm
      subst hm
      rw [hg] at hg'
      simp at hg'
theorem commands_any (c : Nat) (m z : Int) (w : World) :
    Calls Tryz.prog 48 #[.pointer (some ⟨c, 0, none⟩), .int .i64 m, .int .i64 z] w fun e w' =>
      e = .returned (.func (.func 74) #[] #[.pointer (some ⟨w.heap.size + 1, 0, none⟩), .pointer (some ⟨w.heap.size + 2, 0, none⟩), .pointer (some ⟨w.heap.size, 0, none⟩)]) ∧
      w' = ((w.alloc (.cells #[.pointer (some ⟨c, 0, none⟩)] 89)).alloc (.cells #[.int .i64 m] 3)).alloc (.cells #[.int .i64 z] 3) := by
  go_enter Tryz.func48, Tryz.ntmps48
  go_wp2
  go_ret
  exact ⟨rfl, rfl⟩

/-- What command.read says of bytes whose header is sound. -/
def ReadSays (l : List UInt8) (w : World) (e : Ending) (w' : World) : Prop :=
  (allC l (nL l 20) (nL l 16) = true ∧ ∃ v ps base, e = .returned (.tuple #[.agg #[.int .i64 (hdSub l : Nat), .int .i64 (nL l 12 : Nat), .int .u32 (nL l 24 : Nat), .int .i64 (nL l 16 : Nat), .int .i64 (nL l 20 : Nat)], v, .nilIface]) ∧ OutC w' base v ps ∧ ps.map Prod.fst = cmdsC l (nL l 20) (nL l 16) ∧ w.heap.size ≤ base ∧ Chg [] w w')
  ∨ (allC l (nL l 20) (nL l 16) = false ∧ e = .returned (.tuple #[.agg #[.int .i64 0, .int .i64 0, .int .u32 0, .int .i64 0, .int .i64 0], .slice none 0 0, .iface 33 (.int .i64 7)]) ∧ Chg [] w w')

set_option maxHeartbeats 2000000 in
theorem read_ok (l : List UInt8) (a : Option Addr) (cap : Nat) (w : World) (rd : Rd w (.slice a l.length cap) (bytesV l)) (hl : l.length ≤ 70368744177664) (h : headE l = 0) :
    Calls Tryz.prog 24 #[.slice a l.length cap] w (ReadSays l w) := by
  have HR := Lib.hid rd
  have HE := Lib.hid h
  clear rd h
  refine (callsIn_wide (n := 10)).1 ?_
  refine callsIn_of_wp_marks Tryz.func24 rfl trivial ?_ rfl
  simp only [Tryz.ntmps24, List.size_toArray, List.length_cons, List.length_nil, Nat.reduceAdd, Nat.reduceSub, Array.replicate_succ, Array.replicate_zero, List.push_toArray, List.append_toArray, List.nil_append, List.cons_append]
  refine wpIn_wide.2 ?_
  go_wp2_with fail
  obtain ⟨w0, hw0⟩ : ∃ x, x = ((w.alloc (.cells #[.int .i64 0, .int .i64 0, .int .u32 0, .int .i64 0, .int .i64 0] 70)).alloc (.cells #[.slice none 0 0] 50)).alloc (.cells #[.nilIface] 72) := ⟨_, rfl⟩
  obtain ⟨r1, hr1⟩ : ∃ x, x = w.heap.size := ⟨_, rfl⟩
  obtain ⟨r2, hr2⟩ : ∃ x, x = w.heap.size + 1 := ⟨_, rfl⟩
  obtain ⟨r3, hr3⟩ : ∃ x, x = w.heap.size + 1 + 1 := ⟨_, rfl⟩
  have b1 : w0.heap[r1]? = some (.cells #[.int .i64 0, .int .i64 0, .int .u32 0, .int .i64 0, .int .i64 0] 70 (0, 0)) := by
    rw [hw0, hr1]; exact (((Chg.refl [] _).alloc _).alloc _).heap (heap_alloc_eq _ _) (by simp)
  have b2 : w0.heap[r2]? = some (.cells #[.slice none 0 0] 50 (0, 0)) := by
    rw [hw0, hr2, show w.heap.size + 1 = (w.alloc (.cells #[.int .i64 0, .int .i64 0, .int .u32 0, .int .i64 0, .int .i64 0] 70)).heap.size by simp]; exact ((Chg.refl [] _).alloc _).heap (heap_alloc_eq _ _) (by simp)
  have b3 : w0.heap[r3]? = some (.cells #[.nilIface] 72 (0, 0)) := by
    rw [hw0, hr3, show w.heap.size + 1 + 1 = ((w.alloc (.cells #[.int .i64 0, .int .i64 0, .int .u32 0, .int .i64 0, .int .i64 0] 70)).alloc (.cells #[.slice none 0 0] 50)).heap.size by simp]; exact heap_alloc_eq _ _
  have hs0 : w0.heap.size = r3 + 1 := by rw [hw0, hr3]; simp
  have C0 : Hid (Chg [] w w0) := Lib.hid (by rw [hw0]; exact (((Chg.refl [] _).alloc _).alloc _).alloc _)
  rw [← hw0, ← hr3, ← hr2, ← hr1]
  have LW : Hid (w.heap.size = r1 ∧ r1 + 1 = r2 ∧ r2 + 1 = r3 ∧ r3 < w0.heap.size) := Lib.hid (by omega)
  clear hw0 hr1 hr2 hr3 hs0
  refine (New_cur _ l false w0 (HR.out.frame C0.out (fun _ _ hm => by cases hm)) (by omega)).mono ?_
  rintro e w1 ⟨c, rfl, hx, hcur, hch⟩
  have C1 := Lib.hid (hch)
  have HCU := Lib.hid (hcur)
  clear hch hcur
  go_wp2_with fail
  refine (head_any l c w1 hl HCU.out).mono ?_
  rintro e w2 ⟨s, k, f, m, z, err, rfl, hor, hch⟩
  rcases hor with ⟨_, rfl, rfl, rfl, rfl, rfl, rfl, hcur⟩ | ⟨hne, _⟩
  case inr => exact absurd HE.out hne
  replace b1 := hch.heap (C1.out.heap b1 (by simp)) (by have := LW.out; simp; omega)
  replace b2 := hch.heap (C1.out.heap b2 (by simp)) (by have := LW.out; simp; omega)
  replace b3 := hch.heap (C1.out.heap b3 (by simp)) (by have := LW.out; simp; omega)
  have C2 : Hid (Chg [] w w2) := Lib.hid ((C0.out.then C1.out).new hch (by have := LW.out; omega))
  have LC : Hid (r3 < c ∧ c < w2.heap.size) := Lib.hid (⟨by have := LW.out; omega, hcur.lt⟩)
  have HCU2 := Lib.hid (hcur)
  clear hcur hch hx HCU
  obtain ⟨S, hS⟩ : ∃ x, x = hdSub l := ⟨_, rfl⟩
  obtain ⟨N12, h12⟩ : ∃ x, x = nL l 12 := ⟨_, rfl⟩
  obtain ⟨N24, h24⟩ : ∃ x, x = nL l 24 := ⟨_, rfl⟩
  obtain ⟨N16, h16⟩ : ∃ x, x = nL l 16 := ⟨_, rfl⟩
  obtain ⟨N20, h20⟩ : ∃ x, x = nL l 20 := ⟨_, rfl⟩
  rw [← hS, ← h12, ← h24, ← h16, ← h20]
  have HB16 : Hid (N16 ≤ 256) := by
    refine Lib.hid ?_
    have := HE.out
    unfold headE at this
    rw [h16]
    (repeat' split at this) <;> first | (exact absurd this (by decide)) | omega
  have HZ : Hid (32 + N20 ≤ l.length) := by
    refine Lib.hid ?_
    have := HE.out
    unfold headE at this
    rw [h20]
    (repeat' split at this) <;> first | (exact absurd this (by decide)) | omega
  have HS := Lib.hid hS
  have H12 := Lib.hid h12
  have H24 := Lib.hid h24
  have H16 := Lib.hid h16
  have H20 := Lib.hid h20
  clear hS h12 h24 h16 h20
  go_upto_region 6 with fail
  obtain ⟨r6, hr6⟩ : ∃ x, x = w2.heap.size := ⟨_, rfl⟩
  obtain ⟨ob, hob⟩ : ∃ x, x = w2.heap.size + 1 := ⟨_, rfl⟩
  rw [← hob, ← hr6]
  obtain ⟨w3, hw3⟩ : ∃ x, x = (w2.alloc (.cells #[.int .i64 (S : Int), .int .i64 (N12 : Int), .int .u32 (N24 : Int), .int .i64 (N16 : Int), .int .i64 (N20 : Int)] 70)).alloc (.cells #[.slice none 0 0] 50) := ⟨_, rfl⟩
  rw [← hw3]
  have C3 : Hid (Chg [] w2 w3) := Lib.hid (by rw [hw3]; exact ((Chg.refl _ _).alloc _).alloc _)
  have b6 : w3.heap[r6]? = some (.cells #[.int .i64 (S : Int), .int .i64 (N12 : Int), .int .u32 (N24 : Int), .int .i64 (N16 : Int), .int .i64 (N20 : Int)] 70 (0, 0)) := by
    rw [hw3, hr6]; exact ((Chg.refl [] _).alloc _).heap (heap_alloc_eq _ _) (by simp)
  have bo : w3.heap[ob]? = some (.cells #[.slice none 0 0] 50 (0, 0)) := by
    rw [hw3, hob, show w2.heap.size + 1 = (w2.alloc (.cells #[.int .i64 (S : Int), .int .i64 (N12 : Int), .int .u32 (N24 : Int), .int .i64 (N16 : Int), .int .i64 (N20 : Int)] 70)).heap.size by simp]; exact heap_alloc_eq _ _
  have hs3 : w3.heap.size = ob + 1 := by rw [hw3, hob]; simp
  have LO : Hid (c < r6 ∧ r6 + 1 = ob ∧ ob < w3.heap.size) := Lib.hid (⟨by rw [hr6]; exact LC.out.2, by omega, by omega⟩)
  clear hw3 hob hr6
  replace b1 := C3.out.heap b1 (by simp)
  replace b2 := C3.out.heap b2 (by simp)
  replace b3 := C3.out.heap b3 (by simp)
  have d3 := cell_of_heap b6 3
  have d4 := cell_of_heap b6 4
  simp at d3 d4
  go_wp2_with fail
  refine (commands_any c N16 N20 w3).mono ?_
  rintro e w4 ⟨rfl, hw4⟩
  obtain ⟨bc, hbc⟩ : ∃ x, x = w3.heap.size := ⟨_, rfl⟩
  obtain ⟨bm, hbm⟩ : ∃ x, x = w3.heap.size + 1 := ⟨_, rfl⟩
  obtain ⟨bl, hbl⟩ : ∃ x, x = w3.heap.size + 2 := ⟨_, rfl⟩
  rw [← hbl, ← hbm, ← hbc]
  have x1 : w4.heap[bc]? = some (.cells #[.pointer (some ⟨c, 0, none⟩)] 89 (0, 0)) := by
    rw [hw4, hbc]; exact (((Chg.refl [] _).alloc _).alloc _).heap (heap_alloc_eq _ _) (by simp)
  have x2 : w4.heap[bm]? = some (.cells #[.int .i64 (N16 : Int)] 3 (0, 0)) := by
    rw [hw4, hbm, show w3.heap.size + 1 = (w3.alloc (.cells #[.pointer (some ⟨c, 0, none⟩)] 89)).heap.size by simp]; exact ((Chg.refl [] _).alloc _).heap (heap_alloc_eq _ _) (by simp)
  have x3 : w4.heap[bl]? = some (.cells #[.int .i64 (N20 : Int)] 3 (0, 0)) := by
    rw [hw4, hbl, show w3.heap.size + 2 = ((w3.alloc (.cells #[.pointer (some ⟨c, 0, none⟩)] 89)).alloc (.cells #[.int .i64 (N16 : Int)] 3)).heap.size by simp]; exact heap_alloc_eq _ _
  have hs4 : w4.heap.size = bl + 1 := by rw [hw4, hbl]; simp
  have C4 : Hid (Chg [] w3 w4) := Lib.hid (by rw [hw4]; exact (((Chg.refl _ _).alloc _).alloc _).alloc _)
  have LB : Hid (bc = ob + 1 ∧ bm = ob + 2 ∧ bl = ob + 3 ∧ w4.heap.size = ob + 4) := Lib.hid (by omega)
  clear hw4 hbc hbm hbl hs4 hs3 d3 d4
  have IT0 : Hid (ItS w4 c bm bl bc l N16 32 N20) := Lib.hid (⟨HCU2.out.frame (C3.out.then C4.out), x2, x3, x1⟩)
  clear x1 x2 x3
  replace b1 := C4.out.heap b1 (by simp)
  replace b2 := C4.out.heap b2 (by simp)
  replace b3 := C4.out.heap b3 (by simp)
  replace b6 := C4.out.heap b6 (by simp)
  replace bo := C4.out.heap bo (by simp)
  go_wp2_with fail
  refine (wpIn_wide (n := 10)).1 ?_
  refine range_wide (gf := 74) (lb := #[.pointer (some ⟨bm, 0, none⟩), .pointer (some ⟨bl, 0, none⟩), .pointer (some ⟨bc, 0, none⟩)]) rfl (enters_of Tryz.func74 (by kernel_rfl) rfl) ?_
  intro lr D Rdy Busy Done W1 hD hlr hRl hBl hDl hround hcW hsW hRdy
  have lw := LW.out
  have lc := LC.out
  have lo := LO.out
  have lb := LB.out
  obtain ⟨Rs, hRs⟩ : ∃ Rs : World → Prop, Rs = fun W => W.heap[r1]? = some (.cells #[.int .i64 0, .int .i64 0, .int .u32 0, .int .i64 0, .int .i64 0] 70 (0, 0)) ∧ W.heap[r2]? = some (.cells #[.slice none 0 0] 50 (0, 0)) ∧ W.heap[r3]? = some (.cells #[.nilIface] 72 (0, 0)) ∧ W.heap[r6]? = some (.cells #[.int .i64 (S : Int), .int .i64 (N12 : Int), .int .u32 (N24 : Int), .int .i64 (N16 : Int), .int .i64 (N20 : Int)] 70 (0, 0)) := ⟨_, rfl⟩
  obtain ⟨J, hJd⟩ : ∃ J : Nat → World → Prop, J = fun k W => ∃ v ps, W.heap[ob]? = some (.cells #[v] 50 (0, 0)) ∧ OutC W W1.heap.size v ps ∧ ps.map Prod.fst = cmdsC l N20 k ∧ Rdy W ∧ Rs W ∧ Chg [] w W ∧ W1.heap.size ≤ W.heap.size := ⟨_, rfl⟩
  obtain ⟨Jx, hJx⟩ : ∃ Jx : World → Prop, Jx = fun W => Done .ret W ∧ W.heap[r1]? = some (.cells #[.int .i64 0, .int .i64 0, .int .u32 0, .int .i64 0, .int .i64 0] 70 (0, 0)) ∧ W.heap[r2]? = some (.cells #[.slice none 0 0] 50 (0, 0)) ∧ W.heap[r3]? = some (.cells #[.iface 33 (.int .i64 7)] 72 (0, 0)) ∧ Chg [] w W := ⟨_, rfl⟩
  have hw4 : w.heap.size ≤ w4.heap.size := ((C2.out.then C3.out).then C4.out).size
  have hRs0 : ∀ S A B, Rs A → Chg S A B → (r1 ∉ S ∧ r2 ∉ S ∧ r3 ∉ S ∧ r6 ∉ S) → Rs B := by
    intro S A B hA hc hn
    rw [hRs] at hA ⊢
    exact ⟨hc.heap hA.1 hn.1, hc.heap hA.2.1 hn.2.1, hc.heap hA.2.2.1 hn.2.2.1, hc.heap hA.2.2.2 hn.2.2.2⟩
  have hJ : ∀ k A B, J k A → Chg [c, bl] A B → J k B := by
    intro k A B hA hc
    rw [hJd] at hA ⊢
    obtain ⟨v, ps, h1, h2, h3, h4, h5, h6, h7⟩ := hA
    exact ⟨v, ps, hc.heap h1 (by simp; omega), h2.frame hc (fun i hi => by simp at hi; omega), h3, hRl _ _ _ h4 hc (by simp; omega) (by simp; omega), hRs0 _ _ _ h5 hc (by simp; omega), h6.trans hc (fun i hi _ => by simp at hi; omega), Nat.le_trans h7 hc.size⟩
  have hJ0 : J 0 W1 := by
    rw [hJd, hRs]
    refine ⟨.slice none 0 0, [], hcW.heap bo (by simp), OutC.nil _ _, rfl, hRdy, ⟨hcW.heap b1 (by simp), hcW.heap b2 (by simp), hcW.heap b3 (by simp), hcW.heap b6 (by simp)⟩, ((C2.out.then C3.out).then C4.out).then hcW, Nat.le_refl _⟩
  have hIT1 : ItS W1 c bm bl bc l N16 32 N20 := IT0.out.keep ⟨[], hcW, fun _ hm => (by cases hm)⟩
  have HRl := Lib.hid hRl
  have HBl := Lib.hid hBl
  have HDl := Lib.hid hDl
  have HRND := Lib.hid hround
  have HcW := Lib.hid hcW
  have HsW := Lib.hid hsW
  have HRdy := Lib.hid hRdy
  have HRs := Lib.hid hRs
  have HJd := Lib.hid hJd
  have HJx := Lib.hid hJx
  have HRs0 := Lib.hid hRs0
  have HJ := Lib.hid hJ
  have HJ0 := Lib.hid hJ0
  have HIT1 := Lib.hid hIT1
  have Hw4 := Lib.hid hw4
  have B1 := Lib.hid b1
  have B2 := Lib.hid b2
  have B3 := Lib.hid b3
  have B6 := Lib.hid b6
  have BO := Lib.hid bo
  have HD := Lib.hid hD
  have Hlr := Lib.hid hlr
  clear hRl hBl hDl hround hcW hsW hRdy hRs hJd hJx hRs0 hJ hJ0 hIT1 hw4 b1 b2 b3 b6 bo hD hlr
  refine (iter_any N16 N20 l c bm bl bc (by omega) lr J Jx HJ.out ?hY ?hE HZ.out (by have := HB16.out; omega) hl W1 HIT1.out HJ0.out).mono ?_
  case hY =>
    intro k A0 A v hj hc0 hk hall hb
    rw [HJd.out] at hj
    obtain ⟨v0, ps, ho0, hO0, hmap, hrd0, hrs0, hcg0, hsz0⟩ := hj
    have hnn : c < ob ∧ ob < bl ∧ bl < W1.heap.size ∧ bl < D ∧ D < lr ∧ lr < W1.heap.size ∧ r1 < c ∧ r2 < c ∧ r3 < c ∧ c < r6 ∧ r6 < ob ∧ w.heap.size ≤ r1 ∧ ob < bc ∧ bc < bl ∧ ob < bm ∧ bm < bl := by
      have := HsW.out; have := Hlr.out; have := HD.out; have := LB.out; have := LW.out; have := LC.out; have := LO.out; omega
    have ho := hc0.heap ho0 (by simp; omega)
    have hO := hO0.frame hc0 (fun i hi => by simp at hi; omega)
    have hrd := HRl.out _ _ _ hrd0 hc0 (by simp; omega) (by simp; omega)
    have hrs := HRs0.out _ _ _ hrs0 hc0 (by simp; omega)
    have hcg : Chg [] w A := hcg0.trans hc0 (fun i hi hw => by simp at hi; omega)
    have hsz := Nat.le_trans hsz0 hc0.size
    have HNN := Lib.hid (hnn)
    obtain ⟨aV, cV, hvf⟩ := hb.form
    generalize hnV : (cmdC l N20 k).2.length = nV at hvf
    subst hvf
    obtain ⟨aO, nO, cO, rfl⟩ := own_form hO.own
    obtain ⟨cn, hcn⟩ : ∃ x, x = (cmdC l N20 k).1 := ⟨_, rfl⟩
    rw [← hcn]
    refine HRND.out _ A _ rfl hrd ?_
    have hoc := cell_of_heap ho 0
    have hof := frozen_of_heap ho 0
    simp at hoc
    have Hc0 := Lib.hid hc0
    have Hall := Lib.hid hall
    have Hb := Lib.hid hb
    have Ho := Lib.hid ho
    have HO := Lib.hid hO
    have Hmap := Lib.hid hmap
    have Hrd := Lib.hid hrd
    have HRS := Lib.hid hrs
    have Hcg := Lib.hid hcg
    have Hsz := Lib.hid hsz
    have HnV := Lib.hid hnV
    have Hcn := Lib.hid hcn
    have Ho0 := Lib.hid ho0
    have HO0 := Lib.hid hO0
    have Hsz0 := Lib.hid hsz0
    have Hrd0 := Lib.hid hrd0
    have Hrs0 := Lib.hid hrs0
    have Hcg0 := Lib.hid hcg0
    clear hc0 hall hb ho hO hmap hrd hrs hcg hsz hnV hcn ho0 hO0 hsz0 hrd0 hrs0 hcg0
    clear hnn
    clear lw lc lo lb
    gi_wp2
    obtain ⟨xb, hxb⟩ : ∃ x, x = A.heap.size := ⟨_, rfl⟩
    obtain ⟨A1, hA1⟩ : ∃ x, x = A.alloc (.cells #[.int .u32 (cn : Int), .slice aV nV cV] 67) := ⟨_, rfl⟩
    rw [← hA1, ← hxb]
    have hx1 : A1.heap[xb]? = some (.cells #[.int .u32 (cn : Int), .slice aV nV cV] 67 (0, 0)) := by rw [hA1, hxb]; exact heap_alloc_eq _ _
    have hcA1 : Chg [] A A1 := by rw [hA1]; exact (Chg.refl _ _).alloc _
    refine ⟨HRl.out _ _ _ Hrd.out hcA1 (by simp) (by simp), ?_⟩
    intro A2 hc2 hbusy
    have hlx : lr < xb := by
      have := HsW.out; have := Hsz.out; have := Hlr.out; omega
    have hc02 : Chg [lr] A A2 := (hcA1.add).same hc2
    have hx2 := hc2.heap hx1 (by simp; omega)
    have ho2 := hc02.heap Ho.out (by have := Hlr.out; have := LB.out; simp; omega)
    have hO2 : OutC A2 W1.heap.size (.slice aO nO cO) ps := HO.out.frame hc02 (fun i hi => by have := HsW.out; have := Hlr.out; simp at hi; omega)
    have hRs2 := HRs0.out _ _ _ HRS.out hc02 (by have := Hlr.out; have := LB.out; have := LW.out; have := LC.out; have := LO.out; simp; omega)
    have hsz2 : W1.heap.size ≤ A2.heap.size := Nat.le_trans Hsz.out hc02.size
    have e0 := cell_of_heap hx2 0
    have e1 := cell_of_heap hx2 1
    have hoc := cell_of_heap ho2 0
    have hof := frozen_of_heap ho2 0
    simp at e0 e1 hoc
    clear hof hoc
    have hoc := cell_of_heap ho2 0
    have hof := frozen_of_heap ho2 0
    simp at hoc
    have Hx1 := Lib.hid hx1
    have HcA1 := Lib.hid hcA1
    have Hc2 := Lib.hid hc2
    have Hbusy := Lib.hid hbusy
    have HLX := Lib.hid hlx
    have Hc02 := Lib.hid hc02
    have Hx2 := Lib.hid hx2
    have Ho2 := Lib.hid ho2
    have HO2 := Lib.hid hO2
    have HRs2 := Lib.hid hRs2
    have Hsz2 := Lib.hid hsz2
    have HA1 := Lib.hid hA1
    have Hxb := Lib.hid hxb
    clear hx1 hcA1 hc2 hbusy hlx hc02 hx2 ho2 hO2 hRs2 hsz2 hA1 hxb
    gi_wp2_with fail
    refine ⟨trivial, ?_⟩
    refine (CallsIn.inRound lr (callsIn_wide.2 (is_none 7 A2))).mono ?_
    rintro e A3 ⟨rfl, rfl⟩
    have HLEN : Hid (ps.length = k) := by
      refine Lib.hid ?_
      have := congrArg List.length Hmap.out
      rwa [List.length_map, cmdsC_len] at this
    gi_wp2_with (gi_at_builtin; refine appIn_cmd rfl _ _ rfl W1.heap.size (.slice aO nO cO) ps rfl (HO2.out.frame (S := []) ((Chg.refl [] A2).alloc _) (fun _ h => by cases h)).own A2.heap.size cn aV nV cV rfl (heap_alloc_eq _ _) (by have := HLEN.out; have := HB16.out; omega) (by have := Hsz2.out; simp only [World.alloc, Array.size_push]; omega) ?_; intro v' A4 hown' hgrow; refine Hid.out ?_)
    refine Lib.hid ?_
    obtain ⟨aN, nN, cN, rfl⟩ := own_form hown'
    have hnn := HNN.out
    have hob4 : ob ∉ (Value.slice aO nO cO).ownBlock.toList := fun hm => by
      have := (World.ownsRow.lt HO2.out.own ob (by simpa using hm)).1
      omega
    have hc24 : Chg ((Value.slice aO nO cO).ownBlock.toList) A2 A4 := (((Chg.refl [] A2).alloc _).add).same (Chg.of_grown hgrow)
    have ho4 := hc24.heap Ho2.out hob4
    have hoc := cell_of_heap ho4 0
    have hof := frozen_of_heap ho4 0
    simp at hoc
    clear hnn
    have Hown' := Lib.hid hown'
    have Hgrow := Lib.hid hgrow
    have Hob4 := Lib.hid hob4
    have Hc24 := Lib.hid hc24
    have Ho4 := Lib.hid ho4
    clear hown' hgrow hob4 hc24 ho4
    gi_wp2
    obtain ⟨A5, hA5⟩ : ∃ x, x = A4.setCell ⟨ob, 0, none⟩ (.slice aN nN cN) := ⟨_, rfl⟩
    rw [← hA5]
    have hc45 : Chg [ob] A4 A5 := by rw [hA5]; exact (Chg.refl _ _).setCell _ _ (.inl (by simp))
    have ho5 : A5.heap[ob]? = some (.cells #[.slice aN nN cN] 50 (0, 0)) := by rw [hA5]; exact heap_setCell Ho4.out 0 _
    clear hA5 hoc hof
    have hS4 : ∀ i ∈ (Value.slice aO nO cO).ownBlock.toList, W1.heap.size ≤ i := fun i hm => (World.ownsRow.lt HO2.out.own i (by simpa using hm)).1
    have hnn := HNN.out
    have hc25 : Chg (ob :: (Value.slice aO nO cO).ownBlock.toList) A2 A5 := (Hc24.out.mono (fun i hm _ => List.mem_cons_of_mem _ hm)).trans hc45 (fun i hm _ => by rw [List.mem_singleton] at hm; subst hm; exact List.mem_cons_self ..)
    have hout : ∀ r, r < W1.heap.size → r ≠ ob → r ∉ (ob :: (Value.slice aO nO cO).ownBlock.toList) := fun r hr hne hm => by
      rcases List.mem_cons.1 hm with h | h
      · exact hne h
      · have := hS4 r h; omega
    show Busy A5 ∧ (∀ B', Chg [lr] A5 B' → Rdy B' → _)
    refine ⟨HBl.out _ _ _ Hbusy.out hc25 (hout lr (by omega) (by omega)) (hout D (by omega) (by omega)), ?_⟩
    intro B' hcB hrB
    have hc2B : Chg (lr :: ob :: (Value.slice aO nO cO).ownBlock.toList) A2 B' := (hc25.mono (fun i hm _ => List.mem_cons_of_mem _ hm)).trans hcB (fun i hm _ => by rw [List.mem_singleton] at hm; subst hm; exact List.mem_cons_self ..)
    have hcAB : Chg (lr :: ob :: (Value.slice aO nO cO).ownBlock.toList) A B' := (Hc02.out.mono (fun i hm _ => by rw [List.mem_singleton] at hm; subst hm; exact List.mem_cons_self ..)).same hc2B
    have hout2 : ∀ r, r < W1.heap.size → r ≠ ob → r ≠ lr → r ∉ (lr :: ob :: (Value.slice aO nO cO).ownBlock.toList) := fun r hr hne hne2 hm => by
      rcases List.mem_cons.1 hm with h | h
      · exact hne2 h
      · exact hout r hr hne h
    refine ⟨rfl, ?_, ⟨_, hcAB, fun i hi => ?_⟩⟩
    · rw [HJd.out]
      have hbV : Buf A2 W1.heap.size (.slice aV nV cV) (cmdC l N20 k).2 := (Hb.out.mono Hsz0.out).frame Hc02.out (fun b hb hm => by
        have := (World.ownsRow.lt Hb.out b hb).1
        have := Hsz0.out
        rw [List.mem_singleton] at hm
        omega)
      have hfr : ∀ {u : Value} {x : List UInt8}, Buf A2 W1.heap.size u x → Buf B' W1.heap.size u x := fun hu => hu.frame hc2B (fun b hb hm => by
        have h1 := (World.ownsRow.lt hu b hb).1
        rcases List.mem_cons.1 hm with h | h
        · omega
        · rcases List.mem_cons.1 h with h | h
          · omega
          · exact own_ne hu HO2.out.own b hb h)
      have hownB := owned_frame Hown'.out (hc45.mono (S' := [lr, ob]) (fun i hm _ => by simp at hm ⊢; exact .inr hm) |>.trans hcB (fun i hm _ => by simp at hm ⊢; exact .inl hm)) (fun b hb hm => by
        have h1 := (World.ownsRow.lt Hown'.out b hb).1
        simp at hm
        omega)
      refine ⟨.slice aN nN cN, ps ++ [((cn, (cmdC l N20 k).2), .slice aV nV cV)], hcB.heap ho5 (by simp; omega), ⟨?_, ?_, ?_⟩, ?_, hrB, HRs0.out _ _ _ HRs2.out hc2B ⟨hout2 r1 (by omega) (by omega) (by omega), hout2 r2 (by omega) (by omega) (by omega), hout2 r3 (by omega) (by omega) (by omega), hout2 r6 (by omega) (by omega) (by omega)⟩, Hcg.out.trans hcAB (fun i hi hw => ?_), Nat.le_trans Hsz.out hcAB.size⟩
      · rw [cmdV_snoc, List.length_append]
        exact hownB
      · intro p hp
        rcases List.mem_append.1 hp with h | h
        · exact hfr (HO2.out.each p h)
        · rw [List.mem_singleton] at h
          subst h
          exact hfr hbV
      · refine List.pairwise_append.2 ⟨HO2.out.sep, List.pairwise_singleton _ _, fun p hp q hq => ?_⟩
        rw [List.mem_singleton] at hq
        subst hq
        have hpos : 0 < (cmdC l N20 k).2.length := by
          rw [cmdC_len l N20 k HZ.out Hall.out]
          have := Hall.out
          rw [allC_succ, Bool.and_eq_true] at this
          have := ((okC_eq l N20 k).1 this.2).2.1
          omega
        rcases Hb.out.2 with ⟨h1, h2⟩ | ⟨g, cap', cur, h1, _⟩
        · have h2' := HnV.out
          injection h1 with _ h3 _
          omega
        · rw [h1]
          intro he
          have h3 := (World.ownsRow.lt (HO0.out.each p hp) g he).2
          have h4 := (World.ownsRow.lt Hb.out g (by rw [h1]; rfl)).1
          omega
      · rw [List.map_append, Hmap.out, cmdsC_succ, Hcn.out]
        rfl
      · rcases List.mem_cons.1 hi with h | h
        · omega
        · rcases List.mem_cons.1 h with h | h
          · omega
          · have := hS4 i h
            omega
    · rcases List.mem_cons.1 hi with h | h
      · omega
      · rcases List.mem_cons.1 h with h | h
        · omega
        · have := hS4 i h
          omega
  case hE =>
    intro k A hj hk hall
    rw [HJd.out] at hj
    obtain ⟨v0, ps, ho, hO, hmap, hrd, hrs, hcg, hsz⟩ := hj
    have hnn : c < ob ∧ ob < bl ∧ bl < W1.heap.size ∧ bl < D ∧ D < lr ∧ lr < W1.heap.size ∧ r1 < c ∧ r2 < c ∧ r3 < c ∧ c < r6 ∧ r6 < ob ∧ w.heap.size ≤ r1 ∧ ob < bc ∧ bc < bl ∧ ob < bm ∧ bm < bl := by
      have := HsW.out; have := Hlr.out; have := HD.out; have := LB.out; have := LW.out; have := LC.out; have := LO.out; omega
    have HNN := Lib.hid (hnn)
    refine HRND.out _ A _ rfl hrd ?_
    have Hall := Lib.hid hall
    have Ho := Lib.hid ho
    have HO := Lib.hid hO
    have Hmap := Lib.hid hmap
    have Hrd := Lib.hid hrd
    have HRS := Lib.hid hrs
    have Hcg := Lib.hid hcg
    have Hsz := Lib.hid hsz
    clear hall ho hO hmap hrd hrs hcg hsz
    clear hnn
    clear lw lc lo lb
    gi_wp2
    obtain ⟨xb, hxb⟩ : ∃ x, x = A.heap.size := ⟨_, rfl⟩
    obtain ⟨A1, hA1⟩ : ∃ x, x = A.alloc (.cells #[.int .u32 0, .slice none 0 0] 67) := ⟨_, rfl⟩
    rw [← hA1, ← hxb]
    have hcA1 : Chg [] A A1 := by rw [hA1]; exact (Chg.refl _ _).alloc _
    refine ⟨HRl.out _ _ _ Hrd.out hcA1 (by simp) (by simp), ?_⟩
    intro A2 hc2 hbusy
    have hc02 : Chg [lr] A A2 := (hcA1.add).same hc2
    have hRs2 := HRs0.out _ _ _ HRS.out hc02 (by have := HNN.out; simp; omega)
    rw [HRs.out] at hRs2
    obtain ⟨hb1, hb2, hb3, hb6⟩ := hRs2
    have HcA1 := Lib.hid hcA1
    have Hc2 := Lib.hid hc2
    have Hbusy := Lib.hid hbusy
    have Hc02 := Lib.hid hc02
    have B1' := Lib.hid hb1
    have B2' := Lib.hid hb2
    have B3' := Lib.hid hb3
    have B6' := Lib.hid hb6
    have HA1 := Lib.hid hA1
    have Hxb := Lib.hid hxb
    clear hcA1 hc2 hbusy hc02 hb1 hb2 hb3 hb6 hA1 hxb
    gi_wp2_with fail
    refine ⟨trivial, ?_⟩
    refine (CallsIn.inRound lr (callsIn_wide.2 (is_errno 7 A2))).mono ?_
    rintro e A3 ⟨rfl, rfl⟩
    have n12 : ¬ r1 = r2 := by have := LW.out; omega
    have n13 : ¬ r1 = r3 := by have := LW.out; omega
    have n23 : ¬ r2 = r3 := by have := LW.out; omega
    have n21 : ¬ r2 = r1 := by omega
    have n31 : ¬ r3 = r1 := by omega
    have n32 : ¬ r3 = r2 := by omega
    have f0 := frozen_of_heap B1'.out 0
    have f1 := frozen_of_heap B1'.out 1
    have f2 := frozen_of_heap B1'.out 2
    have f3 := frozen_of_heap B1'.out 3
    have f4 := frozen_of_heap B1'.out 4
    have d0 := cell_of_heap B1'.out 0
    have d1 := cell_of_heap B1'.out 1
    have d2 := cell_of_heap B1'.out 2
    have d3 := cell_of_heap B1'.out 3
    have d4 := cell_of_heap B1'.out 4
    have f5 := frozen_of_heap B2'.out 0
    have d5 := cell_of_heap B2'.out 0
    have f6 := frozen_of_heap B3'.out 0
    have d6 := cell_of_heap B3'.out 0
    simp at d0 d1 d2 d3 d4 d5 d6
    gi_wp2
    obtain ⟨wH, hwH⟩ : ∃ x, x = ((setH A2 r1 0 0 0 0 0).setCell ⟨r2, 0, none⟩ (.slice none 0 0)).setCell ⟨r3, 0, none⟩ (.iface 33 (.int .i64 7)) := ⟨_, rfl⟩
    show bodyLeft _ _ _ _ _ _ _ (((setH A2 r1 0 0 0 0 0).setCell ⟨r2, 0, none⟩ (.slice none 0 0)).setCell ⟨r3, 0, none⟩ (.iface 33 (.int .i64 7)))
    rw [← hwH]
    have q1 : wH.heap[r1]? = some (.cells #[.int .i64 0, .int .i64 0, .int .u32 0, .int .i64 0, .int .i64 0] 70 (0, 0)) := by
      rw [hwH, heap_setCell_ne (by simpa using n13), heap_setCell_ne (by simpa using n12)]
      exact setH_heap 0 0 0 0 0 B1'.out
    have q2 : wH.heap[r2]? = some (.cells #[.slice none 0 0] 50 (0, 0)) := by
      rw [hwH, heap_setCell_ne (by simpa using n23)]
      exact heap_setCell ((setH_chg A2 r1 0 0 0 0 0).heap B2'.out (by simpa using n21)) 0 _
    have q3 : wH.heap[r3]? = some (.cells #[.iface 33 (.int .i64 7)] 72 (0, 0)) := by
      rw [hwH]
      refine heap_setCell (c := #[.nilIface]) ?_ 0 _
      rw [heap_setCell_ne (by simpa using n32)]
      exact (setH_chg A2 r1 0 0 0 0 0).heap B3'.out (by simpa using n31)
    have hc2H : Chg [r1, r2, r3] A2 wH := by
      rw [hwH]
      exact (((setH_chg A2 r1 0 0 0 0 0).mono (fun i hm _ => by simp at hm ⊢; exact .inl hm)).setCell _ _ (.inl (by simp))).setCell _ _ (.inl (by simp))
    clear hwH f0 f1 f2 f3 f4 f5 f6 d0 d1 d2 d3 d4 d5 d6
    have hnn := HNN.out
    have lw := LW.out
    show Busy wH ∧ (∀ B', Chg [lr] wH B' → Done .ret B' → _)
    refine ⟨HBl.out _ _ _ Hbusy.out hc2H (by simp; omega) (by simp; omega), ?_⟩
    intro B' hcB hdB
    refine ⟨rfl, ?_⟩
    rw [HJx.out]
    refine ⟨hdB, hcB.heap q1 (by simp; omega), hcB.heap q2 (by simp; omega), hcB.heap q3 (by simp; omega), ((Hcg.out.trans Hc02.out (fun i hi hw => ?_)).trans hc2H (fun i hi hw => ?_)).trans hcB (fun i hi hw => ?_)⟩
    · simp at hi; omega
    · simp at hi; omega
    · simp at hi; omega
  rintro e B ⟨⟨v, rfl⟩, hend⟩
  refine ⟨⟨_, rfl⟩, ?_⟩
  rcases hend with ⟨hall, hj⟩ | ⟨hall, hjx⟩
  · refine .inl ?_
    rw [HJd.out] at hj
    obtain ⟨vo, ps, ho, hO, hmap, hrd, hrs, hcg, hsz⟩ := hj
    obtain ⟨aO, nO, cO, rfl⟩ := own_form hO.own
    refine ⟨hrd, ?_⟩
    intro B' hcB hkD
    have hnn : c < ob ∧ ob < bl ∧ bl < W1.heap.size ∧ bl < D ∧ D < lr ∧ lr < W1.heap.size ∧ r1 < c ∧ r2 < c ∧ r3 < c ∧ c < r6 ∧ r6 < ob ∧ w.heap.size ≤ r1 ∧ ob < bc ∧ bc < bl ∧ ob < bm ∧ bm < bl := by
      have := HsW.out; have := Hlr.out; have := HD.out; have := LB.out; have := LW.out; have := LC.out; have := LO.out; omega
    have HNN := Lib.hid (hnn)
    have hrsB := HRs0.out _ _ _ hrs hcB (by simp; omega)
    rw [HRs.out] at hrsB
    obtain ⟨hb1, hb2, hb3, hb6⟩ := hrsB
    have hoB := hcB.heap ho (by simp; omega)
    have hOB : OutC B' W1.heap.size (.slice aO nO cO) ps := hO.frame hcB (fun i hi => by simp at hi; omega)
    have hcgB : Chg [] w B' := hcg.trans hcB (fun i hi hw => by simp at hi; omega)
    clear hnn lw lc lo lb
    have n12 : ¬ r1 = r2 := by have := LW.out; omega
    have n13 : ¬ r1 = r3 := by have := LW.out; omega
    have n23 : ¬ r2 = r3 := by have := LW.out; omega
    have n21 : ¬ r2 = r1 := by omega
    have n31 : ¬ r3 = r1 := by omega
    have n32 : ¬ r3 = r2 := by omega
    have f0 := frozen_of_heap hb1 0
    have f1 := frozen_of_heap hb1 1
    have f2 := frozen_of_heap hb1 2
    have f3 := frozen_of_heap hb1 3
    have f4 := frozen_of_heap hb1 4
    have d0 := cell_of_heap hb1 0
    have d1 := cell_of_heap hb1 1
    have d2 := cell_of_heap hb1 2
    have d3 := cell_of_heap hb1 3
    have d4 := cell_of_heap hb1 4
    have f5 := frozen_of_heap hb2 0
    have d5 := cell_of_heap hb2 0
    have f6 := frozen_of_heap hb3 0
    have d6 := cell_of_heap hb3 0
    have e0 := cell_of_heap hb6 0
    have e1 := cell_of_heap hb6 1
    have e2 := cell_of_heap hb6 2
    have e3 := cell_of_heap hb6 3
    have e4 := cell_of_heap hb6 4
    have e5 := cell_of_heap hoB 0
    simp at d0 d1 d2 d3 d4 d5 d6 e0 e1 e2 e3 e4 e5
    have B1' := Lib.hid hb1
    have B2' := Lib.hid hb2
    have B3' := Lib.hid hb3
    have B6' := Lib.hid hb6
    have BoB := Lib.hid hoB
    have HOB := Lib.hid hOB
    have HcgB := Lib.hid hcgB
    have HO := Lib.hid hO
    have Hrd := Lib.hid hrd
    have HRS := Lib.hid hrs
    have Hcg := Lib.hid hcg
    have Hsz := Lib.hid hsz
    have Ho := Lib.hid ho
    have HcB := Lib.hid hcB
    have HkD := Lib.hid hkD
    have Hmap := Lib.hid hmap
    have Hall := Lib.hid hall
    clear hb1 hb2 hb3 hb6 hoB hOB hcgB hO hrd hrs hcg hsz ho hcB hkD hmap hall
    go_wp2_with fail
    obtain ⟨no1, no2, no3⟩ : ¬ ob = r1 ∧ ¬ ob = r2 ∧ ¬ ob = r3 := by have := LW.out; have := LC.out; have := LO.out; omega
    obtain ⟨n61, n62, n63⟩ : ¬ r6 = r1 ∧ ¬ r6 = r2 ∧ ¬ r6 = r3 := by have := LW.out; have := LC.out; have := LO.out; omega
    go_region
    obtain ⟨wH, hwH⟩ : ∃ x, x = (((setH B' r1 S N12 N24 N16 N20).setCell ⟨r2, 0, none⟩ (.slice aO nO cO)).setCell ⟨r3, 0, none⟩ .nilIface).drew := ⟨_, rfl⟩
    show Exit.then _ _ _ _ (((setH B' r1 S N12 N24 N16 N20).setCell ⟨r2, 0, none⟩ (.slice aO nO cO)).setCell ⟨r3, 0, none⟩ .nilIface).drew
    rw [← hwH]
    obtain ⟨wX, hwX⟩ : ∃ x, x = setH B' r1 S N12 N24 N16 N20 := ⟨_, rfl⟩
    rw [← hwX] at hwH
    have p1 : wX.heap[r1]? = some (.cells #[.int .i64 S, .int .i64 N12, .int .u32 N24, .int .i64 N16, .int .i64 N20] 70 (0, 0)) := by
      rw [hwX]; exact setH_heap S N12 N24 N16 N20 B1'.out
    have hcX : Chg [r1] B' wX := by rw [hwX]; exact setH_chg B' r1 S N12 N24 N16 N20
    clear hwX
    have p2 := hcX.heap B2'.out (by simpa using n21)
    have p3 := hcX.heap B3'.out (by simpa using n31)
    have hcY : Chg [r2, r3] wX wH := by
      rw [hwH]
      exact (((Chg.refl _ _).setCell _ _ (.inl (by simp))).setCell _ _ (.inl (by simp))).drew
    have q1 := hcY.heap p1 (by simp; omega)
    have q2 : wH.heap[r2]? = some (.cells #[.slice aO nO cO] 50 (0, 0)) := by
      rw [hwH]
      refine ((Chg.refl [] _).drew).heap ?_ (by simp)
      rw [heap_setCell_ne (by simpa using n23)]
      exact heap_setCell p2 0 _
    have q3 : wH.heap[r3]? = some (.cells #[.nilIface] 72 (0, 0)) := by
      rw [hwH]
      refine ((Chg.refl [] _).drew).heap ?_ (by simp)
      refine heap_setCell (c := #[.nilIface]) ?_ 0 _
      rw [heap_setCell_ne (by simpa using n32)]
      exact p3
    have hcH : Chg [r1, r2, r3] B' wH := (hcX.mono (fun i hm _ => by simp at hm ⊢; exact .inl hm)).trans hcY (fun i hm _ => by simp at hm ⊢; exact .inr hm)
    clear hcX hcY p1 p2 p3
    clear hwH f0 f1 f2 f3 f4 f5 f6 d0 d1 d2 d3 d4 d5 d6 e0 e1 e2 e3 e4 e5 no1 no2 no3 n61 n62 n63 n12 n13 n21 n23 n31 n32
    have hnn := HNN.out
    have lw := LW.out
    have hkH := hcH.heap HkD.out (by simp; omega)
    obtain ⟨wF, hwF⟩ : ∃ x, x = wH.putObj D (.deferred none) := ⟨_, rfl⟩
    have hcF : Chg [D] wH wF := by rw [hwF]; exact (Chg.refl _ _).putObj _ _ (.inl (by simp))
    have g0 := cell_of_heap (hcF.heap q1 (by simp; omega)) 0
    have g1 := cell_of_heap (hcF.heap q1 (by simp; omega)) 1
    have g2 := cell_of_heap (hcF.heap q1 (by simp; omega)) 2
    have g3 := cell_of_heap (hcF.heap q1 (by simp; omega)) 3
    have g4 := cell_of_heap (hcF.heap q1 (by simp; omega)) 4
    have g5 := cell_of_heap (hcF.heap q2 (by simp; omega)) 0
    have g6 := cell_of_heap (hcF.heap q3 (by simp; omega)) 0
    simp at g0 g1 g2 g3 g4 g5 g6
    have HCH : Hid (Chg [] w wF) := Lib.hid ((HcgB.out.trans hcH (fun i hi hw => by simp at hi; omega)).trans hcF (fun i hi hw => by simp at hi; omega))
    have HOF : Hid (OutC wF W1.heap.size (.slice aO nO cO) ps) := Lib.hid ((HOB.out.frame hcH (fun i hi => by simp at hi; omega)).frame hcF (fun i hi => by simp at hi; omega))
    have HBA : Hid (w.heap.size ≤ W1.heap.size) := Lib.hid (Nat.le_trans Hw4.out HcW.out.size)
    have HKD := Lib.hid (hkH)
    clear lw hnn hkH hcH hcF q1 q2 q3
    go_wp2_with fail
    refine ⟨by simp, .inl ⟨_, _, rfl, run_takeDeferred HKD.out, ?_⟩⟩
    rw [← hwF]
    refine ⟨.tuple #[.agg #[.int .i64 S, .int .i64 N12, .int .u32 N24, .int .i64 N16, .int .i64 N20], .slice aO nO cO, .nilIface], by simp [results, Tryz.results24, go_sem, g0, g1, g2, g3, g4, g5, g6], ?_⟩
    refine .inl ⟨by rw [← H20.out, ← H16.out]; exact Hall.out, .slice aO nO cO, ps, W1.heap.size, ?_, HOF.out, by rw [← H20.out, ← H16.out]; exact Hmap.out, HBA.out, HCH.out⟩
    rw [HS.out, H12.out, H24.out, H16.out, H20.out]
  · refine .inr ?_
    rw [HJx.out] at hjx
    obtain ⟨hdn, hq1, hq2, hq3, hcg⟩ := hjx
    refine ⟨hdn, ?_⟩
    intro B' hcB hkD
    have hnn : c < ob ∧ ob < bl ∧ bl < W1.heap.size ∧ bl < D ∧ D < lr ∧ lr < W1.heap.size ∧ r1 < c ∧ r2 < c ∧ r3 < c ∧ c < r6 ∧ r6 < ob ∧ w.heap.size ≤ r1 ∧ ob < bc ∧ bc < bl ∧ ob < bm ∧ bm < bl := by
      have := HsW.out; have := Hlr.out; have := HD.out; have := LB.out; have := LW.out; have := LC.out; have := LO.out; omega
    obtain ⟨wF, hwF⟩ : ∃ x, x = B'.putObj D (.deferred none) := ⟨_, rfl⟩
    have hcF : Chg [D] B' wF := by rw [hwF]; exact (Chg.refl _ _).putObj _ _ (.inl (by simp))
    have g0 := cell_of_heap (hcF.heap (hcB.heap hq1 (by simp; omega)) (by simp; omega)) 0
    have g1 := cell_of_heap (hcF.heap (hcB.heap hq1 (by simp; omega)) (by simp; omega)) 1
    have g2 := cell_of_heap (hcF.heap (hcB.heap hq1 (by simp; omega)) (by simp; omega)) 2
    have g3 := cell_of_heap (hcF.heap (hcB.heap hq1 (by simp; omega)) (by simp; omega)) 3
    have g4 := cell_of_heap (hcF.heap (hcB.heap hq1 (by simp; omega)) (by simp; omega)) 4
    have g5 := cell_of_heap (hcF.heap (hcB.heap hq2 (by simp; omega)) (by simp; omega)) 0
    have g6 := cell_of_heap (hcF.heap (hcB.heap hq3 (by simp; omega)) (by simp; omega)) 0
    simp at g0 g1 g2 g3 g4 g5 g6
    have HCH : Hid (Chg [] w wF) := Lib.hid ((hcg.trans hcB (fun i hi hw => by simp at hi; omega)).trans hcF (fun i hi hw => by simp at hi; omega))
    rw [H20.out, H16.out] at hall
    have HALL := Lib.hid (hall)
    have HKD := Lib.hid (hkD)
    clear lw lc lo lb hkD hnn hall
    go_wp2_with fail
    refine ⟨by simp, .inl ⟨_, _, rfl, run_takeDeferred HKD.out, ?_⟩⟩
    rw [← hwF]
    refine ⟨.tuple #[.agg #[.int .i64 0, .int .i64 0, .int .u32 0, .int .i64 0, .int .i64 0], .slice none 0 0, .iface 33 (.int .i64 7)], by simp [results, Tryz.results24, go_sem, g0, g1, g2, g3, g4, g5, g6], ?_⟩
    exact .inr ⟨HALL.out, rfl, HCH.out⟩
end Go.Proofs.YtgjlgamlmmjdpaaGreatDoor
