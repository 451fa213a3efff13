/- A buffer that may have begun as a string's bytes, and a row of ints. -/
import Derived.Test.YtchkombikjcokaaDoorFatA
import Derived.Lib.ConvBytes
/- A buffer and a row of ints, both of the call's own; append of one int. -/
namespace Go.Proofs.YtchkombikjcokaaDoor
open Go.RowKit
set_option maxRecDepth 100000

theorem Tryd.infoInt : (Tryd.prog.info? 3).map (fun i => (i.zero, i.size, i.bytes)) = some (some (.int .i64 0), 1, 8) := by kernel_rfl
theorem Tryd.uIntsF : Tryd.prog.underlying 105 = some (.slice 3) := by kernel_rfl
def intsV (l : List Nat) : List Value := l.map fun n : Nat => .int .i64 (n : Int)
def IntBuf (w : World) (base : Nat) (v : Value) (l : List Nat) : Prop := w.ownsRow base 3 1 v l.length (intsV l)
theorem IntBuf.nil (w : World) (base : Nat) : IntBuf w base (.slice none 0 0) [] := World.ownsRow_nil w base 3 1
theorem IntBuf.frame {w w' : World} {base : Nat} {v : Value} {l : List Nat} (h : IntBuf w base v l) {S : List Nat} (k : Chg S w w') (hn : ∀ b, v.ownBlock = some b → b ∉ S) : IntBuf w' base v l := owned_frame h k hn
theorem IntBuf.pure {w w' : World} {base : Nat} {v : Value} {l : List Nat} (h : IntBuf w base v l) (k : Chg [] w w') : IntBuf w' base v l := h.frame k (fun _ _ hm => by cases hm)
theorem IntBuf.rd {w : World} {base : Nat} {v : Value} {l : List Nat} (h : IntBuf w base v l) : Rd w v (intsV l) := Rd.owned h
theorem IntBuf.form {w : World} {base : Nat} {v : Value} {l : List Nat} (h : IntBuf w base v l) : ∃ a cap, v = .slice a l.length cap ∧ l.length ≤ cap ∧ cap ≤ maxLen := by
  obtain ⟨a, n, cap, rfl, hn, h1, h2, _⟩ := h.rd
  have : n = l.length := by rw [hn]; simp [intsV]
  subst this
  exact ⟨a, cap, rfl, h1, h2⟩
/-- One of its cells. -/
theorem IntBuf.cell {w : World} {base : Nat} {a : Option Addr} {n cap : Nat} {l : List Nat} (h : IntBuf w base (.slice a n cap) l) (k : Nat) (hk : k < l.length) :
    ∃ b off, a = some ⟨b, off, none⟩ ∧ w.cell? ⟨b, off + k, none⟩ = some (.int .i64 (l.getD k 0 : Nat)) := by
  obtain ⟨a', n', cap', he, _, _, _, hx⟩ := h.rd
  cases he
  obtain ⟨b, off, ha, hc⟩ := hx (by intro e; have := congrArg List.length e; simp [intsV] at this; rw [this] at hk; simp at hk)
  refine ⟨b, off, ha, ?_⟩
  rw [hc k (by simpa [intsV] using hk)]
  simp [intsV, hk]
theorem app_int {w : World} {ops : Array Oper} {rest : List Oper} {o : Oper} {a : Act} {Q : Exit → Act → World → Prop} (hgd : o.guard = none) (s x : Operand)
    (ho : o.op = .call { callee := .builtin .append, args := #[s, x], argTypes := #[105, 105] }) (base : Nat) (v : Value) (l : List Nat) (hs : a.eval s = v) (hown : IntBuf w base v l)
    (q n : Nat) {T : TypeId} (hx : a.eval x = .slice (some ⟨q, 0, none⟩) 1 1) (hq : w.heap[q]? = some (.cells #[.int .i64 (n : Int)] T (0, 0))) (hlen : l.length ≤ 1000000) (hbase : base ≤ w.heap.size)
    (h : ∀ v' w', IntBuf w' base v' (l ++ [n]) → w.grownBy w' v.ownBlock → wpList Tryd.prog ops Q rest (a.put o.dst v') w') : wpList Tryd.prog ops Q (o :: rest) a w := by
  obtain ⟨i0, hi, hz0, hz1, hz2⟩ := info_parts Tryd.infoInt
  refine wpList_append_own_at _ hgd s x 105 ho base 3 i0 _ 1 8 Tryd.uIntsF hi hz0 hz1 hz2 rfl (by decide) v l.length (intsV l) hs hown ⟨q, 0, none⟩ 1 1 [.int .i64 (n : Int)] hx rfl ?_ (one_int _ _) (by unfold maxLen; omega) (by omega) hbase ?_
  · intro j u hu
    rw [Addr_add, Nat.zero_add, cell_of_heap hq]
    simpa using hu
  · intro v' w' h1 h2 _ _
    refine h v' w' ?_ h2
    unfold IntBuf
    rw [List.length_append, show intsV (l ++ [n]) = intsV l ++ [.int .i64 (n : Int)] by simp [intsV]]
    exact h1
/-- Since world w0 nothing has turned but new blocks; there stand a buffer and a row of ints. -/
structure RM (w0 w : World) (vb : Value) (lb : List UInt8) (vp : Value) (lp : List Nat) : Prop where
  buf : Buf w w0.heap.size vb lb
  ints : IntBuf w w0.heap.size vp lp
  chg : Chg [] w0 w
section
variable {w0 w w' : World} {vb vp v' : Value} {lb new : List UInt8} {lp lp' : List Nat}
theorem RM.pure (h : RM w0 w vb lb vp lp) (k : Chg [] w w') : RM w0 w' vb lb vp lp := ⟨h.buf.pure k, h.ints.pure k, h.chg.then k⟩
theorem RM.b (h : RM w0 w vb lb vp lp) (g : Grew w w0.heap.size vb lb w' v' new) : RM w0 w' v' (lb ++ new) vp lp :=
  ⟨g.buf, h.ints.frame g.chg (rows_ne h.ints h.buf (by decide)), h.chg.trans g.chg (fun i hm hi => by have := (World.ownsRow.lt h.buf i (by simpa using hm)).1; omega)⟩
theorem RM.p (h : RM w0 w vb lb vp lp) (hs : IntBuf w' w0.heap.size v' lp') (g : w.grownBy w' vp.ownBlock) : RM w0 w' vb lb v' lp' :=
  ⟨h.buf.frame (Chg.of_grown g) (rows_ne h.buf h.ints (by decide)), hs, h.chg.trans (Chg.of_grown g) (fun i hm hi => by have := (World.ownsRow.lt h.ints i (by simpa using hm)).1; omega)⟩
end
theorem anyM_succ (ms : List Mem) (k : Nat) : anyM ms (k + 1) = (anyM ms k || (ms.take k).any (likeM (ms.getD k .zero))) := by simp [anyM, List.range_succ]
theorem anyM_mono {ms : List Mem} {k : Nat} (h : anyM ms (k + 1) = true) (hk : k < ms.length) : anyM ms ms.length = true := by
  unfold anyM at h ⊢
  rw [List.any_eq_true] at h ⊢
  obtain ⟨x, hx, hp⟩ := h
  exact ⟨x, by rw [List.mem_range] at hx ⊢; omega, hp⟩
theorem take_anyM (q : Mem → Bool) (ms : List Mem) (j : Nat) (h : j < ms.length) : (ms.take (j + 1)).any q = ((ms.take j).any q || q (ms.getD j .zero)) := by
  rw [getD_take ms .zero j h, List.any_append]; simp
theorem take_anyM_mono {q : Mem → Bool} {ms : List Mem} {i k : Nat} (h : (ms.take i).any q = true) (hik : i ≤ k) : (ms.take k).any q = true := by
  rw [List.any_eq_true] at h ⊢
  obtain ⟨x, hx, hp⟩ := h
  have e : ms.take i = (ms.take k).take i := by rw [List.take_take, Nat.min_eq_left hik]
  rw [e] at hx
  exact ⟨x, List.mem_of_mem_take hx, hp⟩
end Go.Proofs.YtchkombikjcokaaDoor
/- A buffer that may have begun as a string's bytes (its block bears a mark behind its end). -/
namespace Go.Proofs.YtchkombikjcokaaDoor
open Go.RowKit
set_option maxRecDepth 100000

/-- Cells are stored where no mark lies. -/
theorem storeT (P : Program) (g o : Nat) (t : TypeId) (fz : Nat × Nat) : ∀ (vs : List Value) (i : Nat) (cur : Array Value) (w : World), w.heap[g]? = some (.cells cur t fz) → (cur.size ≤ fz.1 ∨ fz.2 = 0) → o + i + vs.length ≤ cur.size → (∀ v ∈ vs, v.oneCell' = true) →
    (storeCells ⟨g, o, none⟩ vs i).run P w = .ok () (w.setRow g (cur.toList.take (o + i) ++ vs ++ cur.toList.drop (o + i + vs.length)).toArray)
  | [], i, cur, w, hg, _, _, _ => by
    simp only [storeCells, List.append_nil, List.length_nil, Nat.add_zero, List.take_append_drop, Array.toArray_toList]
    rw [setRow_self w g cur t fz hg]
    rfl
  | v :: rest, i, cur, w, hg, hfz, hl, h1 => by
    have hi : o + i < cur.size := by simp at hl; omega
    have hadd : (⟨g, o, none⟩ : Addr).add i = ⟨g, o + i, none⟩ := by unfold Addr.add; split <;> simp_all
    have hcell : w.cell? ⟨g, o + i, none⟩ = some cur[o + i] := by simp [World.cell?, hg, hi]
    have hfro : w.frozen? ⟨g, o + i, none⟩ = false := by
      obtain ⟨lo, hi'⟩ := fz
      simp only [World.frozen?, hg, Bool.and_eq_false_iff, decide_eq_false_iff_not]
      simp only at hfz
      omega
    have hst : (store ((⟨g, o, none⟩ : Addr).add i) v).run P w = .ok () (w.setRow g (cur.setIfInBounds (o + i) v)) := by
      rw [hadd, run_store P w _ v _ (h1 v (by simp)), hcell]
      simp [hfro, setCell_eq_setRow w g (o + i) cur t fz v hg]
    have ih := storeT P g o t fz rest (i + 1) (cur.setIfInBounds (o + i) v) (w.setRow g (cur.setIfInBounds (o + i) v)) (setRow_heap w g cur _ t _ hg) (by simpa using hfz) (by simp at hl ⊢; omega) (fun x hx => h1 x (by simp [hx]))
    simp only [storeCells, Sem.run_bind, hst, Result.andThen_ok, ih, setRow_setRow]
    congr 3
    have e := list_seg_step cur.toList (o + i) v rest (by simp at hl ⊢; omega)
    simpa [Array.toList_setIfInBounds, Nat.add_assoc] using e

def BufQ (w : World) (base : Nat) (v : Value) (l : List UInt8) : Prop :=
  ∃ g cap cur fz, v = .slice (some ⟨g, 0, none⟩) l.length cap ∧ base ≤ g ∧ w.heap[g]? = some (.cells cur 5 fz) ∧ (cap ≤ fz.1 ∨ fz.2 = 0) ∧ l.length ≤ cap ∧ cap ≤ maxLen ∧ cur.size = cap ∧ cur.toList.take l.length = bytesV l
theorem BufQ.lt {w : World} {base : Nat} {v : Value} {l : List UInt8} (h : BufQ w base v l) : ∀ k, v.ownBlock = some k → base ≤ k ∧ k < w.heap.size := by
  obtain ⟨g, cap, cur, fz, rfl, hb, hg, _⟩ := h
  intro k hk
  cases hk
  exact ⟨hb, lt_of_heap hg⟩
theorem BufQ.frame {w w' : World} {base : Nat} {v : Value} {l : List UInt8} (h : BufQ w base v l) {S : List Nat} (k : Chg S w w') (hn : ∀ b, v.ownBlock = some b → b ∉ S) : BufQ w' base v l := by
  obtain ⟨g, cap, cur, fz, rfl, hb, hg, rest⟩ := h
  exact ⟨g, cap, cur, fz, rfl, hb, k.heap hg (hn g rfl), rest⟩
theorem BufQ.pure {w w' : World} {base : Nat} {v : Value} {l : List UInt8} (h : BufQ w base v l) (k : Chg [] w w') : BufQ w' base v l := h.frame k (fun _ _ hm => by cases hm)
theorem BufQ.mono {w : World} {base base' : Nat} {v : Value} {l : List UInt8} (h : BufQ w base v l) (hb : base' ≤ base) : BufQ w base' v l := by
  obtain ⟨g, cap, cur, fz, hv, hg, rest⟩ := h
  exact ⟨g, cap, cur, fz, hv, Nat.le_trans hb hg, rest⟩
theorem BufQ.rd {w : World} {base : Nat} {v : Value} {l : List UInt8} (h : BufQ w base v l) : Rd w v (bytesV l) := by
  obtain ⟨g, cap, cur, fz, rfl, hb, hg, _, hc, hm, hs, ht⟩ := h
  refine ⟨_, _, _, rfl, (bytesV_length l).symm, hc, hm, fun _ => ⟨g, 0, rfl, fun j hj => ?_⟩⟩
  rw [bytesV_length] at hj
  rw [Nat.zero_add, cell_of_heap hg, ← ht, List.getElem?_take, if_pos hj]
  simp
theorem BufQ.form {w : World} {base : Nat} {v : Value} {l : List UInt8} (h : BufQ w base v l) : ∃ a cap, v = .slice a l.length cap := by
  obtain ⟨g, cap, cur, fz, rfl, _⟩ := h
  exact ⟨_, _, rfl⟩
theorem BufQ.ne_at {w : World} {base : Nat} {v : Value} {l : List UInt8} (h : BufQ w base v l) {q : Nat} {c : Array Value} {T : TypeId} {fz : Nat × Nat} (hq : w.heap[q]? = some (.cells c T fz)) (hT : T ≠ 5) : q ∉ v.ownBlock.toList := by
  obtain ⟨g, cap, cur, fz, rfl, _, hg, _⟩ := h
  intro hm
  simp [Value.ownBlock] at hm
  subst hm
  rw [hg] at hq
  simp at hq
  exact hT hq.2.1.symm
theorem BufQ.ne_old {w : World} {base : Nat} {v : Value} {l : List UInt8} (h : BufQ w base v l) {q : Nat} (hq : q < base) : q ∉ v.ownBlock.toList := fun hm => by
  have := (h.lt q (by simpa using hm)).1
  omega
structure GrewQ (w : World) (base : Nat) (v : Value) (l : List UInt8) (w' : World) (v' : Value) (new : List UInt8) : Prop where
  buf : BufQ w' base v' (l ++ new)
  chg : Chg v.ownBlock.toList w w'
  own : v'.ownBlock = v.ownBlock ∨ ∃ k, v'.ownBlock = some k ∧ w.heap.size ≤ k
theorem run_app_Q (w : World) (ty : TypeId) (base : Nat) (v : Value) (l : List UInt8) (hb : BufQ w base v l) (xv : Value) (new : List UInt8) (hrd : Rd w xv (bytesV new)) (hle : l.length + new.length ≤ 140737488355328) (hbase : base ≤ w.heap.size) :
    ∃ v' w', (Builtin.append_ #[24, 24] ty #[v, xv]).run Tryd.prog w = .ok v' w' ∧ GrewQ w base v l w' v' new := by
  obtain ⟨i0, hi, hz0, hz1, hz2⟩ := info_parts Tryd.infoU8
  obtain ⟨ax, m, c, rfl, hm, _, _, hcl⟩ := id hrd
  rw [bytesV_length] at hm
  cases ax with
  | none =>
    have hl : new = [] := by
      cases new with
      | nil => rfl
      | cons b l => obtain ⟨_, _, h, _⟩ := hcl (by simp [bytesV]); cases h
    subst hl
    simp only [List.length_nil] at hm
    subst hm
    refine ⟨v, w, ?_, by rw [List.append_nil]; exact hb, Chg.refl _ _, .inl rfl⟩
    obtain ⟨g, cap, cur, fz, rfl, _, _, _, hnc, _⟩ := hb
    simp [Builtin.append_, run_underlying Tryd.underlying24, sizeOf, typeInfo, hi, Builtin.lenOf, Builtin.firstCells, hnc, storeCells]
  | some ad =>
    obtain ⟨hl, hc⟩ := Rd_bytes_cells hrd
    subst hl
    have hb0 := hb
    obtain ⟨g, cap, cur, fz, rfl, hbg, hg, hfz, hnc, hcm, hcs, htake⟩ := hb
    have hlen : (l ++ new).length = l.length + new.length := List.length_append
    by_cases hroom : l.length + new.length ≤ cap
    · have hf := run_firstCells_some (P := Tryd.prog) w i0.size new.length ad new.length c (bytesV new) (by rw [hz1, bytesV_length, Nat.mul_one]) hc
      have hst := storeT Tryd.prog g l.length 5 fz (bytesV new) 0 cur w hg (by omega) (by rw [bytesV_length]; omega) (bytes_one _)
      simp only [Nat.add_zero, bytesV_length] at hst
      have hr : (Builtin.append_ #[24, 24] ty #[.slice (some ⟨g, 0, none⟩) l.length cap, .slice (some ad) new.length c]).run Tryd.prog w =
          .ok (.slice (some ⟨g, 0, none⟩) (l.length + new.length) cap) (w.setRow g (cur.toList.take l.length ++ bytesV new ++ cur.toList.drop (l.length + new.length)).toArray) := by
        simp [Builtin.append_, run_underlying Tryd.underlying24, sizeOf, typeInfo, hi, hz1, Builtin.lenOf, hroom, Addr.add_lit]
        rw [hz1] at hf
        simp [hf, hst]
      refine ⟨_, _, hr, ⟨g, cap, _, fz, by rw [hlen], hbg, setRow_heap w g cur _ 5 fz hg, hfz, by omega, hcm, ?_, ?_⟩, ?_, .inl rfl⟩
      · simp only [List.size_toArray, List.length_append, List.length_take, List.length_drop, Array.length_toList, bytesV_length]
        omega
      · rw [htake, hlen, bytesV_append]
        have e : (bytesV l ++ bytesV new).length = l.length + new.length := by simp [bytesV_length]
        rw [← e]
        exact List.take_left
      · exact ⟨rfl, rfl, rfl, by simp, fun k _ hk => setRow_other w g k _ (fun e => hk (by simp [Value.ownBlock, e]))⟩
    · have holds : ∀ j u, (bytesV l)[j]? = some u → w.cell? ((⟨g, 0, none⟩ : Addr).add j) = some u := by
        intro j u hu
        rw [Addr_add, Nat.zero_add, cell_of_heap hg]
        have hj : j < l.length := by
          have := (List.getElem?_eq_some_iff.1 hu).1
          rwa [bytesV_length] at this
        rw [← htake, List.getElem?_take, if_pos hj] at hu
        simpa using hu
      have hr := run_append_grow (P := Tryd.prog) w 24 ty 5 i0 (.int .u8 0) Tryd.underlying24 hi hz0 ⟨g, 0, none⟩ l.length cap (bytesV l) (by rw [hz1, bytesV_length, Nat.mul_one]) holds ad new.length c (bytesV new) (by rw [hz1, bytesV_length, Nat.mul_one]) hc (by omega) (by omega) (by rw [hz2]; exact growslice_fits (by omega) (by omega))
      have hge := grownCap_ge w (l.length + new.length) cap 5
      have hcm2 : grownCap w (l.length + new.length) cap 5 ≤ maxLen := grownCap_le_maxLen w _ cap 5 (by unfold maxLen; omega)
      refine ⟨_, _, hr, ⟨w.heap.size, _, _, (0, 0), by rw [hlen], hbase, heap_alloc_new w.drew _, .inr rfl, by omega, hcm2, ?_, ?_⟩, ⟨rfl, rfl, rfl, by simp, fun k hk _ => heap_alloc_lt (w := w.drew) hk _⟩, .inr ⟨_, rfl, Nat.le_refl _⟩⟩
      · have hz1 : (Value.int IntKind.u8 0).cells.size = 1 := rfl
        simp only [Array.size_append, List.size_toArray, size_zeroCells, hz1, bytesV_length]
        omega
      · simp only [Array.toList_append, List.append_assoc]
        rw [← List.append_assoc, hlen, bytesV_append]
        have e : (bytesV l ++ bytesV new).length = l.length + new.length := by simp [bytesV_length]
        rw [← e]
        exact List.take_left
theorem app_Q {w : World} {ops : Array Oper} {rest : List Oper} {o : Oper} {a : Act} {Q : Exit → Act → World → Prop} (hgd : o.guard = none) (s x : Operand)
    (ho : o.op = .call { callee := .builtin .append, args := #[s, x], argTypes := #[24, 24] })
    (base : Nat) (v : Value) (l : List UInt8) (hs : a.eval s = v) (hown : BufQ w base v l) (xv : Value) (hx : a.eval x = xv) (new : List UInt8) (hrd : Rd w xv (bytesV new)) (hle : l.length + new.length ≤ 140737488355328) (hbase : base ≤ w.heap.size)
    (h : ∀ v' w', GrewQ w base v l w' v' new → wpList Tryd.prog ops Q rest (a.put o.dst v') w') : wpList Tryd.prog ops Q (o :: rest) a w := by
  refine wpList_plain hgd fun K hK => ?_
  obtain ⟨v', w', hr, hg⟩ := run_app_Q w o.type base v l hown xv new hrd hle hbase
  unfold Oper.wp execOp
  simp only [ho, resolve, invoke, builtin, Sem.run_bind, Sem.run_pure, Result.andThen_ok, List.map_toArray, List.map_cons, List.map_nil, hs, hx, hr]
  exact hK _ _ (h v' w' hg)
theorem arm_Q {o : Oper} {a : Act} {w : World} {K : Act → World → Prop} {Q : Exit → Act → World → Prop} {tm : Nat → Option Bool} (hgd : o.guard = none) (s x : Operand) (ho : o.op = .call { callee := .builtin .append, args := #[s, x], argTypes := #[24, 24] })
    (base : Nat) (v : Value) (l : List UInt8) (hs : a.eval s = v) (hb : BufQ w base v l) (xv : Value) (hx : a.eval x = xv) (new : List UInt8) (hrd : Rd w xv (bytesV new)) (hle : l.length + new.length ≤ 140737488355328) (hbase : base ≤ w.heap.size)
    (h : ∀ v' w', GrewQ w base v l w' v' new → K (a.put o.dst v') w') : if Region.wanted o tm = true then Oper.wp Tryd.prog o a w K Q else K (a.put o.dst undef) w := by
  rw [if_pos (by simp [Region.wanted, hgd])]
  obtain ⟨v', w', hr, hg⟩ := run_app_Q w o.type base v l hb xv new hrd hle hbase
  unfold Oper.wp execOp
  simp only [ho, resolve, invoke, builtin, Sem.run_bind, Sem.run_pure, Result.andThen_ok, List.map_toArray, List.map_cons, List.map_nil, hs, hx, hr]
  exact h _ _ hg
/-- A string's bytes are such a buffer. -/
theorem bytesWorld_chg (w : World) (s : ByteArray) : Chg [] w (Lib.bytesWorld w 5 s) := ⟨rfl, rfl, rfl, by rw [Lib.bytesWorld_size]; omega, fun k hk _ => Lib.bytesWorld_at_old w _ s k hk⟩
theorem bytesWorld_buf (w : World) (l : List UInt8) (h : l.length ≤ 1000000) : BufQ (Lib.bytesWorld w 5 ⟨l.toArray⟩) w.heap.size (.slice (some ⟨w.heap.size, 0, none⟩) l.length (grownCap w l.length 0 5)) l := by
  have hge := grownCap_ge w l.length 0 5
  have hcm := grownCap_le_maxLen w l.length 0 5 (by unfold maxLen; omega)
  have hs : (⟨l.toArray⟩ : ByteArray).size = l.length := by simp [ByteArray.size]
  have hsz : (Lib.bytesCells w 5 ⟨l.toArray⟩).size = grownCap w l.length 0 5 := by
    unfold Lib.bytesCells
    rw [hs]
    simp
    omega
  refine ⟨_, _, _, _, rfl, Nat.le_refl _, Lib.bytesWorld_at_new w _ _, .inl (by rw [hsz]; exact Nat.le_refl _), hge, hcm, hsz, ?_⟩
  unfold Lib.bytesCells
  simp [bytesV, byteV]
/-- Since world w0 nothing has turned but new blocks; there stand such a buffer and a row of ints. -/
structure RQ (w0 w : World) (vb : Value) (lb : List UInt8) (vp : Value) (lp : List Nat) : Prop where
  buf : BufQ w w0.heap.size vb lb
  ints : IntBuf w w0.heap.size vp lp
  chg : Chg [] w0 w
section
variable {w0 w w' : World} {vb vp v' : Value} {lb new : List UInt8} {lp lp' : List Nat}
theorem RQ.pure (h : RQ w0 w vb lb vp lp) (k : Chg [] w w') : RQ w0 w' vb lb vp lp := ⟨h.buf.pure k, h.ints.pure k, h.chg.then k⟩
theorem RQ.b (h : RQ w0 w vb lb vp lp) (g : GrewQ w w0.heap.size vb lb w' v' new) : RQ w0 w' v' (lb ++ new) vp lp := by
  refine ⟨g.buf, h.ints.frame g.chg (fun b hb hm => ?_), h.chg.trans g.chg (fun i hm hi => by have := (h.buf.lt i (by simpa using hm)).1; omega)⟩
  rcases h.ints.2 with ⟨rfl, _⟩ | ⟨q, cap, cur, rfl, _, hg, _⟩
  · simp [Value.ownBlock] at hb
  · simp [Value.ownBlock] at hb
    subst hb
    exact h.buf.ne_at hg (by decide) hm
theorem RQ.ne_int (h : RQ w0 w vb lb vp lp) : ∀ b, vp.ownBlock = some b → b ∉ vb.ownBlock.toList := by
  intro b hb hm
  rcases h.ints.2 with ⟨rfl, _⟩ | ⟨q, cap, cur, rfl, _, hg, _⟩
  · simp [Value.ownBlock] at hb
  · simp [Value.ownBlock] at hb
    subst hb
    exact h.buf.ne_at hg (by decide) hm
end
end Go.Proofs.YtchkombikjcokaaDoor
