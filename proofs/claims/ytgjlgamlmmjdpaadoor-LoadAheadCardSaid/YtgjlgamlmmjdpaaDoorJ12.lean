/- Lemmas, laid together: part 12 of 38. Conditions: none but each lemma's own. -/
import Derived.Test.YtgjlgamlmmjdpaaDoorJ9
import Derived.Maps.AppendAt
import Derived.Test.YtgjlgamlmmjdpaaDoorJ11
/- Lemmas on memory: rows of the call's own, append, bytes as a string, cursors carried along. -/
namespace Go.Proofs.YtgjlgamlmmjdpaaDoor
open Go.RowKit
set_option maxRecDepth 100000

theorem env_ne {w : World} {b : Nat} {s : CS} (hg : Env w) (h : CurB w b s) : b ≠ 0 := by
  rintro rfl
  obtain ⟨_, _, _, hb, _⟩ := h
  have h0 := cell_of_heap hb 0
  unfold Env at hg
  rw [hg] at h0
  simp at h0
theorem env_ne_int {w : World} {b : Nat} {K : IntKind} {a : Int} {T : TypeId} {fz : Nat × Nat} (hg : Env w) (h : w.heap[b]? = some (.cells #[.int K a] T fz)) : b ≠ 0 := by
  rintro rfl
  have h0 := cell_of_heap h 0
  unfold Env at hg
  rw [hg] at h0
  simp at h0
theorem cell_one_new' (w : World) (v : Value) (T : TypeId) : ∀ j u, [v][j]? = some u → (w.alloc (.cells #[v] T)).cell? ((⟨w.heap.size, 0, none⟩ : Addr).add j) = some u := by
  intro j u hj
  match j, hj with
  | 0, hj => simp at hj; subst hj; simp [Addr.add]
theorem one_int (k : IntKind) (n : Int) : ∀ u ∈ [Value.int k n], u.oneCell' = true := by
  intro u hu; simp at hu; subst hu; rfl
theorem owned_lit (w : World) (base : Nat) (xs : List Value) (E : TypeId) (n : Nat) (hb : base ≤ w.heap.size) (hn : n = xs.length) (hm : n ≤ maxLen) :
    (w.alloc (.cells xs.toArray E)).ownsRow base E 1 (.slice (some ⟨w.heap.size, 0, none⟩) n n) n xs :=
  ⟨by rw [hn, Nat.mul_one], .inr ⟨w.heap.size, n, _, rfl, hb, heap_alloc_eq w _, Nat.le_refl _, hm, by simp [hn], by rw [hn, Nat.mul_one]; simp⟩⟩
theorem owned_frame {w w' : World} {base : Nat} {e : TypeId} {size : Nat} {v : Value} {n : Nat} {xs : List Value} (h : w.ownsRow base e size v n xs) {S : List Nat} (k : Chg S w w') (hn : ∀ b, v.ownBlock = some b → b ∉ S) : w'.ownsRow base e size v n xs := by
  refine ⟨h.1, ?_⟩
  rcases h.2 with hn' | ⟨g, cap, cur, rfl, hb, hgg, rest⟩
  · exact .inl hn'
  · exact .inr ⟨g, cap, cur, rfl, hb, k.heap hgg (hn g rfl), rest⟩
theorem owned_base {w : World} {base base' : Nat} {e : TypeId} {size : Nat} {v : Value} {n : Nat} {xs : List Value} (h : w.ownsRow base e size v n xs) (hb : base' ≤ base) : w.ownsRow base' e size v n xs := by
  refine ⟨h.1, ?_⟩
  rcases h.2 with hn' | ⟨g, cap, cur, rfl, hb', hgg, rest⟩
  · exact .inl hn'
  · exact .inr ⟨g, cap, cur, rfl, by omega, hgg, rest⟩
/-- A row that is not empty lies somewhere. -/
theorem owned_at {w : World} {base : Nat} {e : TypeId} {v : Value} {n : Nat} {xs : List Value} (h : w.ownsRow base e 1 v n xs) (hp : 0 < n) :
    ∃ g cap, v = .slice (some ⟨g, 0, none⟩) n cap ∧ n ≤ cap ∧ cap ≤ maxLen ∧ base ≤ g ∧ g < w.heap.size ∧ ∀ j u, xs[j]? = some u → w.cell? ((⟨g, 0, none⟩ : Addr).add j) = some u := by
  rcases h.2 with ⟨_, h0⟩ | ⟨g, cap, cur, rfl, hb, hg, hnc, hcm, _⟩
  · omega
  · exact ⟨g, cap, rfl, hnc, hcm, hb, lt_of_heap hg, h.cells rfl⟩
theorem bytes_one (l : List UInt8) : ∀ u ∈ bytesV l, u.oneCell' = true := by
  intro u hu
  obtain ⟨x, _, rfl⟩ := List.mem_map.1 hu
  rfl
theorem bytesV_ofNat (x : Nat) (h : x < 256) : bytesV [UInt8.ofNat x] = [.int .u8 x] := by
  have e : (UInt8.ofNat x).toNat = x := by simp; omega
  simp [bytesV, byteV, e]
theorem bytesV_append (a b : List UInt8) : bytesV (a ++ b) = bytesV a ++ bytesV b := by simp [bytesV]

theorem foldl_push (ns : List Int) (s : ByteArray) : ns.foldl (fun r n => r.push (UInt8.ofNat n.toNat)) s = ⟨s.data ++ (ns.map fun n => UInt8.ofNat n.toNat).toArray⟩ := by
  induction ns generalizing s with
  | nil => simp
  | cons n r ih => simp only [List.foldl_cons, ih]; simp [ByteArray.push]
theorem Rd_bytes_cells {w : World} {ad : Addr} {n cap : Nat} {l : List UInt8} (h : Rd w (.slice (some ad) n cap) (bytesV l)) :
    n = l.length ∧ ∀ j u, (bytesV l)[j]? = some u → w.cell? (ad.add j) = some u := by
  obtain ⟨a', n', cap', he, hn, _, _, hx⟩ := h
  cases he
  rw [bytesV_length] at hn
  refine ⟨hn, fun j u hu => ?_⟩
  have hne : bytesV l ≠ [] := by intro e; rw [e] at hu; simp at hu
  obtain ⟨b, off, hb, hc⟩ := hx hne
  cases hb
  rw [Addr_add, hc j (by rcases Nat.lt_or_ge j (bytesV l).length with h | h; exact h; rw [List.getElem?_eq_none_iff.2 h] at hu; cases hu)]
  exact hu
theorem app_bytes_at {w : World} {ops : Array Oper} {rest : List Oper} {o : Oper} {a : Act} {Q : Exit → Act → World → Prop} (hgd : o.guard = none) (s x : Operand)
    (ho : o.op = .call { callee := .builtin .append, args := #[s, x], argTypes := #[22, 22] })
    (base : Nat) (v : Value) (n : Nat) (xs : List Value) (hs : a.eval s = v) (hown : w.ownsRow base 5 1 v n xs)
    (xv : Value) (hx : a.eval x = xv) (l : List UInt8) (hrd : Rd w xv (bytesV l)) (hle : n + l.length ≤ 140737488355328) (hbase : base ≤ w.heap.size)
    (h : ∀ v' w', w'.ownsRow base 5 1 v' (n + l.length) (xs ++ bytesV l) → w.grownBy w' v.ownBlock → (v'.ownBlock = v.ownBlock ∨ v'.ownBlock = some w.heap.size) → wpList Tryd.prog ops Q rest (a.put o.dst v') w') :
    wpList Tryd.prog ops Q (o :: rest) a w := by
  obtain ⟨i0, hi, hz0, hz1, hz2⟩ := info_parts Tryd.infoU8
  obtain ⟨ax, m, c, rfl, hm, _, _, hcl⟩ := id hrd
  rw [bytesV_length] at hm
  cases ax with
  | none =>
    have hl : l = [] := by
      cases l with
      | nil => rfl
      | cons b l => obtain ⟨_, _, h, _⟩ := hcl (by simp [bytesV]); cases h
    subst hl
    simp only [List.length_nil] at hm
    subst hm
    refine wpList_plain hgd fun K hK => ?_
    have hrun : (Builtin.append_ #[22, 22] o.type #[v, .slice none 0 c]).run Tryd.prog w = .ok v w := by
      rcases hown.2 with ⟨rfl, rfl⟩ | ⟨g, cap, cur, rfl, _, _, hnc, _⟩
      · simp [Builtin.append_, run_underlying Tryd.underlying22, sizeOf, typeInfo, hi, Builtin.lenOf, Builtin.firstCells]
      · simp [Builtin.append_, run_underlying Tryd.underlying22, sizeOf, typeInfo, hi, Builtin.lenOf, Builtin.firstCells, hnc, storeCells]
    unfold Oper.wp
    simp [execOp, ho, resolve, invoke, builtin, hs, hx, hrun, Result.andThen]
    have := h v w (by simpa [bytesV] using hown) ⟨rfl, rfl, rfl, Nat.le_refl _, fun _ _ _ => rfl⟩ (.inl rfl)
    exact hK _ _ this
  | some ad =>
    obtain ⟨hl, hc⟩ := Rd_bytes_cells hrd
    subst hl
    refine wpList_append_own_at _ hgd s x 22 ho base 5 i0 (.int .u8 0) 1 1 Tryd.underlying22 hi hz0 hz1 hz2 rfl (by decide) v n xs hs hown ad l.length c (bytesV l) hx (by rw [bytesV_length, Nat.mul_one]) hc (bytes_one _) (by unfold maxLen; omega) (by omega) hbase (fun v' w' h1 h2 _ h3 => h v' w' h1 h2 h3)
theorem app_bytes {w : World} {ops : Array Oper} {rest : List Oper} {o : Oper} {a : Act} {Q : Exit → Act → World → Prop} (hgd : o.guard = none) (s x : Operand)
    (ho : o.op = .call { callee := .builtin .append, args := #[s, x], argTypes := #[22, 22] })
    (base : Nat) (v : Value) (n : Nat) (xs : List Value) (hs : a.eval s = v) (hown : w.ownsRow base 5 1 v n xs)
    (xv : Value) (hx : a.eval x = xv) (l : List UInt8) (hrd : Rd w xv (bytesV l)) (hle : n + l.length ≤ 140737488355328) (hbase : base ≤ w.heap.size)
    (h : ∀ v' w', w'.ownsRow base 5 1 v' (n + l.length) (xs ++ bytesV l) → w.grownBy w' v.ownBlock → wpList Tryd.prog ops Q rest (a.put o.dst v') w') :
    wpList Tryd.prog ops Q (o :: rest) a w :=
  app_bytes_at hgd s x ho base v n xs hs hown xv hx l hrd hle hbase (fun v' w' h1 h2 _ => h v' w' h1 h2)
/-- The one byte that 'append(x, b)' lays ahead. -/
theorem Rd_one (w : World) (b : UInt8) (t : TypeId) : Rd (w.alloc (.cells #[.int .u8 b.toNat] t)) (.slice (some ⟨w.heap.size, 0, none⟩) 1 1) (bytesV [b]) := by
  refine ⟨_, _, _, rfl, rfl, Nat.le_refl _, by unfold maxLen; omega, fun _ => ⟨_, _, rfl, fun j hj => ?_⟩⟩
  obtain rfl : j = 0 := by simp [bytesV] at hj; exact hj
  rw [cell_of_heap (heap_alloc_eq w _)]
  rfl
/-- A buffer of the call's own: its bytes. -/
def Buf (w : World) (base : Nat) (v : Value) (l : List UInt8) : Prop := w.ownsRow base 5 1 v l.length (bytesV l)
theorem Buf.mk' {w : World} {base n : Nat} {v : Value} {l : List UInt8} (h : w.ownsRow base 5 1 v n (bytesV l)) : Buf w base v l := by
  have : n = l.length := by have := h.1; rw [bytesV_length] at this; omega
  subst this; exact h
theorem Buf.nil (w : World) (base : Nat) : Buf w base (.slice none 0 0) [] := World.ownsRow_nil w base 5 1
theorem Buf.frame {w w' : World} {base : Nat} {v : Value} {l : List UInt8} (h : Buf w base v l) {S : List Nat} (k : Chg S w w') (hn : ∀ b, v.ownBlock = some b → b ∉ S) : Buf w' base v l := owned_frame h k hn
theorem Buf.pure {w w' : World} {base : Nat} {v : Value} {l : List UInt8} (h : Buf w base v l) (k : Chg [] w w') : Buf w' base v l := h.frame k (fun _ _ hm => by cases hm)
theorem Buf.rd {w : World} {base : Nat} {v : Value} {l : List UInt8} (h : Buf w base v l) : Rd w v (bytesV l) := Rd.owned h
theorem Buf.app {w' : World} {base : Nat} {v : Value} {l m : List UInt8} (h : w'.ownsRow base 5 1 v (l.length + m.length) (bytesV l ++ bytesV m)) : Buf w' base v (l ++ m) := by
  unfold Buf; rw [List.length_append, bytesV_append]; exact h
/-- Two buffers of the call's own, apart. -/
structure Two (w : World) (base : Nat) (v1 : Value) (l1 : List UInt8) (v2 : Value) (l2 : List UInt8) : Prop where
  one : Buf w base v1 l1
  two : Buf w base v2 l2
  ne : ∀ k, v1.ownBlock = some k → v2.ownBlock ≠ some k
section
variable {w w' : World} {base : Nat} {v1 v2 : Value} {l1 l2 : List UInt8}
theorem Two.swap (h : Two w base v1 l1 v2 l2) : Two w base v2 l2 v1 l1 := ⟨h.two, h.one, fun k h1 h2 => h.ne k h2 h1⟩
theorem Two.pure (h : Two w base v1 l1 v2 l2) (k : Chg [] w w') : Two w' base v1 l1 v2 l2 := ⟨h.one.pure k, h.two.pure k, h.ne⟩
theorem Two.app (h : Two w base v1 l1 v2 l2) {v : Value} {l : List UInt8} (hv : w'.ownsRow base 5 1 v (l1.length + l.length) (bytesV l1 ++ bytesV l)) (hg : w.grownBy w' v1.ownBlock)
    (ha : v.ownBlock = v1.ownBlock ∨ v.ownBlock = some w.heap.size) : Two w' base v (l1 ++ l) v2 l2 := by
  have hne : v2.ownBlock = none ∨ v2.ownBlock ≠ v1.ownBlock := by
    cases h2 : v2.ownBlock with
    | none => exact .inl rfl
    | some k => exact .inr (fun e => h.ne k e.symm h2)
  refine ⟨Buf.app hv, World.ownsRow.kept h.two hg hne, fun k hk h2 => ?_⟩
  rcases ha with e | e
  · exact h.ne k (e ▸ hk) h2
  · rw [e] at hk
    have := (World.ownsRow.lt h.two k h2).2
    cases hk
    omega
end

theorem Rd_new (w : World) (xs : List Value) (T : TypeId) (n : Nat) (hn : n = xs.length) (hl : xs.length ≤ maxLen) : Rd (w.alloc (.cells xs.toArray T)) (.slice (some ⟨w.heap.size, 0, none⟩) n n) xs := by
  refine ⟨_, _, _, rfl, hn, Nat.le_refl _, by rw [hn]; exact hl, fun _ => ⟨_, _, rfl, fun j _ => ?_⟩⟩
  rw [Nat.zero_add, World.cell?_alloc_at _ _ _ _ rfl]
  simp
/-- Since world w0 nothing has turned but new blocks; there stand the cursors cs, no two of them one. -/
structure Curs (w0 w : World) (cs : List (Nat × CS)) : Prop where
  env : Env w
  chg : Chg [] w0 w
  all : ∀ p ∈ cs, w0.heap.size ≤ p.1 ∧ CurB w p.1 p.2
  nodup : (cs.map (·.1)).Nodup
theorem Curs.start {w : World} (h : Env w) : Curs w w [] := ⟨h, Chg.refl _ _, fun _ hp => (by cases hp), by simp⟩
theorem Curs.pure {w0 w w' : World} {cs : List (Nat × CS)} (h : Curs w0 w cs) (k : Chg [] w w') : Curs w0 w' cs :=
  ⟨h.env.frame k (by simp), h.chg.then k, fun p hp => ⟨(h.all p hp).1, (h.all p hp).2.frame k⟩, h.nodup⟩
theorem Curs.dr {w0 w w' : World} {cs : List (Nat × CS)} (h : Curs w0 w cs) (k : Dr w w') : Curs w0 w' cs := h.pure ((Chg.refl [] _).dr k)
theorem Curs.alloc {w0 w : World} {cs : List (Nat × CS)} (h : Curs w0 w cs) (o : Obj) : Curs w0 (w.alloc o) cs := h.pure ((Chg.refl [] _).alloc o)
theorem Curs.new {w0 w w' : World} {cs : List (Nat × CS)} {b : Nat} {s : CS} (h : Curs w0 w cs) (k : Chg [] w w') (hb : CurB w' b s) (hn : w.heap.size ≤ b) : Curs w0 w' ((b, s) :: cs) := by
  have h' := h.pure k
  refine ⟨h'.env, h'.chg, fun p hp => ?_, ?_⟩
  · cases hp with
    | head => exact ⟨Nat.le_trans h.chg.size hn, hb⟩
    | tail _ hp => exact h'.all p hp
  · rw [List.map_cons, List.nodup_cons]
    refine ⟨fun hm => ?_, h.nodup⟩
    obtain ⟨p, hp, he⟩ := List.mem_map.1 hm
    have := (h.all p hp).2.lt
    have he' : p.1 = b := he
    omega
theorem Curs.cur {w0 w : World} {cs : List (Nat × CS)} {b : Nat} {s : CS} (h : Curs w0 w ((b, s) :: cs)) : CurB w b s := (h.all (b, s) (List.mem_cons_self ..)).2
theorem Curs.tail {w0 w : World} {cs : List (Nat × CS)} {p : Nat × CS} (h : Curs w0 w (p :: cs)) : Curs w0 w cs :=
  ⟨h.env, h.chg, fun q hq => h.all q (List.mem_cons_of_mem _ hq), (List.nodup_cons.1 h.nodup).2⟩
/-- A call of a method of the first one. -/
theorem Curs.call {w0 w w' : World} {cs : List (Nat × CS)} {b : Nat} {s s' : CS} (h : Curs w0 w ((b, s) :: cs)) (hb : CurB w' b s') (k : Chg [b] w w') : Curs w0 w' ((b, s') :: cs) := by
  have hnd := List.nodup_cons.1 h.nodup
  have h0 := (h.all (b, s) (List.mem_cons_self ..)).1
  refine ⟨h.env.frame k (by have := env_ne h.env h.cur; simp; omega), h.chg.new k h0, fun p hp => ?_, h.nodup⟩
  cases hp with
  | head => exact ⟨h0, hb⟩
  | tail _ hp =>
    have hp' := h.all p (List.mem_cons_of_mem _ hp)
    refine ⟨hp'.1, hp'.2.frame2 h.cur (fun e => hnd.1 ?_) k⟩
    exact List.mem_map.2 ⟨p, hp, e⟩
theorem Curs.perm {w0 w : World} {cs cs' : List (Nat × CS)} (h : Curs w0 w cs) (hp : cs.Perm cs') : Curs w0 w cs' :=
  ⟨h.env, h.chg, fun p hm => h.all p (hp.mem_iff.2 hm), (hp.map _).nodup_iff.1 h.nodup⟩
theorem Curs.swap {w0 w : World} {cs : List (Nat × CS)} {p q : Nat × CS} (h : Curs w0 w (p :: q :: cs)) : Curs w0 w (q :: p :: cs) := h.perm (List.Perm.swap ..)
theorem Curs.third {w0 w : World} {cs : List (Nat × CS)} {p q r : Nat × CS} (h : Curs w0 w (p :: q :: r :: cs)) : Curs w0 w (r :: p :: q :: cs) :=
  h.perm ((List.Perm.cons p (List.Perm.swap ..)).trans (List.Perm.swap ..))
set_option maxRecDepth 100000
theorem Clone_any (v : Value) (l : List UInt8) (w : World) (hv : Rd w v (bytesV l)) (hl : l.length ≤ 140737488355328) :
    Calls Tryd.prog 43 #[v] w fun e w' => ∃ v', e = .returned v' ∧ Buf w' w.heap.size v' l ∧ Chg [] w w' := by
  obtain ⟨a, n, cap, rfl, hn, hnc, hcm, hx⟩ := hv
  rw [bytesV_length] at hn
  subst hn
  cases a with
  | none =>
    have hnil : l = [] := by
      cases l with
      | nil => rfl
      | cons x r => obtain ⟨b, off, h, _⟩ := hx (by simp [bytesV]); cases h
    subst hnil
    exact (Clone_nil _ _ w).mono fun e w' ⟨he, hw⟩ => ⟨_, he, Buf.nil _ _, by rw [← hw]; exact Chg.refl _ _⟩
  | some ad =>
    refine (Clone_some ad _ cap (bytesV l) w (bytesV_length l).symm hl (bytes_one l) ?_).mono fun e w' ⟨v', he, ho, hc⟩ => ⟨v', he, ho, hc⟩
    intro j u hu
    obtain ⟨hj, _⟩ := List.getElem?_eq_some_iff.1 hu
    obtain ⟨b, off, h, hcell⟩ := hx (by intro e; rw [e] at hj; simp at hj)
    cases h
    rw [Addr_add, hcell j hj, hu]
theorem takeL_len_le {w : World} {b : Nat} {s : CS} (h : CurB w b s) (m : Int) : (takeL s m).length ≤ 140737488355328 := by
  have := h.len_le
  cases hc : canTake s m with
  | false => rw [takeL_no hc]; simp
  | true =>
    have h1 := takeL_length h.at_le hc
    obtain ⟨_, h0, h2⟩ := canTake_spec hc
    omega
theorem Bytes_cur (b : Nat) (s : CS) (m : Int) (w : World) (h : CurB w b s) :
    Calls Tryd.prog 50 #[.pointer (some ⟨b, 0, none⟩), .int .i64 m] w fun e w' => ∃ v, e = .returned v ∧ CurB w' b (takeS s m) ∧ Buf w' w.heap.size v (takeL s m) ∧ Chg [b] w w' := by
  have HL := Lib.hid (takeL_len_le h m)
  have H := Lib.hid h
  clear h
  go_enter Tryd.func50, Tryd.ntmps50
  go_wp2_with fail
  refine (take_cur b s m w H.out).mono ?_
  rintro e w1 ⟨v, rfl, hcx, hrd, hch⟩
  have hsz := hch.size
  have Hcx := Lib.hid hcx
  have Hrd := Lib.hid hrd
  have Hch := Lib.hid hch
  clear hcx hrd hch
  go_wp2_with fail
  refine (Clone_any v _ w1 Hrd.out HL.out).mono ?_
  rintro e w2 ⟨v', rfl, hb, hc2⟩
  have HB := Lib.hid (owned_base hb hsz)
  have Hc2 := Lib.hid hc2
  have Hb := Lib.hid hb
  clear hc2 hb
  go_wp2
  go_ret
  exact ⟨_, rfl, Hcx.out.frame Hc2.out, HB.out, Hch.out.then Hc2.out⟩
/-- A write to blocks behind the cursor's own. -/
theorem CurB.far {w w' : World} {b : Nat} {s : CS} (h : CurB w b s) {S : List Nat} (k : Chg S w w') (hS : ∀ i ∈ S, b < i) : CurB w' b s := by
  obtain ⟨a, n, cap, hb, h1, h2, h3, h4, h5, h6⟩ := h
  refine ⟨a, n, cap, k.heap hb (fun hm => by have := hS b hm; omega), h1, h2, h3, h4, h5, fun hn => ?_⟩
  obtain ⟨d, off, c, ha, hdb, hd, hc⟩ := h6 hn
  have hdS : d ∉ S := fun hm => by have := hS d hm; omega
  exact ⟨d, off, c, ha, hdb, k.heap hd hdS, fun j hj => k.cell (hc j hj) hdS⟩
theorem Chg.of_grown {a b : World} {row : Option Nat} (g : a.grownBy b row) : Chg row.toList a b :=
  ⟨g.os, g.tape, g.output, g.size, fun k hk hn => g.block k hk (fun e => hn (by rw [← e]; simp))⟩
theorem Curs.far {w0 w w' : World} {cs : List (Nat × CS)} (h : Curs w0 w cs) {S : List Nat} (k : Chg S w w') (hS : ∀ i ∈ S, w0.heap.size ≤ i ∧ 0 < i ∧ ∀ p ∈ cs, p.1 < i) : Curs w0 w' cs :=
  ⟨h.env.frame k (fun hm => by have := (hS _ hm).2.1; omega), h.chg.trans k (fun i hm hi => by have := (hS _ hm).1; omega), fun p hp => ⟨(h.all p hp).1, (h.all p hp).2.far k (fun i hi => (hS i hi).2.2 p hp)⟩, h.nodup⟩
theorem buf_ne {w : World} {base b : Nat} {v : Value} {l : List UInt8} {s : CS} (h : Buf w base v l) (hb : CurB w b s) : ∀ k, v.ownBlock = some k → k ∉ [b] := by
  intro k hk hm
  rw [List.mem_singleton] at hm
  subst hm
  obtain ⟨_, _, _, hbb, _⟩ := hb
  rcases h.2 with ⟨rfl, _⟩ | ⟨g, cap, cur, rfl, _, hg, _⟩
  · cases hk
  · cases hk
    rw [hg] at hbb
    simp at hbb
end Go.Proofs.YtgjlgamlmmjdpaaDoor
